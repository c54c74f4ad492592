/- The plain statement behind the law FnExactUpLinks: for all arguments it answers true. -/
import Derived.Test.YtpohlcjkabojcaaB0
import Derived.Test.YtpohlcjkabojcaaF9
import Derived.Test.YtpohlcjkabojcaaB1
import Derived.Test.YtpohlcjkabojcaaB3
import Derived.Test.YtpohlcjkabojcaaB6
import Derived.Test.YtpohlcjkabojcaaB7
import Derived.Test.YtpohlcjkabojcaaB8
import Derived.Test.YtpohlcjkabojcaaB10
import Derived.Test.YtpohlcjkabojcaaQHaves
namespace Go.Proofs.Ytpohlcjkabojcaa.Pure
open Go.RowKit Go.Proofs.Ytpohlcjkabojcaa.P Go.Proofs.YtpohlcjkabojcaaW.PrintWords Go.Proofs.Ytpohlcjkabojcaa.Q
set_option linter.unusedVariables false
set_option linter.unusedSimpArgs false

theorem FnExactUpLinks (n : Int) (l0 : List S105) (d : List Int) (h0 : List S129) (_ : (Lit.int .i64 n).wf = true) (hl : l0.length ≤ maxLen ∧ ∀ y ∈ l0, G105 y) (hd : d.length ≤ maxLen ∧ ∀ y ∈ d, (Lit.int .i64 y).wf = true) (hh : h0.length ≤ maxLen ∧ ∀ y ∈ h0, G129 y) : ∃ k, laws_FnExactUpLinks.f k n l0 d h0 = some true := by
  refine Ev.rounds ?_
  unfold laws_FnExactUpLinks.f
  obtain ⟨r, hr, hr2⟩ := laws_szCampus_ev n l0 d h0 hl.1 hd.1 ⟨hh.1, fun x hx => (hh.2 x hx).2.2.1⟩
  simp only [ev_bind hr]
  rcases hr2 with hr2 | ⟨b1, b2, b3, hr2⟩
  · simp only [hr2, if_true]; exact Ev.now _
  have hto := laws_toCampus_ev n l0 d h0 b1 b2 b3
  have hs : (l0.map toE).length ≤ 1048576 := by simpa using b1
  have hp : plSize (h0.map toPl) ≤ 1048576 := by rw [lplSize_map]; exact b3
  generalize l0.map toE = l at hto hs
  generalize h0.map toPl = h at hto hp
  have hi := impl_UpLinks_ev n l d h (by omega) (by omega) (by omega)
  have hw := spec_UpLinks_ev n l d h (by omega) (by omega) (by omega)
  have hv : (if goodC n (l.map trip) d (h.map pl3) = true then (dropFrom d 0 l, true) else (([] : List S86), false)).1.length ≤ 1048576 := by
    have := dropFrom_length d l 0
    split
    · simp only; omega
    · simp
  generalize (if goodC n (l.map trip) d (h.map pl3) = true then (dropFrom d 0 l, true) else (([] : List S86), false)) = v at hi hw hv
  obtain ⟨r1, r2⟩ := v
  simp only at hv
  obtain ⟨q, hq0, hq⟩ := laws_markCampus_ev n l d h hs b2 hp
  simp only [hr2, if_false, ev_bind hto, ev_bind hw, ev_bind hi, ev_bind (laws_eqEdgeS_ev r1 (by omega)), if_true, bne_self_eq_false]
  refine ev_succ.1 ?_
  simp only [laws_FnExactUpLinks.j0, Bool.false_eq_true, if_false, if_true, bne_self_eq_false, ev_bind hto, ev_bind (laws_eqCampus_ev n l d h (by omega) (by omega) (by omega)), ev_bind hq, show (q < 0) = False from eq_false (by omega), ev_bind (laws_eqEdgeS_ev r1 (by omega))]
  refine ev_succ.1 ?_
  simp only [laws_FnExactUpLinks.j1, Bool.false_eq_true, if_false, if_true, bne_self_eq_false, ev_bind (laws_markEdgeS_ev r1 1 (by omega) (by omega) (by omega)), ev_bind (laws_heldEdgeS_ev r1.length 1 (by omega) (by omega) (by omega)), show (1 + 3 * (r1.length : Int) < 0) = False from eq_false (by omega), ev_bind hto, ev_bind hi, ev_bind (laws_eqEdgeS_ev r1 (by omega))]
  refine ev_succ.1 ?_
  simp only [laws_FnExactUpLinks.j2, Bool.false_eq_true, if_false, if_true, bne_self_eq_false, ev_bind (laws_heldEdgeS_ev r1.length 1 (by omega) (by omega) (by omega)), show (1 + 3 * (r1.length : Int) < 0) = False from eq_false (by omega)]
  exact Ev.now _

end Go.Proofs.Ytpohlcjkabojcaa.Pure
