/- The plain statement behind the law FnExactSendOne: for all arguments it answers true. -/
import Derived.Test.YtpohlcjkabojcaaB0
import Derived.Test.YtpohlcjkabojcaaF18
import Derived.Test.YtpohlcjkabojcaaB1
import Derived.Test.YtpohlcjkabojcaaB3
import Derived.Test.YtpohlcjkabojcaaB7
import Derived.Test.YtpohlcjkabojcaaB10
import Derived.Test.YtpohlcjkabojcaaB13
import Derived.Test.YtpohlcjkabojcaaB17
namespace Go.Proofs.Ytpohlcjkabojcaa.Pure
open Go.RowKit Go.Proofs.Ytpohlcjkabojcaa.P Go.Proofs.YtpohlcjkabojcaaW.PrintWords Go.Proofs.Ytpohlcjkabojcaa.Q
set_option linter.unusedVariables false
set_option linter.unusedSimpArgs false

theorem sendAny_length (n : Int) (l : List S86) (d : List Int) (h : List S130) (a b : Int) : (sendAny n l d h a b).1.length ≤ 1200 := by
  unfold sendAny
  split
  · split
    · split
      · exact sendV_length _ _ _ _
      · simp
    · simp
  · simp
theorem FnExactSendOne (n : Int) (l0 : List S105) (d : List Int) (h0 : List S129) (a b : Int) (_ : (Lit.int .i64 n).wf = true) (hl : l0.length ≤ maxLen ∧ ∀ y ∈ l0, G105 y) (hd : d.length ≤ maxLen ∧ ∀ y ∈ d, (Lit.int .i64 y).wf = true) (hh : h0.length ≤ maxLen ∧ ∀ y ∈ h0, G129 y) (ha : (Lit.int .i64 a).wf = true) (hb : (Lit.int .i64 b).wf = true) : ∃ k, laws_FnExactSendOne.f k n l0 d h0 a b = some true := by
  refine Ev.rounds ?_
  unfold laws_FnExactSendOne.f
  obtain ⟨r, hr, hr2⟩ := laws_szCampus_ev n l0 d h0 hl.1 hd.1 ⟨hh.1, fun x hx => (hh.2 x hx).2.2.1⟩
  simp only [ev_bind hr]
  rcases hr2 with hr2 | ⟨b1, b2, b3, hr2⟩
  · simp only [hr2, if_true]; exact Ev.now _
  have hto := laws_toCampus_ev n l0 d h0 b1 b2 b3
  have hs : (l0.map toE).length ≤ 1048576 := by simpa using b1
  have hp : plSize (h0.map toPl) ≤ 1048576 := by rw [lplSize_map]; exact b3
  generalize l0.map toE = l at hto hs
  generalize h0.map toPl = h at hto hp
  have hi := impl_SendOne_ev n l d h a b ha hb (by omega) (by omega) (by omega)
  have hw := spec_SendOne_ev n l d h a b (by omega) (by omega) (by omega)
  have hv := sendAny_length n l d h a b
  generalize sendAny n l d h a b = v at hi hw hv
  obtain ⟨r1, r2, r3⟩ := v
  simp only at hv
  obtain ⟨q, hq0, hq⟩ := laws_markCampus_ev n l d h hs b2 hp
  simp only [hr2, if_false, ev_bind hto, ev_bind hw, ev_bind hi, ev_bind (laws_eqHopS_ev r1 (by omega)), if_true, bne_self_eq_false, Bool.false_eq_true]
  refine ev_succ.1 ?_
  simp only [laws_FnExactSendOne.j0, Bool.false_eq_true, if_false, if_true, bne_self_eq_false, ev_bind hto, ev_bind (laws_eqCampus_ev n l d h (by omega) (by omega) (by omega)), ev_bind hq, show (q < 0) = False from eq_false (by omega), ev_bind (laws_eqHopS_ev r1 (by omega))]
  refine ev_succ.1 ?_
  simp only [laws_FnExactSendOne.j1, Bool.false_eq_true, if_false, if_true, bne_self_eq_false, ev_bind (laws_markHopS_ev r1 1 (by omega) (by omega) (by omega)), ev_bind (laws_heldHopS_ev r1.length 1 (by omega) (by omega) (by omega)), show (1 + 2 * (r1.length : Int) < 0) = False from eq_false (by omega), ev_bind hto, ev_bind hi, ev_bind (laws_eqHopS_ev r1 (by omega))]
  refine ev_succ.1 ?_
  simp only [laws_FnExactSendOne.j2, Bool.false_eq_true, if_false, if_true, bne_self_eq_false, ev_bind (laws_heldHopS_ev r1.length 1 (by omega) (by omega) (by omega)), show (1 + 2 * (r1.length : Int) < 0) = False from eq_false (by omega)]
  exact Ev.now _

end Go.Proofs.Ytpohlcjkabojcaa.Pure
