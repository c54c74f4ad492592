/- The plain statement behind the law FnExactCanReach: for all arguments it answers true. -/
import Derived.Test.YtpohlcjkabojcaaB0
import Derived.Test.YtpohlcjkabojcaaF15
import Derived.Test.YtpohlcjkabojcaaB1
import Derived.Test.YtpohlcjkabojcaaB3
import Derived.Test.YtpohlcjkabojcaaB7
import Derived.Test.YtpohlcjkabojcaaB14
namespace Go.Proofs.Ytpohlcjkabojcaa.Pure
open Go.RowKit Go.Proofs.Ytpohlcjkabojcaa.P Go.Proofs.YtpohlcjkabojcaaW.PrintWords Go.Proofs.Ytpohlcjkabojcaa.Q
set_option linter.unusedVariables false
set_option linter.unusedSimpArgs false

theorem FnExactCanReach (n : Int) (l0 : List S105) (d : List Int) (h0 : List S129) (a b : Int) (_ : (Lit.int .i64 n).wf = true) (hl : l0.length ≤ maxLen ∧ ∀ y ∈ l0, G105 y) (hd : d.length ≤ maxLen ∧ ∀ y ∈ d, (Lit.int .i64 y).wf = true) (hh : h0.length ≤ maxLen ∧ ∀ y ∈ h0, G129 y) (ha : (Lit.int .i64 a).wf = true) (hb : (Lit.int .i64 b).wf = true) : ∃ k, laws_FnExactCanReach.f k n l0 d h0 a b = some true := by
  refine Ev.rounds ?_
  unfold laws_FnExactCanReach.f
  obtain ⟨r, hr, hr2⟩ := laws_szCampus_ev n l0 d h0 hl.1 hd.1 ⟨hh.1, fun x hx => (hh.2 x hx).2.2.1⟩
  simp only [ev_bind hr]
  rcases hr2 with hr2 | ⟨b1, b2, b3, hr2⟩
  · simp only [hr2, if_true]; exact Ev.now _
  have hto := laws_toCampus_ev n l0 d h0 b1 b2 b3
  have hs : (l0.map toE).length ≤ 1048576 := by simpa using b1
  have hp : plSize (h0.map toPl) ≤ 1048576 := by rw [lplSize_map]; exact b3
  generalize l0.map toE = l at hto hs
  generalize h0.map toPl = h at hto hp
  simp only [hr2, if_false, ev_bind hto, ev_bind (spec_CanReach_ev n l d h a b (by omega) (by omega) (by omega)), ev_bind (impl_CanReach_ev n l d h a b ha hb (by omega) (by omega) (by omega)), bne_self_eq_false, Bool.false_eq_true]
  refine ev_succ.1 ?_
  simp only [laws_FnExactCanReach.j0, Bool.false_eq_true, if_false, ev_bind hto, ev_bind (laws_eqCampus_ev n l d h (by omega) (by omega) (by omega)), if_true]
  exact Ev.now _

end Go.Proofs.Ytpohlcjkabojcaa.Pure
