/- What functions of the program answer, as plain functions: used by the laws of this claim. -/
import Derived.Test.YtolncjkfcmbieaaB0
import Derived.Test.YtolncjkfcmbieaaF34
namespace Go.Proofs.Ytolncjkfcmbieaa.Pure
open Go.RowKit Go.Proofs.Ytolncjkfcmbieaa.P Go.Proofs.YtolncjkfcmbieaaW.PrintWords Go.Proofs.Ytolncjkfcmbieaa.Q
set_option linter.unusedVariables false
set_option linter.unusedSimpArgs false

theorem laws_heldIntS_loop (n : Nat) : ∀ (p : List Int) (a : Int), p.length + n ≤ 9223372036854775806 → 0 ≤ a → a + n ≤ 9223372036854775807 → Ev (fun k => laws_heldIntS.l0 k (p ++ marks n a) a (p.length : Int)) (a + n) := by
  induction n with
  | zero =>
    intro p a _ _ _
    refine ev_succ.1 ?_
    simp only [laws_heldIntS.l0, marks, c_end, Int.lt_irrefl, if_false, ev_some]
    simp
  | succ n ih =>
    intro p a hb h0 h1
    refine ev_succ.1 ?_
    simp only [laws_heldIntS.l0, marks, c_lt, c_nn, c_rd, if_true]
    rw [w64 (n := a + 1) (by omega) (by omega), c_next p a (marks n (a + 1)) (by simp [marks_length]; omega), c_app p a (marks n (a + 1))]
    have := ih (p ++ [a]) (a + 1) (by simp; omega) (by omega) (by omega)
    rw [show a + ((n + 1 : Nat) : Int) = a + 1 + (n : Int) by omega]
    exact this
theorem laws_heldIntS_ev (n : Nat) (a : Int) (h : n ≤ 9223372036854775806) (h0 : 0 ≤ a) (h1 : a + n ≤ 9223372036854775807) : Ev (fun k => laws_heldIntS.f k (marks n a) a) (a + n) := by
  unfold laws_heldIntS.f
  exact laws_heldIntS_loop n [] a (by simpa using h) h0 h1

end Go.Proofs.Ytolncjkfcmbieaa.Pure
