/- What functions of the program answer, as plain functions: used by the laws of this claim. -/
import Derived.Test.YtnoklicihomfoaaB0
import Derived.Test.YtnoklicihomfoaaF13
namespace Go.Proofs.Ytnoklicihomfoaa.Pure
open Go.RowKit Go.Proofs.Ytnoklicihomfoaa.P Go.Proofs.YtnoklicihomfoaaW.PrintWords Go.Proofs.Ytnoklicihomfoaa.Q
set_option linter.unusedVariables false
set_option linter.unusedSimpArgs false

theorem laws_heldEdgeS_loop (n : Nat) : ∀ (p : List S84) (a : Int), p.length + n ≤ 9223372036854775806 → 0 ≤ a → a + 3 * n ≤ 9223372036854775807 → Ev (fun k => laws_heldEdgeS.l0 k (p ++ marksE n a) a (p.length : Int)) (a + 3 * n) := by
  induction n with
  | zero =>
    intro p a _ _ _
    refine ev_succ.1 ?_
    simp only [laws_heldEdgeS.l0, marksE, c_end, Int.lt_irrefl, if_false, ev_some]
    simp
  | succ n ih =>
    intro p a hb h0 h1
    refine ev_succ.1 ?_
    simp only [laws_heldEdgeS.l0, marksE, c_lt, c_nn, rdE_at, if_true]
    rw [w64 (n := a + 1) (by omega) (by omega), w64 (n := a + 1 + 1) (by omega) (by omega), w64 (n := a + 1 + 1 + 1) (by omega) (by omega), c_next p (⟨a, a + 1, a + 2⟩ : S84) (marksE n (a + 3)) (by simp [marksE_length]; omega), c_app p (⟨a, a + 1, a + 2⟩ : S84) (marksE n (a + 3)), show a + 1 + 1 = a + 2 by omega, show a + 2 + 1 = a + 3 by omega]
    have := ih (p ++ [⟨a, a + 1, a + 2⟩]) (a + 3) (by simp; omega) (by omega) (by omega)
    rw [show a + 3 * ((n + 1 : Nat) : Int) = a + 3 + 3 * (n : Int) by omega]
    simpa using this
theorem laws_heldEdgeS_ev (n : Nat) (a : Int) (h : n ≤ 9223372036854775806) (h0 : 0 ≤ a) (h1 : a + 3 * n ≤ 9223372036854775807) : Ev (fun k => laws_heldEdgeS.f k (marksE n a) a) (a + 3 * n) := by
  unfold laws_heldEdgeS.f
  exact laws_heldEdgeS_loop n [] a (by simpa using h) h0 h1

end Go.Proofs.Ytnoklicihomfoaa.Pure
