/- Plain facts on the kinds of the program, used by the texts of this claim. -/
import Derived.Test.YtfkjnpgpofcinaaF0
import Derived.Test.YtfkjnpgpofcinaaQBase
namespace Go.Proofs.Ytfkjnpgpofcinaa.Pure
open Go.RowKit Go.Proofs.Ytfkjnpgpofcinaa.P Go.Proofs.YtfkjnpgpofcinaaW.PrintWords Go.Proofs.Ytfkjnpgpofcinaa.Q
set_option linter.unusedVariables false
set_option linter.unusedSimpArgs false

theorem rdHop_at (p : List S76) (x : S76) (t : List S76) : rd_T76 (p ++ x :: t) (p.length : Int) = x := by simp [rd_T76]
theorem etaHop (x : S76) : (⟨x.f0, x.f1⟩ : S76) = x := rfl
def marksHop : Nat → Int → List S76
  | 0, _ => []
  | n + 1, a => ⟨a, a + 1⟩ :: marksHop n (a + 2)
theorem marksHop_length (n : Nat) : ∀ a, (marksHop n a).length = n := by
  induction n with
  | zero => intro a; rfl
  | succ n ih => intro a; simp [marksHop, ih]
def hopS (x : Int × Int) : S76 := ⟨x.1, x.2⟩
def hopP (h : S76) : Int × Int := (h.f0, h.f1)

end Go.Proofs.Ytfkjnpgpofcinaa.Pure
