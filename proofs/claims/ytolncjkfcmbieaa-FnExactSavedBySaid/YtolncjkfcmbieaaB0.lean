/- Plain facts on the kinds of the program, used by the texts of this claim. -/
import Derived.Test.YtolncjkfcmbieaaF0
import Derived.Test.YtolncjkfcmbieaaQBase
namespace Go.Proofs.Ytolncjkfcmbieaa.Pure
open Go.RowKit Go.Proofs.Ytolncjkfcmbieaa.P Go.Proofs.YtolncjkfcmbieaaW.PrintWords Go.Proofs.Ytolncjkfcmbieaa.Q
set_option linter.unusedVariables false
set_option linter.unusedSimpArgs false

theorem rdHop_at (p : List S162) (x : S162) (t : List S162) : rd_T162 (p ++ x :: t) (p.length : Int) = x := by simp [rd_T162]
theorem etaHop (x : S162) : (⟨x.f0, x.f1⟩ : S162) = x := rfl
def marksHop : Nat → Int → List S162
  | 0, _ => []
  | n + 1, a => ⟨a, a + 1⟩ :: marksHop n (a + 2)
theorem marksHop_length (n : Nat) : ∀ a, (marksHop n a).length = n := by
  induction n with
  | zero => intro a; rfl
  | succ n ih => intro a; simp [marksHop, ih]
def hopS (x : Int × Int) : S162 := ⟨x.1, x.2⟩
def hopP (h : S162) : Int × Int := (h.f0, h.f1)

end Go.Proofs.Ytolncjkfcmbieaa.Pure
