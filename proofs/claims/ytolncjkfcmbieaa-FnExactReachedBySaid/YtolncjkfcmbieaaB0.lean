/- Plain facts on the kinds of the program, used by the texts of this claim. -/
import Derived.Test.YtolncjkfcmbieaaF0
import Derived.Test.YtolncjkfcmbieaaQBase
namespace Go.Proofs.Ytolncjkfcmbieaa.Pure
open Go.RowKit Go.Proofs.Ytolncjkfcmbieaa.P Go.Proofs.YtolncjkfcmbieaaW.PrintWords Go.Proofs.Ytolncjkfcmbieaa.Q
set_option linter.unusedVariables false
set_option linter.unusedSimpArgs false

theorem rdHop_at (p : List S162) (x : S162) (t : List S162) : rd_T162 (p ++ x :: t) (p.length : Int) = x := by simp [rd_T162]
theorem etaHop (x : S162) : (⟨x.f0, x.f1⟩ : S162) = x := rfl
def marksHop : Nat → Int → List S162
  | 0, _ => []
  | n + 1, a => ⟨a, a + 1⟩ :: marksHop n (a + 2)
theorem marksHop_length (n : Nat) : ∀ a, (marksHop n a).length = n := by
  induction n with
  | zero => intro a; rfl
  | succ n ih => intro a; simp [marksHop, ih]

theorem rdLHop_at (p : List S166) (x : S166) (t : List S166) : rd_T166 (p ++ x :: t) (p.length : Int) = x := by simp [rd_T166]
def toHop (e : S166) : S162 := ⟨e.f0, e.f1⟩
def G166 (x : S166) : Prop := (Lit.int .i64 x.f0).wf = true ∧ (Lit.int .i64 x.f1).wf = true

theorem rdPairStep_at (p : List S51) (x : S51) (t : List S51) : rd_T51 (p ++ x :: t) (p.length : Int) = x := by simp [rd_T51]
theorem etaPairStep (x : S51) : (⟨x.f0, x.f1⟩ : S51) = x := rfl
def marksPairStep : Nat → Int → List S51
  | 0, _ => []
  | n + 1, a => ⟨a, a + 1⟩ :: marksPairStep n (a + 2)
theorem marksPairStep_length (n : Nat) : ∀ a, (marksPairStep n a).length = n := by
  induction n with
  | zero => intro a; rfl
  | succ n ih => intro a; simp [marksPairStep, ih]

end Go.Proofs.Ytolncjkfcmbieaa.Pure
