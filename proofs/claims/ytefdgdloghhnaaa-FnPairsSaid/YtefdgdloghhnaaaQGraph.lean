import Derived.Test.YtefdgdloghhnaaaQBase
namespace Go.Proofs.Ytefdgdloghhnaaa.Q
open Go.RowKit Go.Proofs.YtefdgdloghhnaaaW.PrintWords
set_option linter.unusedVariables false
set_option linter.unusedSimpArgs false

/-! Groups of spots: the least spot that edges lead to. -/
/-- Within the spots. -/
def Within (n : Nat) (ab : List (Int × Int)) : Prop := ∀ e ∈ ab, 0 ≤ e.1 ∧ e.1 < n ∧ 0 ≤ e.2 ∧ e.2 < n
/-! Passes till nothing changes. -/
/-! So many passes as there are spots are enough: each makes one spot more right. -/
end Go.Proofs.Ytefdgdloghhnaaa.Q
