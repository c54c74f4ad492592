import Derived.Test.YtenedmcobknefaaQBase
namespace Go.Proofs.Ytenedmcobknefaa.Q
open Go.RowKit Go.Proofs.YtenedmcobknefaaW.PrintWords
set_option linter.unusedVariables false
set_option linter.unusedSimpArgs false

/-! Groups of spots: the least spot that edges lead to. -/
/-! Passes till nothing changes. -/
/-! So many passes as there are spots are enough: each makes one spot more right. -/
def right (n : Nat) (m g : List Int) : Nat := (List.range n).countP fun v : Nat => decide (rd g (v : Int) = rd m (v : Int))
end Go.Proofs.Ytenedmcobknefaa.Q
