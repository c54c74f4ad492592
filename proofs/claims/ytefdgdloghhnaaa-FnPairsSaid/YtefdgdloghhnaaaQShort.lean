import Derived.Test.YtefdgdloghhnaaaQGraph
namespace Go.Proofs.Ytefdgdloghhnaaa.Q
open Go.RowKit Go.Proofs.YtefdgdloghhnaaaW.PrintWords
set_option linter.unusedVariables false
set_option linter.unusedSimpArgs false

/-! Least costs from all spots to one. -/
section
variable {n : Nat} {l : List (Int × Int × Int)} {b : Int}
end
end Go.Proofs.Ytefdgdloghhnaaa.Q
