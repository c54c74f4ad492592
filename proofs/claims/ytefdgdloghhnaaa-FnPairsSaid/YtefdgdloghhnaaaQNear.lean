import Derived.Test.YtefdgdloghhnaaaQWay
import Derived.Test.YtefdgdloghhnaaaQTree
namespace Go.Proofs.Ytefdgdloghhnaaa.Q
open Go.RowKit Go.Proofs.YtefdgdloghhnaaaW.PrintWords
set_option linter.unusedVariables false
set_option linter.unusedSimpArgs false

/-! The neighbours, put to their places one by one; good edges, some left out. -/
end Go.Proofs.Ytefdgdloghhnaaa.Q
