import Derived.Test.YtefdgdloghhnaaaQShort
namespace Go.Proofs.Ytefdgdloghhnaaa.Q
open Go.RowKit Go.Proofs.YtefdgdloghhnaaaW.PrintWords
set_option linter.unusedVariables false
set_option linter.unusedSimpArgs false

/-! The neighbours of a spot, those of them that lie nearer to another one, and the way there. -/
end Go.Proofs.Ytefdgdloghhnaaa.Q
