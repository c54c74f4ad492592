/- Plain facts on the kinds of the program, used by the texts of this claim. -/
import Derived.Test.YtnoklicihomfoaaF0
import Derived.Test.YtnoklicihomfoaaQBase
namespace Go.Proofs.Ytnoklicihomfoaa.Pure
open Go.RowKit Go.Proofs.Ytnoklicihomfoaa.P Go.Proofs.YtnoklicihomfoaaW.PrintWords Go.Proofs.Ytnoklicihomfoaa.Q
set_option linter.unusedVariables false
set_option linter.unusedSimpArgs false

end Go.Proofs.Ytnoklicihomfoaa.Pure
