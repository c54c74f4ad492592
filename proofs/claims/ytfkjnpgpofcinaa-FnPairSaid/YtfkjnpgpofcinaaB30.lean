/- What functions of the program answer, as plain functions: used by the laws of this claim. -/
import Derived.Test.YtfkjnpgpofcinaaB0
import Derived.Test.YtfkjnpgpofcinaaF30
import Derived.Test.YtfkjnpgpofcinaaB1
namespace Go.Proofs.Ytfkjnpgpofcinaa.Pure
open Go.RowKit Go.Proofs.Ytfkjnpgpofcinaa.P Go.Proofs.YtfkjnpgpofcinaaW.PrintWords Go.Proofs.Ytfkjnpgpofcinaa.Q
set_option linter.unusedVariables false
set_option linter.unusedSimpArgs false

theorem impl_NewPair_eq : impl_NewPair.f 0 = some ([0, 0], [0, 0], [], true) := by
  unfold impl_NewPair.f
  simp only [impl_in_eq, Option.bind_some]
  rfl

end Go.Proofs.Ytfkjnpgpofcinaa.Pure
