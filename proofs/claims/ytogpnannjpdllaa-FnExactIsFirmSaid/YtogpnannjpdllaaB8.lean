/- What functions of the program answer, as plain functions: used by the laws of this claim. -/
import Derived.Test.YtogpnannjpdllaaB0
import Derived.Test.YtogpnannjpdllaaF8
import Derived.Test.YtogpnannjpdllaaB1
namespace Go.Proofs.Ytogpnannjpdllaa.Pure
open Go.RowKit Go.Proofs.Ytogpnannjpdllaa.P Go.Proofs.YtogpnannjpdllaaW.PrintWords Go.Proofs.Ytogpnannjpdllaa.Q
set_option linter.unusedVariables false
set_option linter.unusedSimpArgs false

theorem impl_isSpots_eq (a : Int) : impl_isSpots.f a = some (inB 1 12 a) := by
  unfold impl_isSpots.f
  rw [impl_in_eq]; rfl

end Go.Proofs.Ytogpnannjpdllaa.Pure
