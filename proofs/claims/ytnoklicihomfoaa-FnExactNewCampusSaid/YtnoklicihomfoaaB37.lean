/- What functions of the program answer, as plain functions: used by the laws of this claim. -/
import Derived.Test.YtnoklicihomfoaaB0
import Derived.Test.YtnoklicihomfoaaF37
namespace Go.Proofs.Ytnoklicihomfoaa.Pure
open Go.RowKit Go.Proofs.Ytnoklicihomfoaa.P Go.Proofs.YtnoklicihomfoaaW.PrintWords Go.Proofs.Ytnoklicihomfoaa.Q
set_option linter.unusedVariables false
set_option linter.unusedSimpArgs false

theorem impl_Edge_eq (l : List S84) (h : l.length ≤ 1000000000) : impl_Edge.f l = some l := by
  unfold impl_Edge.f
  simp only [Option.bind_some, List.length_nil, Nat.zero_add, show (l.length < 5864062014805) = True from eq_true (by omega), if_true, List.nil_append]

end Go.Proofs.Ytnoklicihomfoaa.Pure
