/- What functions of the program answer, as plain functions: used by the laws of this claim. -/
import Derived.Test.YtfkjnpgpofcinaaB0
import Derived.Test.YtfkjnpgpofcinaaF26
namespace Go.Proofs.Ytfkjnpgpofcinaa.Pure
open Go.RowKit Go.Proofs.Ytfkjnpgpofcinaa.P Go.Proofs.YtfkjnpgpofcinaaW.PrintWords Go.Proofs.Ytfkjnpgpofcinaa.Q
set_option linter.unusedVariables false
set_option linter.unusedSimpArgs false

theorem impl_Hello_85_eq (l : List S45) (i : Int) (h0 : 0 ≤ i) (h1 : i < l.length) (h : l.length ≤ 2097152) : impl_Hello_85.f l i (i + 1) = some (l.take i.toNat ++ l.drop (i + 1).toNat) := by
  unfold impl_Hello_85.f
  have hm : min i.toNat (i + 1).toNat = i.toNat := Nat.min_eq_left (by omega)
  simp only [Option.bind_some, List.nil_append, List.length_nil, Nat.zero_add, List.take_take, hm, List.length_take, List.length_drop]
  rw [if_pos (by omega), if_pos (by omega), if_pos h0, if_pos (by omega), if_neg (by omega), if_pos (by omega), if_pos (by omega)]

theorem impl_nextState_eq (b : Bool) : impl_nextState.f b = some (if b then 2 else 1) := by
  unfold impl_nextState.f; cases b <;> rfl

end Go.Proofs.Ytfkjnpgpofcinaa.Pure
