/- What functions of the program answer, as plain functions: used by the laws of this claim. -/
import Derived.Test.YtolncjkfcmbieaaB0
import Derived.Test.YtolncjkfcmbieaaF36
import Derived.Test.YtolncjkfcmbieaaB35
namespace Go.Proofs.Ytolncjkfcmbieaa.Pure
open Go.RowKit Go.Proofs.Ytolncjkfcmbieaa.P Go.Proofs.YtolncjkfcmbieaaW.PrintWords Go.Proofs.Ytolncjkfcmbieaa.Q
set_option linter.unusedVariables false
set_option linter.unusedSimpArgs false

theorem impl_Pair_own_eq (l0 l1 : List Int) (l2 : List S127) (h0 : l0.length ≤ 2097152) (h1 : l1.length ≤ 2097152) (h2 : l2.length ≤ 2097152) : impl_Pair_own.f l0 l1 l2 = some (l0, l1, l2) := by
  unfold impl_Pair_own.f
  simp only [slices_Clone_int_int_eq l0 h0, slices_Clone_int_int_eq l1 h1, impl_Hello_160_eq l2 h2, Option.bind_some]

theorem impl_Hello_93_eq (l : List S127) (i : Int) (h0 : 0 ≤ i) (h1 : i < l.length) (h : l.length ≤ 2097152) : impl_Hello_93.f l i (i + 1) = some (l.take i.toNat ++ l.drop (i + 1).toNat) := by
  unfold impl_Hello_93.f
  have hm : min i.toNat (i + 1).toNat = i.toNat := Nat.min_eq_left (by omega)
  simp only [Option.bind_some, List.nil_append, List.length_nil, Nat.zero_add, List.take_take, hm, List.length_take, List.length_drop]
  rw [if_pos (by omega), if_pos (by omega), if_pos h0, if_pos (by omega), if_neg (by omega), if_pos (by omega), if_pos (by omega)]

theorem impl_nextState_eq (b : Bool) : impl_nextState.f b = some (if b then 2 else 1) := by
  unfold impl_nextState.f; cases b <;> rfl

end Go.Proofs.Ytolncjkfcmbieaa.Pure
