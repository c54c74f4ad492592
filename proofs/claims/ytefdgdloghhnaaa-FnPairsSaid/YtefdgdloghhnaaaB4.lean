/- What functions of the program answer, as plain functions: used by the laws of this claim. -/
import Derived.Test.YtefdgdloghhnaaaB0
import Derived.Test.YtefdgdloghhnaaaF4
import Derived.Test.YtefdgdloghhnaaaQFlow
namespace Go.Proofs.Ytefdgdloghhnaaa.Pure
open Go.RowKit Go.Proofs.Ytefdgdloghhnaaa.P Go.Proofs.YtefdgdloghhnaaaW.PrintWords Go.Proofs.Ytefdgdloghhnaaa.Q
set_option linter.unusedVariables false
set_option linter.unusedSimpArgs false

theorem spec_l3Own_eq (l0 l1 : List Int) (l2 : List S36) (h0 : l0.length ≤ 2097152) (h1 : l1.length ≤ 2097152) (h2 : l2.length ≤ 2097152) : spec_l3Own.f l0 l1 l2 = some (l0, l1, l2) := by
  unfold spec_l3Own.f
  simp only [Option.bind_some, List.nil_append, List.length_nil, Nat.zero_add]
  rw [if_pos (by omega), if_pos (by omega), if_pos (by omega)]

end Go.Proofs.Ytefdgdloghhnaaa.Pure
