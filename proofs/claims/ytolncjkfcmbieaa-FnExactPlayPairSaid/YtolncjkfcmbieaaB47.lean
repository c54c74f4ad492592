/- What functions of the program answer, as plain functions: used by the laws of this claim. -/
import Derived.Test.YtolncjkfcmbieaaB0
import Derived.Test.YtolncjkfcmbieaaF47
import Derived.Test.YtolncjkfcmbieaaB9
namespace Go.Proofs.Ytolncjkfcmbieaa.Pure
open Go.RowKit Go.Proofs.Ytolncjkfcmbieaa.P Go.Proofs.YtolncjkfcmbieaaW.PrintWords Go.Proofs.Ytolncjkfcmbieaa.Q
set_option linter.unusedVariables false
set_option linter.unusedSimpArgs false

theorem laws_szPairStepS_eq (l : List S43) (a : Int) (h : l.length ≤ maxLen) (h0 : 0 ≤ a) (h1 : a ≤ 1048576) : laws_szPairStepS.f l a = some (if (l.length : Int) > a then -1 else a - (l.length : Int)) := by
  unfold laws_szPairStepS.f
  unfold maxLen at h
  rw [w64 (by omega) (by omega)]
  split <;> split <;> first | rfl | omega

theorem spec_NewPair_eq : spec_NewPair.f 0 = some ([0, 0], [0, 0], [], true) := by
  unfold spec_NewPair.f
  simp only [spec_l1In_eq, Option.bind_some]
  rfl

end Go.Proofs.Ytolncjkfcmbieaa.Pure
