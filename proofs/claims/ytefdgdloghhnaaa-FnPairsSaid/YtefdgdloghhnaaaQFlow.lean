import Derived.Test.YtefdgdloghhnaaaQNear
namespace Go.Proofs.Ytefdgdloghhnaaa.Q
open Go.RowKit Go.Proofs.YtefdgdloghhnaaaW.PrintWords
set_option linter.unusedVariables false
set_option linter.unusedSimpArgs false

/-! Ways apart: a walk from one spot over what is open, and the edges used along it. -/
/-- Nobody but a was come to. -/
def only (n : Nat) (a : Int) : List Int := (List.replicate n (-1 : Int)).set a.toNat a
/-- Edges that are written the one way and once. -/
def Plain (n : Nat) (ab : List (Int × Int)) : Prop := (∀ e ∈ ab, e.1 < e.2) ∧ ab.Nodup ∧ Within n ab
end Go.Proofs.Ytefdgdloghhnaaa.Q
