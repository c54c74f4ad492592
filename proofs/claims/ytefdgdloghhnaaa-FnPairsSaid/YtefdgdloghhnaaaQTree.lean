import Derived.Test.YtefdgdloghhnaaaQBase
namespace Go.Proofs.Ytefdgdloghhnaaa.Q
open Go.RowKit Go.Proofs.YtefdgdloghhnaaaW.PrintWords
set_option linter.unusedVariables false
set_option linter.unusedSimpArgs false

/-- j steps up. -/
def upN (ps : List Int) : Nat → Int → Int
  | 0, a => a
  | j + 1, a => upN ps j (if a ≥ 0 then rd ps a else a)
/-- From each of t, whose first number is i, the way up ends. -/
def upsB (ps : List Int) : Nat → Nat → Bool
  | _, 0 => true
  | i, n + 1 => decide (upN ps ps.length i < 0) && upsB ps (i + 1) n
/-- Good parents. -/
def goodP (ps : List Int) : Bool := inB 1 12 ps.length && (allB (-1) ((ps.length : Int) - 1) ps && upsB ps 0 ps.length)
end Go.Proofs.Ytefdgdloghhnaaa.Q
