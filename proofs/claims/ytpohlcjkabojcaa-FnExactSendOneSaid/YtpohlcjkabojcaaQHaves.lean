import Derived.Test.YtpohlcjkabojcaaQBase
namespace Go.Proofs.Ytpohlcjkabojcaa.Q
open Go.RowKit Go.Proofs.YtpohlcjkabojcaaW.PrintWords
set_option linter.unusedVariables false
set_option linter.unusedSimpArgs false

def behind1 : Option Int → Int → Bool
  | none, _ => true
  | some y, x => decide (y < x)
@[simp] theorem behind1_none (x : Int) : behind1 none x = true := rfl
@[simp] theorem behind1_some (y x : Int) : behind1 (some y) x = decide (y < x) := rfl
/-- Places: hosts rising, each at a spot, with rising groups. -/
def placesB (m : Int) : Option Int → List (Int × Int × List Int) → Bool
  | _, [] => true
  | o, x :: t => (inB 1 99 x.1 && (inB 0 m x.2.1 && (allB 1 20 x.2.2 && chainB none x.2.2))) && behind1 o x.1 && placesB m (some x.1) t
theorem placesB_nil {m : Int} {o : Option Int} : placesB m o [] = true := rfl
theorem placesB_cons {m : Int} {o : Option Int} {x : Int × Int × List Int} {t : List (Int × Int × List Int)} : placesB m o (x :: t) = ((inB 1 99 x.1 && (inB 0 m x.2.1 && (allB 1 20 x.2.2 && chainB none x.2.2))) && behind1 o x.1 && placesB m (some x.1) t) := rfl
/-- A good campus. -/
def goodC (n : Int) (l : List (Int × Int × Int)) (down : List Int) (hosts : List (Int × Int × List Int)) : Bool :=
  placesB (wrap64 (n - 1)) none hosts && (goodE n l && ((allB 0 ((l.length : Int) - 1) down && chainB none down) && decide (hosts.length ≤ 12)))
end Go.Proofs.Ytpohlcjkabojcaa.Q
