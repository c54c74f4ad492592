/-
  No cell of these rows narrows 'for every input' (looked for: loops, veiled, ifaces, maps, wideKeys, modest, calm, conditions, laid).
  DERIVED. THE GIVEN ROWS OF THIS SEAT. 5 by the template 'for every input the law returns true; each argument reads behind the call as it read before'; 0 by the template 'total and deterministic' (their statements: YtogpnannjpdllaaTotals.lean).
  GIVEN WITH THE SEED: the statements are not yours to turn. If you find one false, say at which input.
  Laid BY PROGRAM, IN A SANDBOX (cutbox-rows.mjs): the forced cells as the released guide's own fill.sh prints them over the translation 4b2a898d0e095b72… (all of the seat's roots in one cut). By AI agents, Wed Nov 11 2026. No macro, syntax, notation, axiom, sorry.
-/
import Derived.Test.YtogpnannjpdllaaChecked
import GoSem.Claim
import GoSem.ClaimJoined
import GoSem.ClaimMapViews
import Derived.JoinedTies
import Derived.KernelRfl
namespace Go.Proofs.Ytogpnannjpdllaa
/- THE CELL 'sum', in the pinned program and in every row, IS THE sha256 OF THE DUMP (.gsa) THAT YtogpnannjpdllaaProg.lean LOADS. Nothing in Lean hashes anything: it is a label: what it is worth is what the hold of that sum in a sandbox is worth. -/
noncomputable def Try.pinned : Pinned := { name := "ytogpnannjpdllaa", sum := "4b2a898d0e095b725dafe56ed05e98e630cc172071dc3db2d8d49feab87d125b", checked := Try.checked }
namespace Rows
def none {H : Type} : Left H := { results := [], args := [] }

/-- 'laws.FnExactLeaveSpot': WHATEVER THE INPUT: true; the input reads as it did. -/
def fnExactLeaveSpotSpec : ChangeSpec := { name := "fnExactLeaveSpot", fn := fun _ => fun
  | [d1, d2] => { results := [.lit (.bool true)], args := [d1, d2] }
  | _ => none }
def fnExactLeaveSpotRow : OpenClaim := { program := "ytogpnannjpdllaa", sum := "4b2a898d0e095b725dafe56ed05e98e630cc172071dc3db2d8d49feab87d125b", func := "loop.example/g00575/laws.FnExactLeaveSpot", spec := "fnExactLeaveSpot", plainKeys := false, apart := false }
def FnExactLeaveSpotSaid : Prop := fnExactLeaveSpotRow.holds Try.pinned (OpenSpec.ofChange fnExactLeaveSpotSpec)

/-- ITS FALSE NEIGHBOUR: 'it returns false'. Refute it at one input. -/
def fnExactLeaveSpotWrong : ChangeSpec := { name := "fnExactLeaveSpot", fn := fun _ => fun
  | [d1, d2] => { results := [.lit (.bool false)], args := [d1, d2] }
  | _ => none }
def FnExactLeaveSpotWrongFalsely : Prop := fnExactLeaveSpotRow.holds Try.pinned (OpenSpec.ofChange fnExactLeaveSpotWrong)

/-- 'laws.FnExactAreApart': WHATEVER THE INPUT: true; the input reads as it did. -/
def fnExactAreApartSpec : ChangeSpec := { name := "fnExactAreApart", fn := fun _ => fun
  | [d] => { results := [.lit (.bool true)], args := [d] }
  | _ => none }
def fnExactAreApartRow : OpenClaim := { program := "ytogpnannjpdllaa", sum := "4b2a898d0e095b725dafe56ed05e98e630cc172071dc3db2d8d49feab87d125b", func := "loop.example/g00575/laws.FnExactAreApart", spec := "fnExactAreApart", plainKeys := false, apart := false }
def FnExactAreApartSaid : Prop := fnExactAreApartRow.holds Try.pinned (OpenSpec.ofChange fnExactAreApartSpec)

/-- ITS FALSE NEIGHBOUR: 'it returns false'. Refute it at one input. -/
def fnExactAreApartWrong : ChangeSpec := { name := "fnExactAreApart", fn := fun _ => fun
  | [d] => { results := [.lit (.bool false)], args := [d] }
  | _ => none }
def FnExactAreApartWrongFalsely : Prop := fnExactAreApartRow.holds Try.pinned (OpenSpec.ofChange fnExactAreApartWrong)

/-- 'laws.FnExactBranchesAt': WHATEVER THE INPUT: true; the input reads as it did. -/
def fnExactBranchesAtSpec : ChangeSpec := { name := "fnExactBranchesAt", fn := fun _ => fun
  | [d1, d2] => { results := [.lit (.bool true)], args := [d1, d2] }
  | _ => none }
def fnExactBranchesAtRow : OpenClaim := { program := "ytogpnannjpdllaa", sum := "4b2a898d0e095b725dafe56ed05e98e630cc172071dc3db2d8d49feab87d125b", func := "loop.example/g00575/laws.FnExactBranchesAt", spec := "fnExactBranchesAt", plainKeys := false, apart := false }
def FnExactBranchesAtSaid : Prop := fnExactBranchesAtRow.holds Try.pinned (OpenSpec.ofChange fnExactBranchesAtSpec)

/-- ITS FALSE NEIGHBOUR: 'it returns false'. Refute it at one input. -/
def fnExactBranchesAtWrong : ChangeSpec := { name := "fnExactBranchesAt", fn := fun _ => fun
  | [d1, d2] => { results := [.lit (.bool false)], args := [d1, d2] }
  | _ => none }
def FnExactBranchesAtWrongFalsely : Prop := fnExactBranchesAtRow.holds Try.pinned (OpenSpec.ofChange fnExactBranchesAtWrong)

/-- 'laws.FnExactWithoutSpot': WHATEVER THE INPUT: true; the input reads as it did. -/
def fnExactWithoutSpotSpec : ChangeSpec := { name := "fnExactWithoutSpot", fn := fun _ => fun
  | [d1, d2, d3] => { results := [.lit (.bool true)], args := [d1, d2, d3] }
  | _ => none }
def fnExactWithoutSpotRow : OpenClaim := { program := "ytogpnannjpdllaa", sum := "4b2a898d0e095b725dafe56ed05e98e630cc172071dc3db2d8d49feab87d125b", func := "loop.example/g00575/laws.FnExactWithoutSpot", spec := "fnExactWithoutSpot", plainKeys := false, apart := false }
def FnExactWithoutSpotSaid : Prop := fnExactWithoutSpotRow.holds Try.pinned (OpenSpec.ofChange fnExactWithoutSpotSpec)

/-- ITS FALSE NEIGHBOUR: 'it returns false'. Refute it at one input. -/
def fnExactWithoutSpotWrong : ChangeSpec := { name := "fnExactWithoutSpot", fn := fun _ => fun
  | [d1, d2, d3] => { results := [.lit (.bool false)], args := [d1, d2, d3] }
  | _ => none }
def FnExactWithoutSpotWrongFalsely : Prop := fnExactWithoutSpotRow.holds Try.pinned (OpenSpec.ofChange fnExactWithoutSpotWrong)

/-- 'laws.FnExactIsFirm': WHATEVER THE INPUT: true; the input reads as it did. -/
def fnExactIsFirmSpec : ChangeSpec := { name := "fnExactIsFirm", fn := fun _ => fun
  | [d1, d2] => { results := [.lit (.bool true)], args := [d1, d2] }
  | _ => none }
def fnExactIsFirmRow : OpenClaim := { program := "ytogpnannjpdllaa", sum := "4b2a898d0e095b725dafe56ed05e98e630cc172071dc3db2d8d49feab87d125b", func := "loop.example/g00575/laws.FnExactIsFirm", spec := "fnExactIsFirm", plainKeys := false, apart := false }
def FnExactIsFirmSaid : Prop := fnExactIsFirmRow.holds Try.pinned (OpenSpec.ofChange fnExactIsFirmSpec)

/-- ITS FALSE NEIGHBOUR: 'it returns false'. Refute it at one input. -/
def fnExactIsFirmWrong : ChangeSpec := { name := "fnExactIsFirm", fn := fun _ => fun
  | [d1, d2] => { results := [.lit (.bool false)], args := [d1, d2] }
  | _ => none }
def FnExactIsFirmWrongFalsely : Prop := fnExactIsFirmRow.holds Try.pinned (OpenSpec.ofChange fnExactIsFirmWrong)

/- THE SECOND FORM. 'bulk': how many values and letters a reading holds, each counted each time it is reached (what is shared counts as often as it is met; a slice's spare places count too). A statement '..UptoSaid' is the law's where the arguments, and the package variables that the reading takes, are together of bulk at most 1048576: NARROWER than '..Said'. Prove '..Said' where nothing that the law and all that it calls make is longer than what came in: it says more and counts as full. Else prove '..UptoSaid'. A law counts once. -/
mutual
def uptoBulk {H : Type} : DataW H → Nat
  | .lit (.string bytes) => bytes.length + 1
  | .lit _ => 1
  | .nil => 1
  | .ptr d => uptoBulk d + 1
  | .slice elems spare => uptoBulkAll elems + uptoBulkAll spare + 1
  | .agg parts => uptoBulkAll parts + 1
  | .iface _ d => uptoBulk d + 1
  | .map entries => uptoBulkEntries entries + 1
  | .held _ => 1
def uptoBulkAll {H : Type} : List (DataW H) → Nat
  | [] => 0
  | d :: r => uptoBulk d + uptoBulkAll r
def uptoBulkEntries {H : Type} : List (Lit × DataW H) → Nat
  | [] => 0
  | x :: r => uptoBulkEntry x + uptoBulkEntries r
def uptoBulkEntry {H : Type} : Lit × DataW H → Nat
  | (.string bytes, d) => bytes.length + uptoBulk d + 1
  | (_, d) => uptoBulk d + 1
 end
def uptoSmall : (H : Type) → List (DataW H) → Bool := fun _ ds => decide (uptoBulkAll ds ≤ 1048576)
def OpenSpec.upto (s : _root_.Go.ChangeSpec) : _root_.Go.OpenSpec := { _root_.Go.OpenSpec.ofChange s with cond := some uptoSmall }

/-- 'laws.FnExactLeaveSpot', WHERE WHAT IT READS IS OF BULK AT MOST 1048576: true; the input reads as it did. -/
def fnExactLeaveSpotUptoRow : OpenClaim := { program := "ytogpnannjpdllaa", sum := "4b2a898d0e095b725dafe56ed05e98e630cc172071dc3db2d8d49feab87d125b", func := "loop.example/g00575/laws.FnExactLeaveSpot", spec := "fnExactLeaveSpot", plainKeys := false, apart := false, narrowed := true }
def FnExactLeaveSpotUptoSaid : Prop := fnExactLeaveSpotUptoRow.holds Try.pinned (OpenSpec.upto fnExactLeaveSpotSpec)

/-- 'laws.FnExactAreApart', WHERE WHAT IT READS IS OF BULK AT MOST 1048576: true; the input reads as it did. -/
def fnExactAreApartUptoRow : OpenClaim := { program := "ytogpnannjpdllaa", sum := "4b2a898d0e095b725dafe56ed05e98e630cc172071dc3db2d8d49feab87d125b", func := "loop.example/g00575/laws.FnExactAreApart", spec := "fnExactAreApart", plainKeys := false, apart := false, narrowed := true }
def FnExactAreApartUptoSaid : Prop := fnExactAreApartUptoRow.holds Try.pinned (OpenSpec.upto fnExactAreApartSpec)

/-- 'laws.FnExactBranchesAt', WHERE WHAT IT READS IS OF BULK AT MOST 1048576: true; the input reads as it did. -/
def fnExactBranchesAtUptoRow : OpenClaim := { program := "ytogpnannjpdllaa", sum := "4b2a898d0e095b725dafe56ed05e98e630cc172071dc3db2d8d49feab87d125b", func := "loop.example/g00575/laws.FnExactBranchesAt", spec := "fnExactBranchesAt", plainKeys := false, apart := false, narrowed := true }
def FnExactBranchesAtUptoSaid : Prop := fnExactBranchesAtUptoRow.holds Try.pinned (OpenSpec.upto fnExactBranchesAtSpec)

/-- 'laws.FnExactWithoutSpot', WHERE WHAT IT READS IS OF BULK AT MOST 1048576: true; the input reads as it did. -/
def fnExactWithoutSpotUptoRow : OpenClaim := { program := "ytogpnannjpdllaa", sum := "4b2a898d0e095b725dafe56ed05e98e630cc172071dc3db2d8d49feab87d125b", func := "loop.example/g00575/laws.FnExactWithoutSpot", spec := "fnExactWithoutSpot", plainKeys := false, apart := false, narrowed := true }
def FnExactWithoutSpotUptoSaid : Prop := fnExactWithoutSpotUptoRow.holds Try.pinned (OpenSpec.upto fnExactWithoutSpotSpec)

/-- 'laws.FnExactIsFirm', WHERE WHAT IT READS IS OF BULK AT MOST 1048576: true; the input reads as it did. -/
def fnExactIsFirmUptoRow : OpenClaim := { program := "ytogpnannjpdllaa", sum := "4b2a898d0e095b725dafe56ed05e98e630cc172071dc3db2d8d49feab87d125b", func := "loop.example/g00575/laws.FnExactIsFirm", spec := "fnExactIsFirm", plainKeys := false, apart := false, narrowed := true }
def FnExactIsFirmUptoSaid : Prop := fnExactIsFirmUptoRow.holds Try.pinned (OpenSpec.upto fnExactIsFirmSpec)

end Rows
end Go.Proofs.Ytogpnannjpdllaa
