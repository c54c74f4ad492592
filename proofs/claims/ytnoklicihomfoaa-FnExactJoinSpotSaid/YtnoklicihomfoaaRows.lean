/-
  No cell of these rows narrows 'for every input' (looked for: loops, veiled, ifaces, maps, wideKeys, modest, calm, conditions, laid).
  DERIVED. THE GIVEN ROWS OF THIS SEAT. 12 by the template 'for every input the law returns true; each argument reads behind the call as it read before'; 0 by the template 'total and deterministic' (their statements: YtnoklicihomfoaaTotals.lean).
  GIVEN WITH THE SEED: the statements are not yours to turn. If you find one false, say at which input.
  Laid BY PROGRAM, IN A SANDBOX (cutbox-rows.mjs): the forced cells as the released guide's own fill.sh prints them over the translation cae1766d58c788cc… (all of the seat's roots in one cut). By AI agents, Wed Nov 11 2026. No macro, syntax, notation, axiom, sorry.
-/
import Derived.Test.YtnoklicihomfoaaChecked
import GoSem.Claim
import GoSem.ClaimJoined
import GoSem.ClaimMapViews
import Derived.JoinedTies
import Derived.KernelRfl
namespace Go.Proofs.Ytnoklicihomfoaa
/- THE CELL 'sum', in the pinned program and in every row, IS THE sha256 OF THE DUMP (.gsa) THAT YtnoklicihomfoaaProg.lean LOADS. Nothing in Lean hashes anything: it is a label: what it is worth is what the hold of that sum in a sandbox is worth. -/
noncomputable def Try.pinned : Pinned := { name := "ytnoklicihomfoaa", sum := "cae1766d58c788cc2afca534b12c8b0c3c420018b99df1c35aa4fdacda51ccce", checked := Try.checked }
namespace Rows
def none {H : Type} : Left H := { results := [], args := [] }

/-- 'laws.FnExactWithoutAll': WHATEVER THE INPUT: true; the input reads as it did. -/
def fnExactWithoutAllSpec : ChangeSpec := { name := "fnExactWithoutAll", fn := fun _ => fun
  | [d1, d2, d3] => { results := [.lit (.bool true)], args := [d1, d2, d3] }
  | _ => none }
def fnExactWithoutAllRow : OpenClaim := { program := "ytnoklicihomfoaa", sum := "cae1766d58c788cc2afca534b12c8b0c3c420018b99df1c35aa4fdacda51ccce", func := "loop.example/g00575/laws.FnExactWithoutAll", spec := "fnExactWithoutAll", apart := false }
def FnExactWithoutAllSaid : Prop := fnExactWithoutAllRow.holds Try.pinned (OpenSpec.ofChange fnExactWithoutAllSpec)

/-- ITS FALSE NEIGHBOUR: 'it returns false'. Refute it at one input. -/
def fnExactWithoutAllWrong : ChangeSpec := { name := "fnExactWithoutAll", fn := fun _ => fun
  | [d1, d2, d3] => { results := [.lit (.bool false)], args := [d1, d2, d3] }
  | _ => none }
def FnExactWithoutAllWrongFalsely : Prop := fnExactWithoutAllRow.holds Try.pinned (OpenSpec.ofChange fnExactWithoutAllWrong)

/-- 'laws.FnExactCutSpots': WHATEVER THE INPUT: true; the input reads as it did. -/
def fnExactCutSpotsSpec : ChangeSpec := { name := "fnExactCutSpots", fn := fun _ => fun
  | [d1, d2] => { results := [.lit (.bool true)], args := [d1, d2] }
  | _ => none }
def fnExactCutSpotsRow : OpenClaim := { program := "ytnoklicihomfoaa", sum := "cae1766d58c788cc2afca534b12c8b0c3c420018b99df1c35aa4fdacda51ccce", func := "loop.example/g00575/laws.FnExactCutSpots", spec := "fnExactCutSpots", apart := false }
def FnExactCutSpotsSaid : Prop := fnExactCutSpotsRow.holds Try.pinned (OpenSpec.ofChange fnExactCutSpotsSpec)

/-- ITS FALSE NEIGHBOUR: 'it returns false'. Refute it at one input. -/
def fnExactCutSpotsWrong : ChangeSpec := { name := "fnExactCutSpots", fn := fun _ => fun
  | [d1, d2] => { results := [.lit (.bool false)], args := [d1, d2] }
  | _ => none }
def FnExactCutSpotsWrongFalsely : Prop := fnExactCutSpotsRow.holds Try.pinned (OpenSpec.ofChange fnExactCutSpotsWrong)

/-- 'laws.FnExactLowsOf': WHATEVER THE INPUT: true; the input reads as it did. -/
def fnExactLowsOfSpec : ChangeSpec := { name := "fnExactLowsOf", fn := fun _ => fun
  | [d1, d2] => { results := [.lit (.bool true)], args := [d1, d2] }
  | _ => none }
def fnExactLowsOfRow : OpenClaim := { program := "ytnoklicihomfoaa", sum := "cae1766d58c788cc2afca534b12c8b0c3c420018b99df1c35aa4fdacda51ccce", func := "loop.example/g00575/laws.FnExactLowsOf", spec := "fnExactLowsOf", recurses := true, apart := false }
def FnExactLowsOfSaid : Prop := fnExactLowsOfRow.holds Try.pinned (OpenSpec.ofChange fnExactLowsOfSpec)

/-- ITS FALSE NEIGHBOUR: 'it returns false'. Refute it at one input. -/
def fnExactLowsOfWrong : ChangeSpec := { name := "fnExactLowsOf", fn := fun _ => fun
  | [d1, d2] => { results := [.lit (.bool false)], args := [d1, d2] }
  | _ => none }
def FnExactLowsOfWrongFalsely : Prop := fnExactLowsOfRow.holds Try.pinned (OpenSpec.ofChange fnExactLowsOfWrong)

/-- 'laws.FnExactAskFor': WHATEVER THE INPUT: true; the input reads as it did. -/
def fnExactAskForSpec : ChangeSpec := { name := "fnExactAskFor", fn := fun _ => fun
  | [d1, d2] => { results := [.lit (.bool true)], args := [d1, d2] }
  | _ => none }
def fnExactAskForRow : OpenClaim := { program := "ytnoklicihomfoaa", sum := "cae1766d58c788cc2afca534b12c8b0c3c420018b99df1c35aa4fdacda51ccce", func := "loop.example/g00575/laws.FnExactAskFor", spec := "fnExactAskFor", apart := false }
def FnExactAskForSaid : Prop := fnExactAskForRow.holds Try.pinned (OpenSpec.ofChange fnExactAskForSpec)

/-- ITS FALSE NEIGHBOUR: 'it returns false'. Refute it at one input. -/
def fnExactAskForWrong : ChangeSpec := { name := "fnExactAskFor", fn := fun _ => fun
  | [d1, d2] => { results := [.lit (.bool false)], args := [d1, d2] }
  | _ => none }
def FnExactAskForWrongFalsely : Prop := fnExactAskForRow.holds Try.pinned (OpenSpec.ofChange fnExactAskForWrong)

/-- 'laws.FnExactCutEdges': WHATEVER THE INPUT: true; the input reads as it did. -/
def fnExactCutEdgesSpec : ChangeSpec := { name := "fnExactCutEdges", fn := fun _ => fun
  | [d1, d2] => { results := [.lit (.bool true)], args := [d1, d2] }
  | _ => none }
def fnExactCutEdgesRow : OpenClaim := { program := "ytnoklicihomfoaa", sum := "cae1766d58c788cc2afca534b12c8b0c3c420018b99df1c35aa4fdacda51ccce", func := "loop.example/g00575/laws.FnExactCutEdges", spec := "fnExactCutEdges", apart := false }
def FnExactCutEdgesSaid : Prop := fnExactCutEdgesRow.holds Try.pinned (OpenSpec.ofChange fnExactCutEdgesSpec)

/-- ITS FALSE NEIGHBOUR: 'it returns false'. Refute it at one input. -/
def fnExactCutEdgesWrong : ChangeSpec := { name := "fnExactCutEdges", fn := fun _ => fun
  | [d1, d2] => { results := [.lit (.bool false)], args := [d1, d2] }
  | _ => none }
def FnExactCutEdgesWrongFalsely : Prop := fnExactCutEdgesRow.holds Try.pinned (OpenSpec.ofChange fnExactCutEdgesWrong)

/-- 'laws.FnExactJoinSpot': WHATEVER THE INPUT: true; the input reads as it did. -/
def fnExactJoinSpotSpec : ChangeSpec := { name := "fnExactJoinSpot", fn := fun _ => fun
  | [d1, d2] => { results := [.lit (.bool true)], args := [d1, d2] }
  | _ => none }
def fnExactJoinSpotRow : OpenClaim := { program := "ytnoklicihomfoaa", sum := "cae1766d58c788cc2afca534b12c8b0c3c420018b99df1c35aa4fdacda51ccce", func := "loop.example/g00575/laws.FnExactJoinSpot", spec := "fnExactJoinSpot", inPlace := ["slices.overlaps[int]"], apart := false }
def FnExactJoinSpotSaid : Prop := fnExactJoinSpotRow.holds Try.pinned (OpenSpec.ofChange fnExactJoinSpotSpec)

/-- ITS FALSE NEIGHBOUR: 'it returns false'. Refute it at one input. -/
def fnExactJoinSpotWrong : ChangeSpec := { name := "fnExactJoinSpot", fn := fun _ => fun
  | [d1, d2] => { results := [.lit (.bool false)], args := [d1, d2] }
  | _ => none }
def FnExactJoinSpotWrongFalsely : Prop := fnExactJoinSpotRow.holds Try.pinned (OpenSpec.ofChange fnExactJoinSpotWrong)

/-- 'laws.FnExactNewCampus': WHATEVER THE INPUT: true; the input reads as it did. -/
def fnExactNewCampusSpec : ChangeSpec := { name := "fnExactNewCampus", fn := fun _ => fun
  | [d1, d2] => { results := [.lit (.bool true)], args := [d1, d2] }
  | _ => none }
def fnExactNewCampusRow : OpenClaim := { program := "ytnoklicihomfoaa", sum := "cae1766d58c788cc2afca534b12c8b0c3c420018b99df1c35aa4fdacda51ccce", func := "loop.example/g00575/laws.FnExactNewCampus", spec := "fnExactNewCampus", apart := false }
def FnExactNewCampusSaid : Prop := fnExactNewCampusRow.holds Try.pinned (OpenSpec.ofChange fnExactNewCampusSpec)

/-- ITS FALSE NEIGHBOUR: 'it returns false'. Refute it at one input. -/
def fnExactNewCampusWrong : ChangeSpec := { name := "fnExactNewCampus", fn := fun _ => fun
  | [d1, d2] => { results := [.lit (.bool false)], args := [d1, d2] }
  | _ => none }
def FnExactNewCampusWrongFalsely : Prop := fnExactNewCampusRow.holds Try.pinned (OpenSpec.ofChange fnExactNewCampusWrong)

/-- 'laws.FnExactGoodCampus': WHATEVER THE INPUT: true; the input reads as it did. -/
def fnExactGoodCampusSpec : ChangeSpec := { name := "fnExactGoodCampus", fn := fun _ => fun
  | [d] => { results := [.lit (.bool true)], args := [d] }
  | _ => none }
def fnExactGoodCampusRow : OpenClaim := { program := "ytnoklicihomfoaa", sum := "cae1766d58c788cc2afca534b12c8b0c3c420018b99df1c35aa4fdacda51ccce", func := "loop.example/g00575/laws.FnExactGoodCampus", spec := "fnExactGoodCampus", apart := false }
def FnExactGoodCampusSaid : Prop := fnExactGoodCampusRow.holds Try.pinned (OpenSpec.ofChange fnExactGoodCampusSpec)

/-- ITS FALSE NEIGHBOUR: 'it returns false'. Refute it at one input. -/
def fnExactGoodCampusWrong : ChangeSpec := { name := "fnExactGoodCampus", fn := fun _ => fun
  | [d] => { results := [.lit (.bool false)], args := [d] }
  | _ => none }
def FnExactGoodCampusWrongFalsely : Prop := fnExactGoodCampusRow.holds Try.pinned (OpenSpec.ofChange fnExactGoodCampusWrong)

/-- 'laws.FnExactFirmGroups': WHATEVER THE INPUT: true; the input reads as it did. -/
def fnExactFirmGroupsSpec : ChangeSpec := { name := "fnExactFirmGroups", fn := fun _ => fun
  | [d1, d2] => { results := [.lit (.bool true)], args := [d1, d2] }
  | _ => none }
def fnExactFirmGroupsRow : OpenClaim := { program := "ytnoklicihomfoaa", sum := "cae1766d58c788cc2afca534b12c8b0c3c420018b99df1c35aa4fdacda51ccce", func := "loop.example/g00575/laws.FnExactFirmGroups", spec := "fnExactFirmGroups", apart := false }
def FnExactFirmGroupsSaid : Prop := fnExactFirmGroupsRow.holds Try.pinned (OpenSpec.ofChange fnExactFirmGroupsSpec)

/-- ITS FALSE NEIGHBOUR: 'it returns false'. Refute it at one input. -/
def fnExactFirmGroupsWrong : ChangeSpec := { name := "fnExactFirmGroups", fn := fun _ => fun
  | [d1, d2] => { results := [.lit (.bool false)], args := [d1, d2] }
  | _ => none }
def FnExactFirmGroupsWrongFalsely : Prop := fnExactFirmGroupsRow.holds Try.pinned (OpenSpec.ofChange fnExactFirmGroupsWrong)

/-- 'laws.FnExactSideOf': WHATEVER THE INPUT: true; the input reads as it did. -/
def fnExactSideOfSpec : ChangeSpec := { name := "fnExactSideOf", fn := fun _ => fun
  | [d1, d2, d3, d4] => { results := [.lit (.bool true)], args := [d1, d2, d3, d4] }
  | _ => none }
def fnExactSideOfRow : OpenClaim := { program := "ytnoklicihomfoaa", sum := "cae1766d58c788cc2afca534b12c8b0c3c420018b99df1c35aa4fdacda51ccce", func := "loop.example/g00575/laws.FnExactSideOf", spec := "fnExactSideOf", apart := false }
def FnExactSideOfSaid : Prop := fnExactSideOfRow.holds Try.pinned (OpenSpec.ofChange fnExactSideOfSpec)

/-- ITS FALSE NEIGHBOUR: 'it returns false'. Refute it at one input. -/
def fnExactSideOfWrong : ChangeSpec := { name := "fnExactSideOf", fn := fun _ => fun
  | [d1, d2, d3, d4] => { results := [.lit (.bool false)], args := [d1, d2, d3, d4] }
  | _ => none }
def FnExactSideOfWrongFalsely : Prop := fnExactSideOfRow.holds Try.pinned (OpenSpec.ofChange fnExactSideOfWrong)

/-- 'laws.FnExactFixFor': WHATEVER THE INPUT: true; the input reads as it did. -/
def fnExactFixForSpec : ChangeSpec := { name := "fnExactFixFor", fn := fun _ => fun
  | [d1, d2, d3] => { results := [.lit (.bool true)], args := [d1, d2, d3] }
  | _ => none }
def fnExactFixForRow : OpenClaim := { program := "ytnoklicihomfoaa", sum := "cae1766d58c788cc2afca534b12c8b0c3c420018b99df1c35aa4fdacda51ccce", func := "loop.example/g00575/laws.FnExactFixFor", spec := "fnExactFixFor", apart := false }
def FnExactFixForSaid : Prop := fnExactFixForRow.holds Try.pinned (OpenSpec.ofChange fnExactFixForSpec)

/-- ITS FALSE NEIGHBOUR: 'it returns false'. Refute it at one input. -/
def fnExactFixForWrong : ChangeSpec := { name := "fnExactFixFor", fn := fun _ => fun
  | [d1, d2, d3] => { results := [.lit (.bool false)], args := [d1, d2, d3] }
  | _ => none }
def FnExactFixForWrongFalsely : Prop := fnExactFixForRow.holds Try.pinned (OpenSpec.ofChange fnExactFixForWrong)

/-- 'laws.FnExactCutBetween': WHATEVER THE INPUT: true; the input reads as it did. -/
def fnExactCutBetweenSpec : ChangeSpec := { name := "fnExactCutBetween", fn := fun _ => fun
  | [d1, d2, d3, d4] => { results := [.lit (.bool true)], args := [d1, d2, d3, d4] }
  | _ => none }
def fnExactCutBetweenRow : OpenClaim := { program := "ytnoklicihomfoaa", sum := "cae1766d58c788cc2afca534b12c8b0c3c420018b99df1c35aa4fdacda51ccce", func := "loop.example/g00575/laws.FnExactCutBetween", spec := "fnExactCutBetween", apart := false }
def FnExactCutBetweenSaid : Prop := fnExactCutBetweenRow.holds Try.pinned (OpenSpec.ofChange fnExactCutBetweenSpec)

/-- ITS FALSE NEIGHBOUR: 'it returns false'. Refute it at one input. -/
def fnExactCutBetweenWrong : ChangeSpec := { name := "fnExactCutBetween", fn := fun _ => fun
  | [d1, d2, d3, d4] => { results := [.lit (.bool false)], args := [d1, d2, d3, d4] }
  | _ => none }
def FnExactCutBetweenWrongFalsely : Prop := fnExactCutBetweenRow.holds Try.pinned (OpenSpec.ofChange fnExactCutBetweenWrong)

/- THE SECOND FORM. 'bulk': how many values and letters a reading holds, each counted each time it is reached (what is shared counts as often as it is met; a slice's spare places count too). A statement '..UptoSaid' is the law's where the arguments, and the package variables that the reading takes, are together of bulk at most 1048576: NARROWER than '..Said'. Prove '..Said' where nothing that the law and all that it calls make is longer than what came in: it says more and counts as full. Else prove '..UptoSaid'. A law counts once. -/
mutual
def uptoBulk {H : Type} : DataW H → Nat
  | .lit (.string bytes) => bytes.length + 1
  | .lit _ => 1
  | .nil => 1
  | .ptr d => uptoBulk d + 1
  | .slice elems spare => uptoBulkAll elems + uptoBulkAll spare + 1
  | .agg parts => uptoBulkAll parts + 1
  | .iface _ d => uptoBulk d + 1
  | .map entries => uptoBulkEntries entries + 1
  | .held _ => 1
def uptoBulkAll {H : Type} : List (DataW H) → Nat
  | [] => 0
  | d :: r => uptoBulk d + uptoBulkAll r
def uptoBulkEntries {H : Type} : List (Lit × DataW H) → Nat
  | [] => 0
  | x :: r => uptoBulkEntry x + uptoBulkEntries r
def uptoBulkEntry {H : Type} : Lit × DataW H → Nat
  | (.string bytes, d) => bytes.length + uptoBulk d + 1
  | (_, d) => uptoBulk d + 1
 end
def uptoSmall : (H : Type) → List (DataW H) → Bool := fun _ ds => decide (uptoBulkAll ds ≤ 1048576)
def OpenSpec.upto (s : _root_.Go.ChangeSpec) : _root_.Go.OpenSpec := { _root_.Go.OpenSpec.ofChange s with cond := some uptoSmall }

/-- 'laws.FnExactWithoutAll', WHERE WHAT IT READS IS OF BULK AT MOST 1048576: true; the input reads as it did. -/
def fnExactWithoutAllUptoRow : OpenClaim := { program := "ytnoklicihomfoaa", sum := "cae1766d58c788cc2afca534b12c8b0c3c420018b99df1c35aa4fdacda51ccce", func := "loop.example/g00575/laws.FnExactWithoutAll", spec := "fnExactWithoutAll", apart := false, narrowed := true }
def FnExactWithoutAllUptoSaid : Prop := fnExactWithoutAllUptoRow.holds Try.pinned (OpenSpec.upto fnExactWithoutAllSpec)

/-- 'laws.FnExactCutSpots', WHERE WHAT IT READS IS OF BULK AT MOST 1048576: true; the input reads as it did. -/
def fnExactCutSpotsUptoRow : OpenClaim := { program := "ytnoklicihomfoaa", sum := "cae1766d58c788cc2afca534b12c8b0c3c420018b99df1c35aa4fdacda51ccce", func := "loop.example/g00575/laws.FnExactCutSpots", spec := "fnExactCutSpots", apart := false, narrowed := true }
def FnExactCutSpotsUptoSaid : Prop := fnExactCutSpotsUptoRow.holds Try.pinned (OpenSpec.upto fnExactCutSpotsSpec)

/-- 'laws.FnExactLowsOf', WHERE WHAT IT READS IS OF BULK AT MOST 1048576: true; the input reads as it did. -/
def fnExactLowsOfUptoRow : OpenClaim := { program := "ytnoklicihomfoaa", sum := "cae1766d58c788cc2afca534b12c8b0c3c420018b99df1c35aa4fdacda51ccce", func := "loop.example/g00575/laws.FnExactLowsOf", spec := "fnExactLowsOf", recurses := true, apart := false, narrowed := true }
def FnExactLowsOfUptoSaid : Prop := fnExactLowsOfUptoRow.holds Try.pinned (OpenSpec.upto fnExactLowsOfSpec)

/-- 'laws.FnExactAskFor', WHERE WHAT IT READS IS OF BULK AT MOST 1048576: true; the input reads as it did. -/
def fnExactAskForUptoRow : OpenClaim := { program := "ytnoklicihomfoaa", sum := "cae1766d58c788cc2afca534b12c8b0c3c420018b99df1c35aa4fdacda51ccce", func := "loop.example/g00575/laws.FnExactAskFor", spec := "fnExactAskFor", apart := false, narrowed := true }
def FnExactAskForUptoSaid : Prop := fnExactAskForUptoRow.holds Try.pinned (OpenSpec.upto fnExactAskForSpec)

/-- 'laws.FnExactCutEdges', WHERE WHAT IT READS IS OF BULK AT MOST 1048576: true; the input reads as it did. -/
def fnExactCutEdgesUptoRow : OpenClaim := { program := "ytnoklicihomfoaa", sum := "cae1766d58c788cc2afca534b12c8b0c3c420018b99df1c35aa4fdacda51ccce", func := "loop.example/g00575/laws.FnExactCutEdges", spec := "fnExactCutEdges", apart := false, narrowed := true }
def FnExactCutEdgesUptoSaid : Prop := fnExactCutEdgesUptoRow.holds Try.pinned (OpenSpec.upto fnExactCutEdgesSpec)

/-- 'laws.FnExactJoinSpot', WHERE WHAT IT READS IS OF BULK AT MOST 1048576: true; the input reads as it did. -/
def fnExactJoinSpotUptoRow : OpenClaim := { program := "ytnoklicihomfoaa", sum := "cae1766d58c788cc2afca534b12c8b0c3c420018b99df1c35aa4fdacda51ccce", func := "loop.example/g00575/laws.FnExactJoinSpot", spec := "fnExactJoinSpot", inPlace := ["slices.overlaps[int]"], apart := false, narrowed := true }
def FnExactJoinSpotUptoSaid : Prop := fnExactJoinSpotUptoRow.holds Try.pinned (OpenSpec.upto fnExactJoinSpotSpec)

/-- 'laws.FnExactNewCampus', WHERE WHAT IT READS IS OF BULK AT MOST 1048576: true; the input reads as it did. -/
def fnExactNewCampusUptoRow : OpenClaim := { program := "ytnoklicihomfoaa", sum := "cae1766d58c788cc2afca534b12c8b0c3c420018b99df1c35aa4fdacda51ccce", func := "loop.example/g00575/laws.FnExactNewCampus", spec := "fnExactNewCampus", apart := false, narrowed := true }
def FnExactNewCampusUptoSaid : Prop := fnExactNewCampusUptoRow.holds Try.pinned (OpenSpec.upto fnExactNewCampusSpec)

/-- 'laws.FnExactGoodCampus', WHERE WHAT IT READS IS OF BULK AT MOST 1048576: true; the input reads as it did. -/
def fnExactGoodCampusUptoRow : OpenClaim := { program := "ytnoklicihomfoaa", sum := "cae1766d58c788cc2afca534b12c8b0c3c420018b99df1c35aa4fdacda51ccce", func := "loop.example/g00575/laws.FnExactGoodCampus", spec := "fnExactGoodCampus", apart := false, narrowed := true }
def FnExactGoodCampusUptoSaid : Prop := fnExactGoodCampusUptoRow.holds Try.pinned (OpenSpec.upto fnExactGoodCampusSpec)

/-- 'laws.FnExactFirmGroups', WHERE WHAT IT READS IS OF BULK AT MOST 1048576: true; the input reads as it did. -/
def fnExactFirmGroupsUptoRow : OpenClaim := { program := "ytnoklicihomfoaa", sum := "cae1766d58c788cc2afca534b12c8b0c3c420018b99df1c35aa4fdacda51ccce", func := "loop.example/g00575/laws.FnExactFirmGroups", spec := "fnExactFirmGroups", apart := false, narrowed := true }
def FnExactFirmGroupsUptoSaid : Prop := fnExactFirmGroupsUptoRow.holds Try.pinned (OpenSpec.upto fnExactFirmGroupsSpec)

/-- 'laws.FnExactSideOf', WHERE WHAT IT READS IS OF BULK AT MOST 1048576: true; the input reads as it did. -/
def fnExactSideOfUptoRow : OpenClaim := { program := "ytnoklicihomfoaa", sum := "cae1766d58c788cc2afca534b12c8b0c3c420018b99df1c35aa4fdacda51ccce", func := "loop.example/g00575/laws.FnExactSideOf", spec := "fnExactSideOf", apart := false, narrowed := true }
def FnExactSideOfUptoSaid : Prop := fnExactSideOfUptoRow.holds Try.pinned (OpenSpec.upto fnExactSideOfSpec)

/-- 'laws.FnExactFixFor', WHERE WHAT IT READS IS OF BULK AT MOST 1048576: true; the input reads as it did. -/
def fnExactFixForUptoRow : OpenClaim := { program := "ytnoklicihomfoaa", sum := "cae1766d58c788cc2afca534b12c8b0c3c420018b99df1c35aa4fdacda51ccce", func := "loop.example/g00575/laws.FnExactFixFor", spec := "fnExactFixFor", apart := false, narrowed := true }
def FnExactFixForUptoSaid : Prop := fnExactFixForUptoRow.holds Try.pinned (OpenSpec.upto fnExactFixForSpec)

/-- 'laws.FnExactCutBetween', WHERE WHAT IT READS IS OF BULK AT MOST 1048576: true; the input reads as it did. -/
def fnExactCutBetweenUptoRow : OpenClaim := { program := "ytnoklicihomfoaa", sum := "cae1766d58c788cc2afca534b12c8b0c3c420018b99df1c35aa4fdacda51ccce", func := "loop.example/g00575/laws.FnExactCutBetween", spec := "fnExactCutBetween", apart := false, narrowed := true }
def FnExactCutBetweenUptoSaid : Prop := fnExactCutBetweenUptoRow.holds Try.pinned (OpenSpec.upto fnExactCutBetweenSpec)

end Rows
end Go.Proofs.Ytnoklicihomfoaa
