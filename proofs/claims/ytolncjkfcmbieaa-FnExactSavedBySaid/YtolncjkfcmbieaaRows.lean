/-
  No cell of these rows narrows 'for every input' (looked for: loops, veiled, ifaces, maps, wideKeys, modest, calm, conditions, laid).
  DERIVED. THE GIVEN ROWS OF THIS SEAT. 12 by the template 'for every input the law returns true; each argument reads behind the call as it read before'; 0 by the template 'total and deterministic' (their statements: YtolncjkfcmbieaaTotals.lean).
  GIVEN WITH THE SEED: the statements are not yours to turn. If you find one false, say at which input.
  Laid BY PROGRAM, IN A SANDBOX (cutbox-rows.mjs): the forced cells as the released guide's own fill.sh prints them over the translation a92c6c8076904f2f… (all of the seat's roots in one cut). By AI agents, Wed Nov 11 2026. No macro, syntax, notation, axiom, sorry.
-/
import Derived.Test.YtolncjkfcmbieaaChecked
import GoSem.Claim
import GoSem.ClaimJoined
import GoSem.ClaimMapViews
import Derived.JoinedTies
import Derived.KernelRfl
namespace Go.Proofs.Ytolncjkfcmbieaa
/- THE CELL 'sum', in the pinned program and in every row, IS THE sha256 OF THE DUMP (.gsa) THAT YtolncjkfcmbieaaProg.lean LOADS. Nothing in Lean hashes anything: it is a label: what it is worth is what the hold of that sum in a sandbox is worth. -/
noncomputable def Try.pinned : Pinned := { name := "ytolncjkfcmbieaa", sum := "a92c6c8076904f2f42f4dcec9fa9e3aaa56ebd037335b395c6ec163539734114", checked := Try.checked }
namespace Rows
def none {H : Type} : Left H := { results := [], args := [] }

/-- 'laws.FnExactBackupFor': WHATEVER THE INPUT: true; the input reads as it did. -/
def fnExactBackupForSpec : ChangeSpec := { name := "fnExactBackupFor", fn := fun _ => fun
  | [d1, d2, d3, d4] => { results := [.lit (.bool true)], args := [d1, d2, d3, d4] }
  | _ => none }
def fnExactBackupForRow : OpenClaim := { program := "ytolncjkfcmbieaa", sum := "a92c6c8076904f2f42f4dcec9fa9e3aaa56ebd037335b395c6ec163539734114", func := "loop.example/g00575/laws.FnExactBackupFor", spec := "fnExactBackupFor", apart := false }
def FnExactBackupForSaid : Prop := fnExactBackupForRow.holds Try.pinned (OpenSpec.ofChange fnExactBackupForSpec)

/-- ITS FALSE NEIGHBOUR: 'it returns false'. Refute it at one input. -/
def fnExactBackupForWrong : ChangeSpec := { name := "fnExactBackupFor", fn := fun _ => fun
  | [d1, d2, d3, d4] => { results := [.lit (.bool false)], args := [d1, d2, d3, d4] }
  | _ => none }
def FnExactBackupForWrongFalsely : Prop := fnExactBackupForRow.holds Try.pinned (OpenSpec.ofChange fnExactBackupForWrong)

/-- 'laws.FnExactWaysApart': WHATEVER THE INPUT: true; the input reads as it did. -/
def fnExactWaysApartSpec : ChangeSpec := { name := "fnExactWaysApart", fn := fun _ => fun
  | [d1, d2, d3, d4] => { results := [.lit (.bool true)], args := [d1, d2, d3, d4] }
  | _ => none }
def fnExactWaysApartRow : OpenClaim := { program := "ytolncjkfcmbieaa", sum := "a92c6c8076904f2f42f4dcec9fa9e3aaa56ebd037335b395c6ec163539734114", func := "loop.example/g00575/laws.FnExactWaysApart", spec := "fnExactWaysApart", apart := false }
def FnExactWaysApartSaid : Prop := fnExactWaysApartRow.holds Try.pinned (OpenSpec.ofChange fnExactWaysApartSpec)

/-- ITS FALSE NEIGHBOUR: 'it returns false'. Refute it at one input. -/
def fnExactWaysApartWrong : ChangeSpec := { name := "fnExactWaysApart", fn := fun _ => fun
  | [d1, d2, d3, d4] => { results := [.lit (.bool false)], args := [d1, d2, d3, d4] }
  | _ => none }
def FnExactWaysApartWrongFalsely : Prop := fnExactWaysApartRow.holds Try.pinned (OpenSpec.ofChange fnExactWaysApartWrong)

/-- 'laws.FnExactStepPair': WHATEVER THE INPUT: true; the input reads as it did. -/
def fnExactStepPairSpec : ChangeSpec := { name := "fnExactStepPair", fn := fun _ => fun
  | [d1, d2] => { results := [.lit (.bool true)], args := [d1, d2] }
  | _ => none }
def fnExactStepPairRow : OpenClaim := { program := "ytolncjkfcmbieaa", sum := "a92c6c8076904f2f42f4dcec9fa9e3aaa56ebd037335b395c6ec163539734114", func := "loop.example/g00575/laws.FnExactStepPair", spec := "fnExactStepPair", apart := false }
def FnExactStepPairSaid : Prop := fnExactStepPairRow.holds Try.pinned (OpenSpec.ofChange fnExactStepPairSpec)

/-- ITS FALSE NEIGHBOUR: 'it returns false'. Refute it at one input. -/
def fnExactStepPairWrong : ChangeSpec := { name := "fnExactStepPair", fn := fun _ => fun
  | [d1, d2] => { results := [.lit (.bool false)], args := [d1, d2] }
  | _ => none }
def FnExactStepPairWrongFalsely : Prop := fnExactStepPairRow.holds Try.pinned (OpenSpec.ofChange fnExactStepPairWrong)

/-- 'laws.FnExactUpLinks': WHATEVER THE INPUT: true; the input reads as it did. -/
def fnExactUpLinksSpec : ChangeSpec := { name := "fnExactUpLinks", fn := fun _ => fun
  | [d] => { results := [.lit (.bool true)], args := [d] }
  | _ => none }
def fnExactUpLinksRow : OpenClaim := { program := "ytolncjkfcmbieaa", sum := "a92c6c8076904f2f42f4dcec9fa9e3aaa56ebd037335b395c6ec163539734114", func := "loop.example/g00575/laws.FnExactUpLinks", spec := "fnExactUpLinks", apart := false }
def FnExactUpLinksSaid : Prop := fnExactUpLinksRow.holds Try.pinned (OpenSpec.ofChange fnExactUpLinksSpec)

/-- ITS FALSE NEIGHBOUR: 'it returns false'. Refute it at one input. -/
def fnExactUpLinksWrong : ChangeSpec := { name := "fnExactUpLinks", fn := fun _ => fun
  | [d] => { results := [.lit (.bool false)], args := [d] }
  | _ => none }
def FnExactUpLinksWrongFalsely : Prop := fnExactUpLinksRow.holds Try.pinned (OpenSpec.ofChange fnExactUpLinksWrong)

/-- 'laws.FnExactSettlePair': WHATEVER THE INPUT: true; the input reads as it did. -/
def fnExactSettlePairSpec : ChangeSpec := { name := "fnExactSettlePair", fn := fun _ => fun
  | [d] => { results := [.lit (.bool true)], args := [d] }
  | _ => none }
def fnExactSettlePairRow : OpenClaim := { program := "ytolncjkfcmbieaa", sum := "a92c6c8076904f2f42f4dcec9fa9e3aaa56ebd037335b395c6ec163539734114", func := "loop.example/g00575/laws.FnExactSettlePair", spec := "fnExactSettlePair", apart := false }
def FnExactSettlePairSaid : Prop := fnExactSettlePairRow.holds Try.pinned (OpenSpec.ofChange fnExactSettlePairSpec)

/-- ITS FALSE NEIGHBOUR: 'it returns false'. Refute it at one input. -/
def fnExactSettlePairWrong : ChangeSpec := { name := "fnExactSettlePair", fn := fun _ => fun
  | [d] => { results := [.lit (.bool false)], args := [d] }
  | _ => none }
def FnExactSettlePairWrongFalsely : Prop := fnExactSettlePairRow.holds Try.pinned (OpenSpec.ofChange fnExactSettlePairWrong)

/-- 'laws.FnExactSyncBy': WHATEVER THE INPUT: true; the input reads as it did. -/
def fnExactSyncBySpec : ChangeSpec := { name := "fnExactSyncBy", fn := fun _ => fun
  | [d1, d2, d3] => { results := [.lit (.bool true)], args := [d1, d2, d3] }
  | _ => none }
def fnExactSyncByRow : OpenClaim := { program := "ytolncjkfcmbieaa", sum := "a92c6c8076904f2f42f4dcec9fa9e3aaa56ebd037335b395c6ec163539734114", func := "loop.example/g00575/laws.FnExactSyncBy", spec := "fnExactSyncBy", inPlace := ["slices.overlaps[loop.example/g00575/impl.Have]"], unfollowed := true, recurses := true, apart := false }
def FnExactSyncBySaid : Prop := fnExactSyncByRow.holds Try.pinned (OpenSpec.ofChange fnExactSyncBySpec)

/-- ITS FALSE NEIGHBOUR: 'it returns false'. Refute it at one input. -/
def fnExactSyncByWrong : ChangeSpec := { name := "fnExactSyncBy", fn := fun _ => fun
  | [d1, d2, d3] => { results := [.lit (.bool false)], args := [d1, d2, d3] }
  | _ => none }
def FnExactSyncByWrongFalsely : Prop := fnExactSyncByRow.holds Try.pinned (OpenSpec.ofChange fnExactSyncByWrong)

/-- 'laws.FnExactPlayPair': WHATEVER THE INPUT: true; the input reads as it did. -/
def fnExactPlayPairSpec : ChangeSpec := { name := "fnExactPlayPair", fn := fun _ => fun
  | [d] => { results := [.lit (.bool true)], args := [d] }
  | _ => none }
def fnExactPlayPairRow : OpenClaim := { program := "ytolncjkfcmbieaa", sum := "a92c6c8076904f2f42f4dcec9fa9e3aaa56ebd037335b395c6ec163539734114", func := "loop.example/g00575/laws.FnExactPlayPair", spec := "fnExactPlayPair", apart := false }
def FnExactPlayPairSaid : Prop := fnExactPlayPairRow.holds Try.pinned (OpenSpec.ofChange fnExactPlayPairSpec)

/-- ITS FALSE NEIGHBOUR: 'it returns false'. Refute it at one input. -/
def fnExactPlayPairWrong : ChangeSpec := { name := "fnExactPlayPair", fn := fun _ => fun
  | [d] => { results := [.lit (.bool false)], args := [d] }
  | _ => none }
def FnExactPlayPairWrongFalsely : Prop := fnExactPlayPairRow.holds Try.pinned (OpenSpec.ofChange fnExactPlayPairWrong)

/-- 'laws.FnExactCanReach': WHATEVER THE INPUT: true; the input reads as it did. -/
def fnExactCanReachSpec : ChangeSpec := { name := "fnExactCanReach", fn := fun _ => fun
  | [d1, d2, d3] => { results := [.lit (.bool true)], args := [d1, d2, d3] }
  | _ => none }
def fnExactCanReachRow : OpenClaim := { program := "ytolncjkfcmbieaa", sum := "a92c6c8076904f2f42f4dcec9fa9e3aaa56ebd037335b395c6ec163539734114", func := "loop.example/g00575/laws.FnExactCanReach", spec := "fnExactCanReach", unfollowed := true, recurses := true, apart := false }
def FnExactCanReachSaid : Prop := fnExactCanReachRow.holds Try.pinned (OpenSpec.ofChange fnExactCanReachSpec)

/-- ITS FALSE NEIGHBOUR: 'it returns false'. Refute it at one input. -/
def fnExactCanReachWrong : ChangeSpec := { name := "fnExactCanReach", fn := fun _ => fun
  | [d1, d2, d3] => { results := [.lit (.bool false)], args := [d1, d2, d3] }
  | _ => none }
def FnExactCanReachWrongFalsely : Prop := fnExactCanReachRow.holds Try.pinned (OpenSpec.ofChange fnExactCanReachWrong)

/-- 'laws.FnExactReachedBy': WHATEVER THE INPUT: true; the input reads as it did. -/
def fnExactReachedBySpec : ChangeSpec := { name := "fnExactReachedBy", fn := fun _ => fun
  | [d1, d2] => { results := [.lit (.bool true)], args := [d1, d2] }
  | _ => none }
def fnExactReachedByRow : OpenClaim := { program := "ytolncjkfcmbieaa", sum := "a92c6c8076904f2f42f4dcec9fa9e3aaa56ebd037335b395c6ec163539734114", func := "loop.example/g00575/laws.FnExactReachedBy", spec := "fnExactReachedBy", recurses := true, apart := false }
def FnExactReachedBySaid : Prop := fnExactReachedByRow.holds Try.pinned (OpenSpec.ofChange fnExactReachedBySpec)

/-- ITS FALSE NEIGHBOUR: 'it returns false'. Refute it at one input. -/
def fnExactReachedByWrong : ChangeSpec := { name := "fnExactReachedBy", fn := fun _ => fun
  | [d1, d2] => { results := [.lit (.bool false)], args := [d1, d2] }
  | _ => none }
def FnExactReachedByWrongFalsely : Prop := fnExactReachedByRow.holds Try.pinned (OpenSpec.ofChange fnExactReachedByWrong)

/-- 'laws.FnExactBehindOf': WHATEVER THE INPUT: true; the input reads as it did. -/
def fnExactBehindOfSpec : ChangeSpec := { name := "fnExactBehindOf", fn := fun _ => fun
  | [d1, d2, d3] => { results := [.lit (.bool true)], args := [d1, d2, d3] }
  | _ => none }
def fnExactBehindOfRow : OpenClaim := { program := "ytolncjkfcmbieaa", sum := "a92c6c8076904f2f42f4dcec9fa9e3aaa56ebd037335b395c6ec163539734114", func := "loop.example/g00575/laws.FnExactBehindOf", spec := "fnExactBehindOf", recurses := true, apart := false }
def FnExactBehindOfSaid : Prop := fnExactBehindOfRow.holds Try.pinned (OpenSpec.ofChange fnExactBehindOfSpec)

/-- ITS FALSE NEIGHBOUR: 'it returns false'. Refute it at one input. -/
def fnExactBehindOfWrong : ChangeSpec := { name := "fnExactBehindOf", fn := fun _ => fun
  | [d1, d2, d3] => { results := [.lit (.bool false)], args := [d1, d2, d3] }
  | _ => none }
def FnExactBehindOfWrongFalsely : Prop := fnExactBehindOfRow.holds Try.pinned (OpenSpec.ofChange fnExactBehindOfWrong)

/-- 'laws.FnExactSendOne': WHATEVER THE INPUT: true; the input reads as it did. -/
def fnExactSendOneSpec : ChangeSpec := { name := "fnExactSendOne", fn := fun _ => fun
  | [d1, d2, d3] => { results := [.lit (.bool true)], args := [d1, d2, d3] }
  | _ => none }
def fnExactSendOneRow : OpenClaim := { program := "ytolncjkfcmbieaa", sum := "a92c6c8076904f2f42f4dcec9fa9e3aaa56ebd037335b395c6ec163539734114", func := "loop.example/g00575/laws.FnExactSendOne", spec := "fnExactSendOne", unfollowed := true, recurses := true, apart := false }
def FnExactSendOneSaid : Prop := fnExactSendOneRow.holds Try.pinned (OpenSpec.ofChange fnExactSendOneSpec)

/-- ITS FALSE NEIGHBOUR: 'it returns false'. Refute it at one input. -/
def fnExactSendOneWrong : ChangeSpec := { name := "fnExactSendOne", fn := fun _ => fun
  | [d1, d2, d3] => { results := [.lit (.bool false)], args := [d1, d2, d3] }
  | _ => none }
def FnExactSendOneWrongFalsely : Prop := fnExactSendOneRow.holds Try.pinned (OpenSpec.ofChange fnExactSendOneWrong)

/-- 'laws.FnExactSavedBy': WHATEVER THE INPUT: true; the input reads as it did. -/
def fnExactSavedBySpec : ChangeSpec := { name := "fnExactSavedBy", fn := fun _ => fun
  | [d1, d2, d3] => { results := [.lit (.bool true)], args := [d1, d2, d3] }
  | _ => none }
def fnExactSavedByRow : OpenClaim := { program := "ytolncjkfcmbieaa", sum := "a92c6c8076904f2f42f4dcec9fa9e3aaa56ebd037335b395c6ec163539734114", func := "loop.example/g00575/laws.FnExactSavedBy", spec := "fnExactSavedBy", unfollowed := true, recurses := true, apart := false }
def FnExactSavedBySaid : Prop := fnExactSavedByRow.holds Try.pinned (OpenSpec.ofChange fnExactSavedBySpec)

/-- ITS FALSE NEIGHBOUR: 'it returns false'. Refute it at one input. -/
def fnExactSavedByWrong : ChangeSpec := { name := "fnExactSavedBy", fn := fun _ => fun
  | [d1, d2, d3] => { results := [.lit (.bool false)], args := [d1, d2, d3] }
  | _ => none }
def FnExactSavedByWrongFalsely : Prop := fnExactSavedByRow.holds Try.pinned (OpenSpec.ofChange fnExactSavedByWrong)

/- THE SECOND FORM. 'bulk': how many values and letters a reading holds, each counted each time it is reached (what is shared counts as often as it is met; a slice's spare places count too). A statement '..UptoSaid' is the law's where the arguments, and the package variables that the reading takes, are together of bulk at most 1048576: NARROWER than '..Said'. Prove '..Said' where nothing that the law and all that it calls make is longer than what came in: it says more and counts as full. Else prove '..UptoSaid'. A law counts once. -/
mutual
def uptoBulk {H : Type} : DataW H → Nat
  | .lit (.string bytes) => bytes.length + 1
  | .lit _ => 1
  | .nil => 1
  | .ptr d => uptoBulk d + 1
  | .slice elems spare => uptoBulkAll elems + uptoBulkAll spare + 1
  | .agg parts => uptoBulkAll parts + 1
  | .iface _ d => uptoBulk d + 1
  | .map entries => uptoBulkEntries entries + 1
  | .held _ => 1
def uptoBulkAll {H : Type} : List (DataW H) → Nat
  | [] => 0
  | d :: r => uptoBulk d + uptoBulkAll r
def uptoBulkEntries {H : Type} : List (Lit × DataW H) → Nat
  | [] => 0
  | x :: r => uptoBulkEntry x + uptoBulkEntries r
def uptoBulkEntry {H : Type} : Lit × DataW H → Nat
  | (.string bytes, d) => bytes.length + uptoBulk d + 1
  | (_, d) => uptoBulk d + 1
 end
def uptoSmall : (H : Type) → List (DataW H) → Bool := fun _ ds => decide (uptoBulkAll ds ≤ 1048576)
def OpenSpec.upto (s : _root_.Go.ChangeSpec) : _root_.Go.OpenSpec := { _root_.Go.OpenSpec.ofChange s with cond := some uptoSmall }

/-- 'laws.FnExactBackupFor', WHERE WHAT IT READS IS OF BULK AT MOST 1048576: true; the input reads as it did. -/
def fnExactBackupForUptoRow : OpenClaim := { program := "ytolncjkfcmbieaa", sum := "a92c6c8076904f2f42f4dcec9fa9e3aaa56ebd037335b395c6ec163539734114", func := "loop.example/g00575/laws.FnExactBackupFor", spec := "fnExactBackupFor", apart := false, narrowed := true }
def FnExactBackupForUptoSaid : Prop := fnExactBackupForUptoRow.holds Try.pinned (OpenSpec.upto fnExactBackupForSpec)

/-- 'laws.FnExactWaysApart', WHERE WHAT IT READS IS OF BULK AT MOST 1048576: true; the input reads as it did. -/
def fnExactWaysApartUptoRow : OpenClaim := { program := "ytolncjkfcmbieaa", sum := "a92c6c8076904f2f42f4dcec9fa9e3aaa56ebd037335b395c6ec163539734114", func := "loop.example/g00575/laws.FnExactWaysApart", spec := "fnExactWaysApart", apart := false, narrowed := true }
def FnExactWaysApartUptoSaid : Prop := fnExactWaysApartUptoRow.holds Try.pinned (OpenSpec.upto fnExactWaysApartSpec)

/-- 'laws.FnExactStepPair', WHERE WHAT IT READS IS OF BULK AT MOST 1048576: true; the input reads as it did. -/
def fnExactStepPairUptoRow : OpenClaim := { program := "ytolncjkfcmbieaa", sum := "a92c6c8076904f2f42f4dcec9fa9e3aaa56ebd037335b395c6ec163539734114", func := "loop.example/g00575/laws.FnExactStepPair", spec := "fnExactStepPair", apart := false, narrowed := true }
def FnExactStepPairUptoSaid : Prop := fnExactStepPairUptoRow.holds Try.pinned (OpenSpec.upto fnExactStepPairSpec)

/-- 'laws.FnExactUpLinks', WHERE WHAT IT READS IS OF BULK AT MOST 1048576: true; the input reads as it did. -/
def fnExactUpLinksUptoRow : OpenClaim := { program := "ytolncjkfcmbieaa", sum := "a92c6c8076904f2f42f4dcec9fa9e3aaa56ebd037335b395c6ec163539734114", func := "loop.example/g00575/laws.FnExactUpLinks", spec := "fnExactUpLinks", apart := false, narrowed := true }
def FnExactUpLinksUptoSaid : Prop := fnExactUpLinksUptoRow.holds Try.pinned (OpenSpec.upto fnExactUpLinksSpec)

/-- 'laws.FnExactSettlePair', WHERE WHAT IT READS IS OF BULK AT MOST 1048576: true; the input reads as it did. -/
def fnExactSettlePairUptoRow : OpenClaim := { program := "ytolncjkfcmbieaa", sum := "a92c6c8076904f2f42f4dcec9fa9e3aaa56ebd037335b395c6ec163539734114", func := "loop.example/g00575/laws.FnExactSettlePair", spec := "fnExactSettlePair", apart := false, narrowed := true }
def FnExactSettlePairUptoSaid : Prop := fnExactSettlePairUptoRow.holds Try.pinned (OpenSpec.upto fnExactSettlePairSpec)

/-- 'laws.FnExactSyncBy', WHERE WHAT IT READS IS OF BULK AT MOST 1048576: true; the input reads as it did. -/
def fnExactSyncByUptoRow : OpenClaim := { program := "ytolncjkfcmbieaa", sum := "a92c6c8076904f2f42f4dcec9fa9e3aaa56ebd037335b395c6ec163539734114", func := "loop.example/g00575/laws.FnExactSyncBy", spec := "fnExactSyncBy", inPlace := ["slices.overlaps[loop.example/g00575/impl.Have]"], unfollowed := true, recurses := true, apart := false, narrowed := true }
def FnExactSyncByUptoSaid : Prop := fnExactSyncByUptoRow.holds Try.pinned (OpenSpec.upto fnExactSyncBySpec)

/-- 'laws.FnExactPlayPair', WHERE WHAT IT READS IS OF BULK AT MOST 1048576: true; the input reads as it did. -/
def fnExactPlayPairUptoRow : OpenClaim := { program := "ytolncjkfcmbieaa", sum := "a92c6c8076904f2f42f4dcec9fa9e3aaa56ebd037335b395c6ec163539734114", func := "loop.example/g00575/laws.FnExactPlayPair", spec := "fnExactPlayPair", apart := false, narrowed := true }
def FnExactPlayPairUptoSaid : Prop := fnExactPlayPairUptoRow.holds Try.pinned (OpenSpec.upto fnExactPlayPairSpec)

/-- 'laws.FnExactCanReach', WHERE WHAT IT READS IS OF BULK AT MOST 1048576: true; the input reads as it did. -/
def fnExactCanReachUptoRow : OpenClaim := { program := "ytolncjkfcmbieaa", sum := "a92c6c8076904f2f42f4dcec9fa9e3aaa56ebd037335b395c6ec163539734114", func := "loop.example/g00575/laws.FnExactCanReach", spec := "fnExactCanReach", unfollowed := true, recurses := true, apart := false, narrowed := true }
def FnExactCanReachUptoSaid : Prop := fnExactCanReachUptoRow.holds Try.pinned (OpenSpec.upto fnExactCanReachSpec)

/-- 'laws.FnExactReachedBy', WHERE WHAT IT READS IS OF BULK AT MOST 1048576: true; the input reads as it did. -/
def fnExactReachedByUptoRow : OpenClaim := { program := "ytolncjkfcmbieaa", sum := "a92c6c8076904f2f42f4dcec9fa9e3aaa56ebd037335b395c6ec163539734114", func := "loop.example/g00575/laws.FnExactReachedBy", spec := "fnExactReachedBy", recurses := true, apart := false, narrowed := true }
def FnExactReachedByUptoSaid : Prop := fnExactReachedByUptoRow.holds Try.pinned (OpenSpec.upto fnExactReachedBySpec)

/-- 'laws.FnExactBehindOf', WHERE WHAT IT READS IS OF BULK AT MOST 1048576: true; the input reads as it did. -/
def fnExactBehindOfUptoRow : OpenClaim := { program := "ytolncjkfcmbieaa", sum := "a92c6c8076904f2f42f4dcec9fa9e3aaa56ebd037335b395c6ec163539734114", func := "loop.example/g00575/laws.FnExactBehindOf", spec := "fnExactBehindOf", recurses := true, apart := false, narrowed := true }
def FnExactBehindOfUptoSaid : Prop := fnExactBehindOfUptoRow.holds Try.pinned (OpenSpec.upto fnExactBehindOfSpec)

/-- 'laws.FnExactSendOne', WHERE WHAT IT READS IS OF BULK AT MOST 1048576: true; the input reads as it did. -/
def fnExactSendOneUptoRow : OpenClaim := { program := "ytolncjkfcmbieaa", sum := "a92c6c8076904f2f42f4dcec9fa9e3aaa56ebd037335b395c6ec163539734114", func := "loop.example/g00575/laws.FnExactSendOne", spec := "fnExactSendOne", unfollowed := true, recurses := true, apart := false, narrowed := true }
def FnExactSendOneUptoSaid : Prop := fnExactSendOneUptoRow.holds Try.pinned (OpenSpec.upto fnExactSendOneSpec)

/-- 'laws.FnExactSavedBy', WHERE WHAT IT READS IS OF BULK AT MOST 1048576: true; the input reads as it did. -/
def fnExactSavedByUptoRow : OpenClaim := { program := "ytolncjkfcmbieaa", sum := "a92c6c8076904f2f42f4dcec9fa9e3aaa56ebd037335b395c6ec163539734114", func := "loop.example/g00575/laws.FnExactSavedBy", spec := "fnExactSavedBy", unfollowed := true, recurses := true, apart := false, narrowed := true }
def FnExactSavedByUptoSaid : Prop := fnExactSavedByUptoRow.holds Try.pinned (OpenSpec.upto fnExactSavedBySpec)

end Rows
end Go.Proofs.Ytolncjkfcmbieaa
