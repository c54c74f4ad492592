/-
  No cell of these rows narrows 'for every input' (looked for: loops, veiled, ifaces, maps, wideKeys, modest, calm, conditions, laid).
  DERIVED. THE GIVEN ROWS OF THIS SEAT. 8 by the template 'for every input the law returns true; each argument reads behind the call as it read before'; 0 by the template 'total and deterministic' (their statements: YtpohlcjkabojcaaTotals.lean).
  GIVEN WITH THE SEED: the statements are not yours to turn. If you find one false, say at which input.
  Laid BY PROGRAM, IN A SANDBOX (cutbox-rows.mjs): the forced cells as the released guide's own fill.sh prints them over the translation 0fa7bcc5e17bb886… (all of the seat's roots in one cut). By AI agents, Wed Nov 11 2026. No macro, syntax, notation, axiom, sorry.
-/
import Derived.Test.YtpohlcjkabojcaaChecked
import GoSem.Claim
import GoSem.ClaimJoined
import GoSem.ClaimMapViews
import Derived.JoinedTies
import Derived.KernelRfl
namespace Go.Proofs.Ytpohlcjkabojcaa
/- THE CELL 'sum', in the pinned program and in every row, IS THE sha256 OF THE DUMP (.gsa) THAT YtpohlcjkabojcaaProg.lean LOADS. Nothing in Lean hashes anything: it is a label: what it is worth is what the hold of that sum in a sandbox is worth. -/
noncomputable def Try.pinned : Pinned := { name := "ytpohlcjkabojcaa", sum := "0fa7bcc5e17bb8867449357e34b803905f20f5ffe195b9f49b6a68d34384ae98", checked := Try.checked }
namespace Rows
def none {H : Type} : Left H := { results := [], args := [] }

/-- 'laws.FnExactUpLinks': WHATEVER THE INPUT: true; the input reads as it did. -/
def fnExactUpLinksSpec : ChangeSpec := { name := "fnExactUpLinks", fn := fun _ => fun
  | [d] => { results := [.lit (.bool true)], args := [d] }
  | _ => none }
def fnExactUpLinksRow : OpenClaim := { program := "ytpohlcjkabojcaa", sum := "0fa7bcc5e17bb8867449357e34b803905f20f5ffe195b9f49b6a68d34384ae98", func := "loop.example/g00575/laws.FnExactUpLinks", spec := "fnExactUpLinks", apart := false }
def FnExactUpLinksSaid : Prop := fnExactUpLinksRow.holds Try.pinned (OpenSpec.ofChange fnExactUpLinksSpec)

/-- ITS FALSE NEIGHBOUR: 'it returns false'. Refute it at one input. -/
def fnExactUpLinksWrong : ChangeSpec := { name := "fnExactUpLinks", fn := fun _ => fun
  | [d] => { results := [.lit (.bool false)], args := [d] }
  | _ => none }
def FnExactUpLinksWrongFalsely : Prop := fnExactUpLinksRow.holds Try.pinned (OpenSpec.ofChange fnExactUpLinksWrong)

/-- 'laws.FnExactCanReach': WHATEVER THE INPUT: true; the input reads as it did. -/
def fnExactCanReachSpec : ChangeSpec := { name := "fnExactCanReach", fn := fun _ => fun
  | [d1, d2, d3] => { results := [.lit (.bool true)], args := [d1, d2, d3] }
  | _ => none }
def fnExactCanReachRow : OpenClaim := { program := "ytpohlcjkabojcaa", sum := "0fa7bcc5e17bb8867449357e34b803905f20f5ffe195b9f49b6a68d34384ae98", func := "loop.example/g00575/laws.FnExactCanReach", spec := "fnExactCanReach", unfollowed := true, recurses := true, apart := false }
def FnExactCanReachSaid : Prop := fnExactCanReachRow.holds Try.pinned (OpenSpec.ofChange fnExactCanReachSpec)

/-- ITS FALSE NEIGHBOUR: 'it returns false'. Refute it at one input. -/
def fnExactCanReachWrong : ChangeSpec := { name := "fnExactCanReach", fn := fun _ => fun
  | [d1, d2, d3] => { results := [.lit (.bool false)], args := [d1, d2, d3] }
  | _ => none }
def FnExactCanReachWrongFalsely : Prop := fnExactCanReachRow.holds Try.pinned (OpenSpec.ofChange fnExactCanReachWrong)

/-- 'laws.FnExactSendOne': WHATEVER THE INPUT: true; the input reads as it did. -/
def fnExactSendOneSpec : ChangeSpec := { name := "fnExactSendOne", fn := fun _ => fun
  | [d1, d2, d3] => { results := [.lit (.bool true)], args := [d1, d2, d3] }
  | _ => none }
def fnExactSendOneRow : OpenClaim := { program := "ytpohlcjkabojcaa", sum := "0fa7bcc5e17bb8867449357e34b803905f20f5ffe195b9f49b6a68d34384ae98", func := "loop.example/g00575/laws.FnExactSendOne", spec := "fnExactSendOne", unfollowed := true, recurses := true, apart := false }
def FnExactSendOneSaid : Prop := fnExactSendOneRow.holds Try.pinned (OpenSpec.ofChange fnExactSendOneSpec)

/-- ITS FALSE NEIGHBOUR: 'it returns false'. Refute it at one input. -/
def fnExactSendOneWrong : ChangeSpec := { name := "fnExactSendOne", fn := fun _ => fun
  | [d1, d2, d3] => { results := [.lit (.bool false)], args := [d1, d2, d3] }
  | _ => none }
def FnExactSendOneWrongFalsely : Prop := fnExactSendOneRow.holds Try.pinned (OpenSpec.ofChange fnExactSendOneWrong)

/-- 'laws.FnExactLowsOf': WHATEVER THE INPUT: true; the input reads as it did. -/
def fnExactLowsOfSpec : ChangeSpec := { name := "fnExactLowsOf", fn := fun _ => fun
  | [d1, d2] => { results := [.lit (.bool true)], args := [d1, d2] }
  | _ => none }
def fnExactLowsOfRow : OpenClaim := { program := "ytpohlcjkabojcaa", sum := "0fa7bcc5e17bb8867449357e34b803905f20f5ffe195b9f49b6a68d34384ae98", func := "loop.example/g00575/laws.FnExactLowsOf", spec := "fnExactLowsOf", recurses := true, apart := false }
def FnExactLowsOfSaid : Prop := fnExactLowsOfRow.holds Try.pinned (OpenSpec.ofChange fnExactLowsOfSpec)

/-- ITS FALSE NEIGHBOUR: 'it returns false'. Refute it at one input. -/
def fnExactLowsOfWrong : ChangeSpec := { name := "fnExactLowsOf", fn := fun _ => fun
  | [d1, d2] => { results := [.lit (.bool false)], args := [d1, d2] }
  | _ => none }
def FnExactLowsOfWrongFalsely : Prop := fnExactLowsOfRow.holds Try.pinned (OpenSpec.ofChange fnExactLowsOfWrong)

/-- 'laws.FnExactCutBetween': WHATEVER THE INPUT: true; the input reads as it did. -/
def fnExactCutBetweenSpec : ChangeSpec := { name := "fnExactCutBetween", fn := fun _ => fun
  | [d1, d2, d3, d4] => { results := [.lit (.bool true)], args := [d1, d2, d3, d4] }
  | _ => none }
def fnExactCutBetweenRow : OpenClaim := { program := "ytpohlcjkabojcaa", sum := "0fa7bcc5e17bb8867449357e34b803905f20f5ffe195b9f49b6a68d34384ae98", func := "loop.example/g00575/laws.FnExactCutBetween", spec := "fnExactCutBetween", apart := false }
def FnExactCutBetweenSaid : Prop := fnExactCutBetweenRow.holds Try.pinned (OpenSpec.ofChange fnExactCutBetweenSpec)

/-- ITS FALSE NEIGHBOUR: 'it returns false'. Refute it at one input. -/
def fnExactCutBetweenWrong : ChangeSpec := { name := "fnExactCutBetween", fn := fun _ => fun
  | [d1, d2, d3, d4] => { results := [.lit (.bool false)], args := [d1, d2, d3, d4] }
  | _ => none }
def FnExactCutBetweenWrongFalsely : Prop := fnExactCutBetweenRow.holds Try.pinned (OpenSpec.ofChange fnExactCutBetweenWrong)

/-- 'laws.FnExactPlayCampus': WHATEVER THE INPUT: true; the input reads as it did. -/
def fnExactPlayCampusSpec : ChangeSpec := { name := "fnExactPlayCampus", fn := fun _ => fun
  | [d1, d2, d3] => { results := [.lit (.bool true)], args := [d1, d2, d3] }
  | _ => none }
def fnExactPlayCampusRow : OpenClaim := { program := "ytpohlcjkabojcaa", sum := "0fa7bcc5e17bb8867449357e34b803905f20f5ffe195b9f49b6a68d34384ae98", func := "loop.example/g00575/laws.FnExactPlayCampus", spec := "fnExactPlayCampus", inPlace := ["slices.overlaps[loop.example/g00575/impl.Place]", "slices.overlaps[int]"], unfollowed := true, recurses := true, apart := false }
def FnExactPlayCampusSaid : Prop := fnExactPlayCampusRow.holds Try.pinned (OpenSpec.ofChange fnExactPlayCampusSpec)

/-- ITS FALSE NEIGHBOUR: 'it returns false'. Refute it at one input. -/
def fnExactPlayCampusWrong : ChangeSpec := { name := "fnExactPlayCampus", fn := fun _ => fun
  | [d1, d2, d3] => { results := [.lit (.bool false)], args := [d1, d2, d3] }
  | _ => none }
def FnExactPlayCampusWrongFalsely : Prop := fnExactPlayCampusRow.holds Try.pinned (OpenSpec.ofChange fnExactPlayCampusWrong)

/-- 'laws.FnExactDoCampus': WHATEVER THE INPUT: true; the input reads as it did. -/
def fnExactDoCampusSpec : ChangeSpec := { name := "fnExactDoCampus", fn := fun _ => fun
  | [d1, d2] => { results := [.lit (.bool true)], args := [d1, d2] }
  | _ => none }
def fnExactDoCampusRow : OpenClaim := { program := "ytpohlcjkabojcaa", sum := "0fa7bcc5e17bb8867449357e34b803905f20f5ffe195b9f49b6a68d34384ae98", func := "loop.example/g00575/laws.FnExactDoCampus", spec := "fnExactDoCampus", inPlace := ["slices.overlaps[loop.example/g00575/impl.Place]", "slices.overlaps[int]"], unfollowed := true, recurses := true, apart := false }
def FnExactDoCampusSaid : Prop := fnExactDoCampusRow.holds Try.pinned (OpenSpec.ofChange fnExactDoCampusSpec)

/-- ITS FALSE NEIGHBOUR: 'it returns false'. Refute it at one input. -/
def fnExactDoCampusWrong : ChangeSpec := { name := "fnExactDoCampus", fn := fun _ => fun
  | [d1, d2] => { results := [.lit (.bool false)], args := [d1, d2] }
  | _ => none }
def FnExactDoCampusWrongFalsely : Prop := fnExactDoCampusRow.holds Try.pinned (OpenSpec.ofChange fnExactDoCampusWrong)

/-- 'laws.FnExactBackupFor': WHATEVER THE INPUT: true; the input reads as it did. -/
def fnExactBackupForSpec : ChangeSpec := { name := "fnExactBackupFor", fn := fun _ => fun
  | [d1, d2, d3, d4] => { results := [.lit (.bool true)], args := [d1, d2, d3, d4] }
  | _ => none }
def fnExactBackupForRow : OpenClaim := { program := "ytpohlcjkabojcaa", sum := "0fa7bcc5e17bb8867449357e34b803905f20f5ffe195b9f49b6a68d34384ae98", func := "loop.example/g00575/laws.FnExactBackupFor", spec := "fnExactBackupFor", apart := false }
def FnExactBackupForSaid : Prop := fnExactBackupForRow.holds Try.pinned (OpenSpec.ofChange fnExactBackupForSpec)

/-- ITS FALSE NEIGHBOUR: 'it returns false'. Refute it at one input. -/
def fnExactBackupForWrong : ChangeSpec := { name := "fnExactBackupFor", fn := fun _ => fun
  | [d1, d2, d3, d4] => { results := [.lit (.bool false)], args := [d1, d2, d3, d4] }
  | _ => none }
def FnExactBackupForWrongFalsely : Prop := fnExactBackupForRow.holds Try.pinned (OpenSpec.ofChange fnExactBackupForWrong)

/- THE SECOND FORM. 'bulk': how many values and letters a reading holds, each counted each time it is reached (what is shared counts as often as it is met; a slice's spare places count too). A statement '..UptoSaid' is the law's where the arguments, and the package variables that the reading takes, are together of bulk at most 1048576: NARROWER than '..Said'. Prove '..Said' where nothing that the law and all that it calls make is longer than what came in: it says more and counts as full. Else prove '..UptoSaid'. A law counts once. -/
mutual
def uptoBulk {H : Type} : DataW H → Nat
  | .lit (.string bytes) => bytes.length + 1
  | .lit _ => 1
  | .nil => 1
  | .ptr d => uptoBulk d + 1
  | .slice elems spare => uptoBulkAll elems + uptoBulkAll spare + 1
  | .agg parts => uptoBulkAll parts + 1
  | .iface _ d => uptoBulk d + 1
  | .map entries => uptoBulkEntries entries + 1
  | .held _ => 1
def uptoBulkAll {H : Type} : List (DataW H) → Nat
  | [] => 0
  | d :: r => uptoBulk d + uptoBulkAll r
def uptoBulkEntries {H : Type} : List (Lit × DataW H) → Nat
  | [] => 0
  | x :: r => uptoBulkEntry x + uptoBulkEntries r
def uptoBulkEntry {H : Type} : Lit × DataW H → Nat
  | (.string bytes, d) => bytes.length + uptoBulk d + 1
  | (_, d) => uptoBulk d + 1
 end
def uptoSmall : (H : Type) → List (DataW H) → Bool := fun _ ds => decide (uptoBulkAll ds ≤ 1048576)
def OpenSpec.upto (s : _root_.Go.ChangeSpec) : _root_.Go.OpenSpec := { _root_.Go.OpenSpec.ofChange s with cond := some uptoSmall }

/-- 'laws.FnExactUpLinks', WHERE WHAT IT READS IS OF BULK AT MOST 1048576: true; the input reads as it did. -/
def fnExactUpLinksUptoRow : OpenClaim := { program := "ytpohlcjkabojcaa", sum := "0fa7bcc5e17bb8867449357e34b803905f20f5ffe195b9f49b6a68d34384ae98", func := "loop.example/g00575/laws.FnExactUpLinks", spec := "fnExactUpLinks", apart := false, narrowed := true }
def FnExactUpLinksUptoSaid : Prop := fnExactUpLinksUptoRow.holds Try.pinned (OpenSpec.upto fnExactUpLinksSpec)

/-- 'laws.FnExactCanReach', WHERE WHAT IT READS IS OF BULK AT MOST 1048576: true; the input reads as it did. -/
def fnExactCanReachUptoRow : OpenClaim := { program := "ytpohlcjkabojcaa", sum := "0fa7bcc5e17bb8867449357e34b803905f20f5ffe195b9f49b6a68d34384ae98", func := "loop.example/g00575/laws.FnExactCanReach", spec := "fnExactCanReach", unfollowed := true, recurses := true, apart := false, narrowed := true }
def FnExactCanReachUptoSaid : Prop := fnExactCanReachUptoRow.holds Try.pinned (OpenSpec.upto fnExactCanReachSpec)

/-- 'laws.FnExactSendOne', WHERE WHAT IT READS IS OF BULK AT MOST 1048576: true; the input reads as it did. -/
def fnExactSendOneUptoRow : OpenClaim := { program := "ytpohlcjkabojcaa", sum := "0fa7bcc5e17bb8867449357e34b803905f20f5ffe195b9f49b6a68d34384ae98", func := "loop.example/g00575/laws.FnExactSendOne", spec := "fnExactSendOne", unfollowed := true, recurses := true, apart := false, narrowed := true }
def FnExactSendOneUptoSaid : Prop := fnExactSendOneUptoRow.holds Try.pinned (OpenSpec.upto fnExactSendOneSpec)

/-- 'laws.FnExactLowsOf', WHERE WHAT IT READS IS OF BULK AT MOST 1048576: true; the input reads as it did. -/
def fnExactLowsOfUptoRow : OpenClaim := { program := "ytpohlcjkabojcaa", sum := "0fa7bcc5e17bb8867449357e34b803905f20f5ffe195b9f49b6a68d34384ae98", func := "loop.example/g00575/laws.FnExactLowsOf", spec := "fnExactLowsOf", recurses := true, apart := false, narrowed := true }
def FnExactLowsOfUptoSaid : Prop := fnExactLowsOfUptoRow.holds Try.pinned (OpenSpec.upto fnExactLowsOfSpec)

/-- 'laws.FnExactCutBetween', WHERE WHAT IT READS IS OF BULK AT MOST 1048576: true; the input reads as it did. -/
def fnExactCutBetweenUptoRow : OpenClaim := { program := "ytpohlcjkabojcaa", sum := "0fa7bcc5e17bb8867449357e34b803905f20f5ffe195b9f49b6a68d34384ae98", func := "loop.example/g00575/laws.FnExactCutBetween", spec := "fnExactCutBetween", apart := false, narrowed := true }
def FnExactCutBetweenUptoSaid : Prop := fnExactCutBetweenUptoRow.holds Try.pinned (OpenSpec.upto fnExactCutBetweenSpec)

/-- 'laws.FnExactPlayCampus', WHERE WHAT IT READS IS OF BULK AT MOST 1048576: true; the input reads as it did. -/
def fnExactPlayCampusUptoRow : OpenClaim := { program := "ytpohlcjkabojcaa", sum := "0fa7bcc5e17bb8867449357e34b803905f20f5ffe195b9f49b6a68d34384ae98", func := "loop.example/g00575/laws.FnExactPlayCampus", spec := "fnExactPlayCampus", inPlace := ["slices.overlaps[loop.example/g00575/impl.Place]", "slices.overlaps[int]"], unfollowed := true, recurses := true, apart := false, narrowed := true }
def FnExactPlayCampusUptoSaid : Prop := fnExactPlayCampusUptoRow.holds Try.pinned (OpenSpec.upto fnExactPlayCampusSpec)

/-- 'laws.FnExactDoCampus', WHERE WHAT IT READS IS OF BULK AT MOST 1048576: true; the input reads as it did. -/
def fnExactDoCampusUptoRow : OpenClaim := { program := "ytpohlcjkabojcaa", sum := "0fa7bcc5e17bb8867449357e34b803905f20f5ffe195b9f49b6a68d34384ae98", func := "loop.example/g00575/laws.FnExactDoCampus", spec := "fnExactDoCampus", inPlace := ["slices.overlaps[loop.example/g00575/impl.Place]", "slices.overlaps[int]"], unfollowed := true, recurses := true, apart := false, narrowed := true }
def FnExactDoCampusUptoSaid : Prop := fnExactDoCampusUptoRow.holds Try.pinned (OpenSpec.upto fnExactDoCampusSpec)

/-- 'laws.FnExactBackupFor', WHERE WHAT IT READS IS OF BULK AT MOST 1048576: true; the input reads as it did. -/
def fnExactBackupForUptoRow : OpenClaim := { program := "ytpohlcjkabojcaa", sum := "0fa7bcc5e17bb8867449357e34b803905f20f5ffe195b9f49b6a68d34384ae98", func := "loop.example/g00575/laws.FnExactBackupFor", spec := "fnExactBackupFor", apart := false, narrowed := true }
def FnExactBackupForUptoSaid : Prop := fnExactBackupForUptoRow.holds Try.pinned (OpenSpec.upto fnExactBackupForSpec)

end Rows
end Go.Proofs.Ytpohlcjkabojcaa
