/-
  No cell of these rows narrows 'for every input' (looked for: loops, veiled, ifaces, maps, wideKeys, modest, calm, conditions, laid).
  DERIVED. THE GIVEN ROWS OF THIS SEAT. 6 by the template 'for every input the law returns true; each argument reads behind the call as it read before'; 0 by the template 'total and deterministic' (their statements: YthambdfgkfkcmaaTotals.lean).
  GIVEN WITH THE SEED: the statements are not yours to turn. If you find one false, say at which input.
  Laid BY PROGRAM, IN A SANDBOX (cutbox-rows.mjs): the forced cells as the released guide's own fill.sh prints them over the translation a17585621654ea4b… (all of the seat's roots in one cut). By AI agents, Wed Nov 11 2026. No macro, syntax, notation, axiom, sorry.
-/
import Derived.Test.YthambdfgkfkcmaaChecked
import GoSem.Claim
import GoSem.ClaimJoined
import GoSem.ClaimMapViews
import Derived.JoinedTies
import Derived.KernelRfl
namespace Go.Proofs.Ythambdfgkfkcmaa
/- THE CELL 'sum', in the pinned program and in every row, IS THE sha256 OF THE DUMP (.gsa) THAT YthambdfgkfkcmaaProg.lean LOADS. Nothing in Lean hashes anything: it is a label: what it is worth is what the hold of that sum in a sandbox is worth. -/
noncomputable def Try.pinned : Pinned := { name := "ythambdfgkfkcmaa", sum := "a17585621654ea4bfbf9e126acfbfad7dab1438f33c7183563e65ee9099d3711", checked := Try.checked }
namespace Rows
def none {H : Type} : Left H := { results := [], args := [] }

/-- 'laws.FnExactCutBetween': WHATEVER THE INPUT: true; the input reads as it did. -/
def fnExactCutBetweenSpec : ChangeSpec := { name := "fnExactCutBetween", fn := fun _ => fun
  | [d1, d2, d3, d4] => { results := [.lit (.bool true)], args := [d1, d2, d3, d4] }
  | _ => none }
def fnExactCutBetweenRow : OpenClaim := { program := "ythambdfgkfkcmaa", sum := "a17585621654ea4bfbf9e126acfbfad7dab1438f33c7183563e65ee9099d3711", func := "loop.example/g00575/laws.FnExactCutBetween", spec := "fnExactCutBetween", apart := false }
def FnExactCutBetweenSaid : Prop := fnExactCutBetweenRow.holds Try.pinned (OpenSpec.ofChange fnExactCutBetweenSpec)

/-- ITS FALSE NEIGHBOUR: 'it returns false'. Refute it at one input. -/
def fnExactCutBetweenWrong : ChangeSpec := { name := "fnExactCutBetween", fn := fun _ => fun
  | [d1, d2, d3, d4] => { results := [.lit (.bool false)], args := [d1, d2, d3, d4] }
  | _ => none }
def FnExactCutBetweenWrongFalsely : Prop := fnExactCutBetweenRow.holds Try.pinned (OpenSpec.ofChange fnExactCutBetweenWrong)

/-- 'laws.FnExactBackupFor': WHATEVER THE INPUT: true; the input reads as it did. -/
def fnExactBackupForSpec : ChangeSpec := { name := "fnExactBackupFor", fn := fun _ => fun
  | [d1, d2, d3, d4] => { results := [.lit (.bool true)], args := [d1, d2, d3, d4] }
  | _ => none }
def fnExactBackupForRow : OpenClaim := { program := "ythambdfgkfkcmaa", sum := "a17585621654ea4bfbf9e126acfbfad7dab1438f33c7183563e65ee9099d3711", func := "loop.example/g00575/laws.FnExactBackupFor", spec := "fnExactBackupFor", apart := false }
def FnExactBackupForSaid : Prop := fnExactBackupForRow.holds Try.pinned (OpenSpec.ofChange fnExactBackupForSpec)

/-- ITS FALSE NEIGHBOUR: 'it returns false'. Refute it at one input. -/
def fnExactBackupForWrong : ChangeSpec := { name := "fnExactBackupFor", fn := fun _ => fun
  | [d1, d2, d3, d4] => { results := [.lit (.bool false)], args := [d1, d2, d3, d4] }
  | _ => none }
def FnExactBackupForWrongFalsely : Prop := fnExactBackupForRow.holds Try.pinned (OpenSpec.ofChange fnExactBackupForWrong)

/-- 'laws.FnExactWaysApart': WHATEVER THE INPUT: true; the input reads as it did. -/
def fnExactWaysApartSpec : ChangeSpec := { name := "fnExactWaysApart", fn := fun _ => fun
  | [d1, d2, d3, d4] => { results := [.lit (.bool true)], args := [d1, d2, d3, d4] }
  | _ => none }
def fnExactWaysApartRow : OpenClaim := { program := "ythambdfgkfkcmaa", sum := "a17585621654ea4bfbf9e126acfbfad7dab1438f33c7183563e65ee9099d3711", func := "loop.example/g00575/laws.FnExactWaysApart", spec := "fnExactWaysApart", apart := false }
def FnExactWaysApartSaid : Prop := fnExactWaysApartRow.holds Try.pinned (OpenSpec.ofChange fnExactWaysApartSpec)

/-- ITS FALSE NEIGHBOUR: 'it returns false'. Refute it at one input. -/
def fnExactWaysApartWrong : ChangeSpec := { name := "fnExactWaysApart", fn := fun _ => fun
  | [d1, d2, d3, d4] => { results := [.lit (.bool false)], args := [d1, d2, d3, d4] }
  | _ => none }
def FnExactWaysApartWrongFalsely : Prop := fnExactWaysApartRow.holds Try.pinned (OpenSpec.ofChange fnExactWaysApartWrong)

/-- 'laws.FnFirm': WHATEVER THE INPUT: true; the input reads as it did. -/
def fnFirmSpec : ChangeSpec := { name := "fnFirm", fn := fun _ => fun
  | [d1, d2] => { results := [.lit (.bool true)], args := [d1, d2] }
  | _ => none }
def fnFirmRow : OpenClaim := { program := "ythambdfgkfkcmaa", sum := "a17585621654ea4bfbf9e126acfbfad7dab1438f33c7183563e65ee9099d3711", func := "loop.example/g00575/laws.FnFirm", spec := "fnFirm", recurses := true, apart := false }
def FnFirmSaid : Prop := fnFirmRow.holds Try.pinned (OpenSpec.ofChange fnFirmSpec)

/-- ITS FALSE NEIGHBOUR: 'it returns false'. Refute it at one input. -/
def fnFirmWrong : ChangeSpec := { name := "fnFirm", fn := fun _ => fun
  | [d1, d2] => { results := [.lit (.bool false)], args := [d1, d2] }
  | _ => none }
def FnFirmWrongFalsely : Prop := fnFirmRow.holds Try.pinned (OpenSpec.ofChange fnFirmWrong)

/-- 'laws.FnFixed': WHATEVER THE INPUT: true; the input reads as it did. -/
def fnFixedSpec : ChangeSpec := { name := "fnFixed", fn := fun _ => fun
  | [d1, d2] => { results := [.lit (.bool true)], args := [d1, d2] }
  | _ => none }
def fnFixedRow : OpenClaim := { program := "ythambdfgkfkcmaa", sum := "a17585621654ea4bfbf9e126acfbfad7dab1438f33c7183563e65ee9099d3711", func := "loop.example/g00575/laws.FnFixed", spec := "fnFixed", apart := false }
def FnFixedSaid : Prop := fnFixedRow.holds Try.pinned (OpenSpec.ofChange fnFixedSpec)

/-- ITS FALSE NEIGHBOUR: 'it returns false'. Refute it at one input. -/
def fnFixedWrong : ChangeSpec := { name := "fnFixed", fn := fun _ => fun
  | [d1, d2] => { results := [.lit (.bool false)], args := [d1, d2] }
  | _ => none }
def FnFixedWrongFalsely : Prop := fnFixedRow.holds Try.pinned (OpenSpec.ofChange fnFixedWrong)

/-- 'laws.FnCut': WHATEVER THE INPUT: true; the input reads as it did. -/
def fnCutSpec : ChangeSpec := { name := "fnCut", fn := fun _ => fun
  | [d1, d2] => { results := [.lit (.bool true)], args := [d1, d2] }
  | _ => none }
def fnCutRow : OpenClaim := { program := "ythambdfgkfkcmaa", sum := "a17585621654ea4bfbf9e126acfbfad7dab1438f33c7183563e65ee9099d3711", func := "loop.example/g00575/laws.FnCut", spec := "fnCut", apart := false }
def FnCutSaid : Prop := fnCutRow.holds Try.pinned (OpenSpec.ofChange fnCutSpec)

/-- ITS FALSE NEIGHBOUR: 'it returns false'. Refute it at one input. -/
def fnCutWrong : ChangeSpec := { name := "fnCut", fn := fun _ => fun
  | [d1, d2] => { results := [.lit (.bool false)], args := [d1, d2] }
  | _ => none }
def FnCutWrongFalsely : Prop := fnCutRow.holds Try.pinned (OpenSpec.ofChange fnCutWrong)

/- THE SECOND FORM. 'bulk': how many values and letters a reading holds, each counted each time it is reached (what is shared counts as often as it is met; a slice's spare places count too). A statement '..UptoSaid' is the law's where the arguments, and the package variables that the reading takes, are together of bulk at most 1048576: NARROWER than '..Said'. Prove '..Said' where nothing that the law and all that it calls make is longer than what came in: it says more and counts as full. Else prove '..UptoSaid'. A law counts once. -/
mutual
def uptoBulk {H : Type} : DataW H → Nat
  | .lit (.string bytes) => bytes.length + 1
  | .lit _ => 1
  | .nil => 1
  | .ptr d => uptoBulk d + 1
  | .slice elems spare => uptoBulkAll elems + uptoBulkAll spare + 1
  | .agg parts => uptoBulkAll parts + 1
  | .iface _ d => uptoBulk d + 1
  | .map entries => uptoBulkEntries entries + 1
  | .held _ => 1
def uptoBulkAll {H : Type} : List (DataW H) → Nat
  | [] => 0
  | d :: r => uptoBulk d + uptoBulkAll r
def uptoBulkEntries {H : Type} : List (Lit × DataW H) → Nat
  | [] => 0
  | x :: r => uptoBulkEntry x + uptoBulkEntries r
def uptoBulkEntry {H : Type} : Lit × DataW H → Nat
  | (.string bytes, d) => bytes.length + uptoBulk d + 1
  | (_, d) => uptoBulk d + 1
 end
def uptoSmall : (H : Type) → List (DataW H) → Bool := fun _ ds => decide (uptoBulkAll ds ≤ 1048576)
def OpenSpec.upto (s : _root_.Go.ChangeSpec) : _root_.Go.OpenSpec := { _root_.Go.OpenSpec.ofChange s with cond := some uptoSmall }

/-- 'laws.FnExactCutBetween', WHERE WHAT IT READS IS OF BULK AT MOST 1048576: true; the input reads as it did. -/
def fnExactCutBetweenUptoRow : OpenClaim := { program := "ythambdfgkfkcmaa", sum := "a17585621654ea4bfbf9e126acfbfad7dab1438f33c7183563e65ee9099d3711", func := "loop.example/g00575/laws.FnExactCutBetween", spec := "fnExactCutBetween", apart := false, narrowed := true }
def FnExactCutBetweenUptoSaid : Prop := fnExactCutBetweenUptoRow.holds Try.pinned (OpenSpec.upto fnExactCutBetweenSpec)

/-- 'laws.FnExactBackupFor', WHERE WHAT IT READS IS OF BULK AT MOST 1048576: true; the input reads as it did. -/
def fnExactBackupForUptoRow : OpenClaim := { program := "ythambdfgkfkcmaa", sum := "a17585621654ea4bfbf9e126acfbfad7dab1438f33c7183563e65ee9099d3711", func := "loop.example/g00575/laws.FnExactBackupFor", spec := "fnExactBackupFor", apart := false, narrowed := true }
def FnExactBackupForUptoSaid : Prop := fnExactBackupForUptoRow.holds Try.pinned (OpenSpec.upto fnExactBackupForSpec)

/-- 'laws.FnExactWaysApart', WHERE WHAT IT READS IS OF BULK AT MOST 1048576: true; the input reads as it did. -/
def fnExactWaysApartUptoRow : OpenClaim := { program := "ythambdfgkfkcmaa", sum := "a17585621654ea4bfbf9e126acfbfad7dab1438f33c7183563e65ee9099d3711", func := "loop.example/g00575/laws.FnExactWaysApart", spec := "fnExactWaysApart", apart := false, narrowed := true }
def FnExactWaysApartUptoSaid : Prop := fnExactWaysApartUptoRow.holds Try.pinned (OpenSpec.upto fnExactWaysApartSpec)

/-- 'laws.FnFirm', WHERE WHAT IT READS IS OF BULK AT MOST 1048576: true; the input reads as it did. -/
def fnFirmUptoRow : OpenClaim := { program := "ythambdfgkfkcmaa", sum := "a17585621654ea4bfbf9e126acfbfad7dab1438f33c7183563e65ee9099d3711", func := "loop.example/g00575/laws.FnFirm", spec := "fnFirm", recurses := true, apart := false, narrowed := true }
def FnFirmUptoSaid : Prop := fnFirmUptoRow.holds Try.pinned (OpenSpec.upto fnFirmSpec)

/-- 'laws.FnFixed', WHERE WHAT IT READS IS OF BULK AT MOST 1048576: true; the input reads as it did. -/
def fnFixedUptoRow : OpenClaim := { program := "ythambdfgkfkcmaa", sum := "a17585621654ea4bfbf9e126acfbfad7dab1438f33c7183563e65ee9099d3711", func := "loop.example/g00575/laws.FnFixed", spec := "fnFixed", apart := false, narrowed := true }
def FnFixedUptoSaid : Prop := fnFixedUptoRow.holds Try.pinned (OpenSpec.upto fnFixedSpec)

/-- 'laws.FnCut', WHERE WHAT IT READS IS OF BULK AT MOST 1048576: true; the input reads as it did. -/
def fnCutUptoRow : OpenClaim := { program := "ythambdfgkfkcmaa", sum := "a17585621654ea4bfbf9e126acfbfad7dab1438f33c7183563e65ee9099d3711", func := "loop.example/g00575/laws.FnCut", spec := "fnCut", apart := false, narrowed := true }
def FnCutUptoSaid : Prop := fnCutUptoRow.holds Try.pinned (OpenSpec.upto fnCutSpec)

end Rows
end Go.Proofs.Ythambdfgkfkcmaa
