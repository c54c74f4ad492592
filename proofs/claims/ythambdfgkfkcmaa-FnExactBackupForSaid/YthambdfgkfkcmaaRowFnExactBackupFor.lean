/- The law FnExactBackupFor: for every input it answers true, and the input reads as it did. -/
import Derived.Test.YthambdfgkfkcmaaRows
import Derived.Test.YthambdfgkfkcmaaF2
import Derived.Test.YthambdfgkfkcmaaB2
import Derived.Test.YthambdfgkfkcmaaQOpen
import Derived.WalkKit
import Derived.ProofKit
import Derived.OpenShut
import Derived.ShutString
import Derived.ChangeOld
import Derived.Below
import Derived.SizedLaws
import Derived.RowKit
namespace Go.Proofs.Ythambdfgkfkcmaa.fnExactBackupFor
open Go.ChangeShapes Go.WideShapes Go.ChangeAt Go.RowKit
open Go.ChangeMaps (open_string shut_string)
open Go.Proofs.Ythambdfgkfkcmaa.P Go.Proofs.YthambdfgkfkcmaaW.PrintWords Go.Proofs.Ythambdfgkfkcmaa.Pure
set_option linter.unusedVariables false
set_option linter.unusedSimpArgs false
theorem op69 : Q.Opens Try.prog k69 69 G69 :=
  Q.opens_struct (l := [(0, 3), (1, 3), (2, 3)]) (fun x : S69 => (x.f0, x.f1, x.f2)) (fun a => ⟨a.1, a.2.1, a.2.2⟩) (fun _ => rfl) Try.underlying69 rfl (by kernel_rfl) (Q.opensF_cons (by kernel_rfl) (Q.opens_int Try.underlying3) (Q.opensF_cons (by kernel_rfl) (Q.opens_int Try.underlying3) (Q.opensF_one (by kernel_rfl) (Q.opens_int Try.underlying3))))

theorem own : ownKnob Try.prog.godebug = none := by kernel_rfl
theorem laidOut : laidOutB Try.prog = true := by kernel_rfl
set_option maxRecDepth 100000 in
theorem lifted (os : Os) (started : os.Started) (H : Type) (enc : TypeId × Value → H) :
    ReturnsInHanded {} Try.checked os 4 .any (Rows.fnExactBackupForSpec.pre6 enc Try.prog Try.f4 Rows.fnExactBackupForRow.domain false) (Rows.fnExactBackupForSpec.post enc Try.prog Try.f4 false true false false) := by
  refine returnsInHanded_of_change_sized (C := Try.checked) own started (by kernel_rfl) Try.func4
    (ChangeSpec.witness6 (enc := enc) (C := Try.checked) false ⟨#[], #[.int .i64 0, .slice none 0 0, .int .i64 0, .int .i64 0], []⟩ 8 (by kernel_rfl) (by kernel_rfl) (by kernel_rfl) (by kernel_rfl)) ?_
  intro W base args ds gs before hval0 hW hcnd hsz0 _
  have hval : ∀ (j : Nat) t v, Try.f4.params[j]? = some t → args[j]? = some v → Value.okWide Try.prog W .any base t v := hval0
  have hW' := hW
  obtain ⟨p, q, hA0, hV, rfl, hfz, hnd⟩ := hW
  have hA : DataW.TrodAll enc Try.prog W 0 (fun _ => true) true Try.f4.params.toList args.toList ds p := hA0
  rw [Try.params4] at hA hval
  obtain ⟨v0, vs0, d0, ds0, p0, q0, hargs, rfl, rfl, h0, r0⟩ := trodAll_cons hA
  obtain ⟨v1, vs1, d1, ds1, p1, q1, rfl, rfl, rfl, h1, r1⟩ := trodAll_cons r0
  obtain ⟨v2, vs2, d2, ds2, p2, q2, rfl, rfl, rfl, h2, r2⟩ := trodAll_cons r1
  obtain ⟨v3, vs3, d3, ds3, p3, q3, rfl, rfl, rfl, h3, r3⟩ := trodAll_cons r2
  obtain ⟨rfl, rfl, rfl⟩ := trodAll_nil r3
  obtain rfl : args = #[v0, v1, v2, v3] := by cases args; simp_all
  obtain ⟨rfl, rfl⟩ := trodVars_none hV
  obtain ⟨a0, rfl, rfl, rfl, g0⟩ := open_int Try.underlying3 (hval 0 3 v0 rfl rfl) h0
  obtain ⟨a1, len1, cap1, rfl⟩ := okWide_slice Try.underlying22 (hval 1 22 v1 rfl rfl)
  have k1t := h1
  have lt1 : ∀ x ∈ p1, x.block < W.heap.size := by obtain ⟨m, hm⟩ := k1t; exact DataW.trod_lt m _ _ _ hm
  obtain ⟨l1, rfl, hc1, hC1, g1⟩ := Q.opened_slice (G := (fun l => (l.length ≤ maxLen ∧ ∀ y ∈ l, G69 y))) (Q.opens_slice Try.underlying22 (by kernel_rfl) op69) h1
  obtain ⟨a2, rfl, rfl, rfl, g2⟩ := open_int Try.underlying3 (hval 2 3 v2 rfl rfl) h2
  obtain ⟨a3, rfl, rfl, rfl, g3⟩ := open_int Try.underlying3 (hval 3 3 v3 rfl rfl) h3
  clear hA0 hval0 hsz0
  obtain ⟨k_, hk_⟩ := Pure.FnExactBackupFor a0 l1 a2 a3 g0 g1 g2 g3
  refine (laws_FnExactBackupFor.calls k_ a0 a1 cap1 l1 a2 a3 true W hC1 hc1 hk_).mono fun e W' ⟨he, bel⟩ => ?_
  subst he
  exact ⟨_, rfl, _, _, _, [], _, [], hW', trodAll_mk1 (shut_bool Try.underlying4 _), (trodAll_cons_mk (shut_int Try.underlying3 g0) (trodAll_cons_mk (Below.trod laidOut (by kernel_rfl) (of_decide_eq_true (by kernel_rfl)) k1t bel lt1) (trodAll_cons_mk (shut_int Try.underlying3 g2) (trodAll_cons_mk (shut_int Try.underlying3 g3) trodAll_mk0)))), rfl, bel.frame _, fun h => by cases h⟩
theorem over : Rows.fnExactBackupForRow.holds Try.pinned (OpenSpec.ofChange Rows.fnExactBackupForSpec) :=
  OpenClaim.holds_of_wide 4 Try.f4 rfl rfl rfl rfl rfl rfl rfl ⟨rfl, rfl, rfl, rfl, rfl⟩ rfl rfl rfl rfl rfl (by kernel_rfl) Try.func4 (by kernel_rfl)
    (of_decide_eq_true (by kernel_rfl)) (by unfold Func.isWrapper; first | (rw [if_pos (by decide +kernel)]; kernel_rfl) | (rw [if_neg (by decide +kernel)]; exact ⟨rfl, rfl⟩))
    (fun os started H enc _ => lifted os started H enc)
end Go.Proofs.Ythambdfgkfkcmaa.fnExactBackupFor
namespace Go.Proofs.Ythambdfgkfkcmaa
/-- The law FnExactBackupFor, for every input. -/
theorem fnExactBackupFor_holds : Rows.FnExactBackupForSaid := fnExactBackupFor.over
#print axioms fnExactBackupFor_holds
end Go.Proofs.Ythambdfgkfkcmaa
