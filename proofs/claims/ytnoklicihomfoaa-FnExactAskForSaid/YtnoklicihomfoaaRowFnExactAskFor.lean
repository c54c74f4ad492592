/- The law FnExactAskFor: for every input it answers true, and the input reads as it did. -/
import Derived.Test.YtnoklicihomfoaaRows
import Derived.Test.YtnoklicihomfoaaF36
import Derived.Test.YtnoklicihomfoaaB36
import Derived.Test.YtnoklicihomfoaaQOpen
import Derived.WalkKit
import Derived.ProofKit
import Derived.OpenShut
import Derived.ShutString
import Derived.ChangeOld
import Derived.Below
import Derived.SizedLaws
import Derived.RowKit
namespace Go.Proofs.Ytnoklicihomfoaa.fnExactAskFor
open Go.ChangeShapes Go.WideShapes Go.ChangeAt Go.RowKit
open Go.ChangeMaps (open_string shut_string)
open Go.Proofs.Ytnoklicihomfoaa.P Go.Proofs.YtnoklicihomfoaaW.PrintWords Go.Proofs.Ytnoklicihomfoaa.Pure
set_option linter.unusedVariables false
set_option linter.unusedSimpArgs false
theorem op106 : Q.Opens Try.prog k106 106 G106 :=
  Q.opens_struct (l := [(0, 3), (1, 3)]) (fun x : S106 => (x.f0, x.f1)) (fun a => ⟨a.1, a.2⟩) (fun _ => rfl) Try.underlying106 rfl (by kernel_rfl) (Q.opensF_cons (by kernel_rfl) (Q.opens_int Try.underlying3) (Q.opensF_one (by kernel_rfl) (Q.opens_int Try.underlying3)))

theorem own : ownKnob Try.prog.godebug = none := by kernel_rfl
theorem laidOut : laidOutB Try.prog = true := by kernel_rfl
set_option maxRecDepth 100000 in
theorem lifted (os : Os) (started : os.Started) (H : Type) (enc : TypeId × Value → H) :
    ReturnsInHanded {} Try.checked os 6 .any (Rows.fnExactAskForSpec.pre6 enc Try.prog Try.f6 Rows.fnExactAskForRow.domain false) (Rows.fnExactAskForSpec.post enc Try.prog Try.f6 false true false false) := by
  refine returnsInHanded_of_change_sized (C := Try.checked) own started (by kernel_rfl) Try.func6
    (ChangeSpec.witness6 (enc := enc) (C := Try.checked) false ⟨#[], #[.slice none 0 0, .agg #[.int .i64 0, .int .i64 0, .slice none 0 0]], []⟩ 8 (by kernel_rfl) (by kernel_rfl) (by kernel_rfl) (by kernel_rfl)) ?_
  intro W base args ds gs before hval0 hW hcnd hsz0 _
  have hval : ∀ (j : Nat) t v, Try.f6.params[j]? = some t → args[j]? = some v → Value.okWide Try.prog W .any base t v := hval0
  have hW' := hW
  obtain ⟨p, q, hA0, hV, rfl, hfz, hnd⟩ := hW
  have hA : DataW.TrodAll enc Try.prog W 0 (fun _ => true) true Try.f6.params.toList args.toList ds p := hA0
  rw [Try.params6] at hA hval
  obtain ⟨v0, vs0, d0, ds0, p0, q0, hargs, rfl, rfl, h0, r0⟩ := trodAll_cons hA
  obtain ⟨v1, vs1, d1, ds1, p1, q1, rfl, rfl, rfl, h1, r1⟩ := trodAll_cons r0
  obtain ⟨rfl, rfl, rfl⟩ := trodAll_nil r1
  obtain rfl : args = #[v0, v1] := by cases args; simp_all
  obtain ⟨rfl, rfl⟩ := trodVars_none hV
  obtain ⟨a0, len0, cap0, rfl⟩ := okWide_slice Try.underlying40 (hval 0 40 v0 rfl rfl)
  have k0t := h0
  have lt0 : ∀ x ∈ p0, x.block < W.heap.size := by obtain ⟨m, hm⟩ := k0t; exact DataW.trod_lt m _ _ _ hm
  obtain ⟨l0, rfl, hc0, hC0, g0⟩ := Q.opened_slice (G := (fun l => (l.length ≤ maxLen ∧ ∀ y ∈ l, G106 y))) (Q.opens_slice Try.underlying40 (by kernel_rfl) op106) h0
  obtain ⟨cs1, rfl, _⟩ := okWide_struct Try.underlying42 (hval 1 42 v1 rfl rfl)
  have k1t := h1
  have lt1 : ∀ x ∈ p1, x.block < W.heap.size := by obtain ⟨m, hm⟩ := k1t; exact DataW.trod_lt m _ _ _ hm
  obtain ⟨fuel1, hf1⟩ := h1
  have hop1 : Q.Opens Try.prog (Kd.pair (Kd.int .i64) (Kd.pair (Kd.int .i64) (Kd.slice 106 k106))) 42 _ := Q.opens_agg (l := [(0, 3), (1, 3), (2, 40)]) Try.underlying42 rfl (by kernel_rfl) (Q.opensF_cons (by kernel_rfl) (Q.opens_int Try.underlying3) (Q.opensF_cons (by kernel_rfl) (Q.opens_int Try.underlying3) (Q.opensF_one (by kernel_rfl) (Q.opens_slice Try.underlying40 (by kernel_rfl) op106))))
  obtain ⟨⟨y1_0, y1_1, y1_2⟩, hK1, ⟨g1_0, g1_1, g1_2⟩⟩ := hop1 H enc W fuel1 _ _ hf1
  obtain ⟨_, _, he1, rfl, ⟨_, _, rfl, rfl, ⟨A1_2, c1_2, rfl, hlc1_2, hC1_2⟩⟩⟩ := hK1
  obtain rfl : cs1 = #[.int .i64 y1_0, .int .i64 y1_1, .slice A1_2 y1_2.length c1_2] := by cases cs1; simpa [Value.cells] using he1
  clear hA0 hval0 hsz0
  obtain ⟨k_, hk_⟩ := Pure.FnExactAskFor l0 y1_0 y1_1 y1_2 g0 g1_0 g1_1 g1_2
  refine (laws_FnExactAskFor.calls k_ a0 cap0 l0 y1_0 y1_1 A1_2 c1_2 y1_2 true W hC0 hc0 hC1_2 hlc1_2 hk_).mono fun e W' ⟨he, bel⟩ => ?_
  subst he
  exact ⟨_, rfl, _, _, _, [], _, [], hW', trodAll_mk1 (shut_bool Try.underlying4 _), (trodAll_cons_mk (Below.trod laidOut (by kernel_rfl) (of_decide_eq_true (by kernel_rfl)) k0t bel lt0) (trodAll_cons_mk (Below.trod laidOut (by kernel_rfl) (of_decide_eq_true (by kernel_rfl)) k1t bel lt1) trodAll_mk0)), rfl, bel.frame _, fun h => by cases h⟩
theorem over : Rows.fnExactAskForRow.holds Try.pinned (OpenSpec.ofChange Rows.fnExactAskForSpec) :=
  OpenClaim.holds_of_wide 6 Try.f6 rfl rfl rfl rfl rfl rfl rfl ⟨rfl, rfl, rfl, rfl, rfl⟩ rfl rfl rfl rfl rfl (by kernel_rfl) Try.func6 (by kernel_rfl)
    (of_decide_eq_true (by kernel_rfl)) (by unfold Func.isWrapper; first | (rw [if_pos (by decide +kernel)]; kernel_rfl) | (rw [if_neg (by decide +kernel)]; exact ⟨rfl, rfl⟩))
    (fun os started H enc _ => lifted os started H enc)
end Go.Proofs.Ytnoklicihomfoaa.fnExactAskFor
namespace Go.Proofs.Ytnoklicihomfoaa
/-- The law FnExactAskFor, for every input. -/
theorem fnExactAskFor_holds : Rows.FnExactAskForSaid := fnExactAskFor.over
#print axioms fnExactAskFor_holds
end Go.Proofs.Ytnoklicihomfoaa
