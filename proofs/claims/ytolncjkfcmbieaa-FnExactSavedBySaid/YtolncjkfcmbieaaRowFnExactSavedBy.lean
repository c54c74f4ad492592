/- The law FnExactSavedBy: for every input it answers true, and the input reads as it did. -/
import Derived.Test.YtolncjkfcmbieaaRows
import Derived.Test.YtolncjkfcmbieaaF4
import Derived.Test.YtolncjkfcmbieaaB4
import Derived.Test.YtolncjkfcmbieaaQOpen
import Derived.WalkKit
import Derived.ProofKit
import Derived.OpenShut
import Derived.ShutString
import Derived.ChangeOld
import Derived.Below
import Derived.SizedLaws
import Derived.RowKit
namespace Go.Proofs.Ytolncjkfcmbieaa.fnExactSavedBy
open Go.ChangeShapes Go.WideShapes Go.ChangeAt Go.RowKit
open Go.ChangeMaps (open_string shut_string)
open Go.Proofs.Ytolncjkfcmbieaa.P Go.Proofs.YtolncjkfcmbieaaW.PrintWords Go.Proofs.Ytolncjkfcmbieaa.Pure
set_option linter.unusedVariables false
set_option linter.unusedSimpArgs false
theorem own : ownKnob Try.prog.godebug = none := by kernel_rfl
theorem laidOut : laidOutB Try.prog = true := by kernel_rfl
set_option maxRecDepth 100000 in
theorem lifted (os : Os) (started : os.Started) (H : Type) (enc : TypeId × Value → H) :
    ReturnsInHanded {} Try.checked os 14 .any (Rows.fnExactSavedBySpec.pre6 enc Try.prog Try.f14 Rows.fnExactSavedByRow.domain false) (Rows.fnExactSavedBySpec.post enc Try.prog Try.f14 false true false false) := by
  refine returnsInHanded_of_change_sized (C := Try.checked) own started (by kernel_rfl) Try.func14
    (ChangeSpec.witness6 (enc := enc) (C := Try.checked) false ⟨#[], #[.slice none 0 0, .int .i64 0, .slice none 0 0], []⟩ 8 (by kernel_rfl) (by kernel_rfl) (by kernel_rfl) (by kernel_rfl)) ?_
  intro W base args ds gs before hval0 hW hcnd hsz0 _
  have hval : ∀ (j : Nat) t v, Try.f14.params[j]? = some t → args[j]? = some v → Value.okWide Try.prog W .any base t v := hval0
  have hW' := hW
  obtain ⟨p, q, hA0, hV, rfl, hfz, hnd⟩ := hW
  have hA : DataW.TrodAll enc Try.prog W 0 (fun _ => true) true Try.f14.params.toList args.toList ds p := hA0
  rw [Try.params14] at hA hval
  obtain ⟨v0, vs0, d0, ds0, p0, q0, hargs, rfl, rfl, h0, r0⟩ := trodAll_cons hA
  obtain ⟨v1, vs1, d1, ds1, p1, q1, rfl, rfl, rfl, h1, r1⟩ := trodAll_cons r0
  obtain ⟨v2, vs2, d2, ds2, p2, q2, rfl, rfl, rfl, h2, r2⟩ := trodAll_cons r1
  obtain ⟨rfl, rfl, rfl⟩ := trodAll_nil r2
  obtain rfl : args = #[v0, v1, v2] := by cases args; simp_all
  obtain ⟨rfl, rfl⟩ := trodVars_none hV
  obtain ⟨a0, len0, cap0, rfl⟩ := okWide_slice Try.underlying24 (hval 0 24 v0 rfl rfl)
  have k0t := h0
  have lt0 : ∀ x ∈ p0, x.block < W.heap.size := by obtain ⟨m, hm⟩ := k0t; exact DataW.trod_lt m _ _ _ hm
  obtain ⟨l0, rfl, hc0, hC0, g0⟩ := Q.opened_slice (G := (fun l => (l.length ≤ maxLen ∧ ∀ y ∈ l, (Lit.int .i64 y).wf = true))) (Q.opens_slice Try.underlying24 (by kernel_rfl) (Q.opens_int Try.underlying3)) h0
  obtain ⟨a1, rfl, rfl, rfl, g1⟩ := open_int Try.underlying3 (hval 1 3 v1 rfl rfl) h1
  obtain ⟨a2, len2, cap2, rfl⟩ := okWide_slice Try.underlying24 (hval 2 24 v2 rfl rfl)
  have k2t := h2
  have lt2 : ∀ x ∈ p2, x.block < W.heap.size := by obtain ⟨m, hm⟩ := k2t; exact DataW.trod_lt m _ _ _ hm
  obtain ⟨l2, rfl, hc2, hC2, g2⟩ := Q.opened_slice (G := (fun l => (l.length ≤ maxLen ∧ ∀ y ∈ l, (Lit.int .i64 y).wf = true))) (Q.opens_slice Try.underlying24 (by kernel_rfl) (Q.opens_int Try.underlying3)) h2
  clear hA0 hval0 hsz0
  obtain ⟨k_, hk_⟩ := Pure.FnExactSavedBy l0 a1 l2 g0 g1 g2
  refine (laws_FnExactSavedBy.calls k_ a0 cap0 l0 a1 a2 cap2 l2 true W hC0 hc0 hC2 hc2 hk_).mono fun e W' ⟨he, bel⟩ => ?_
  subst he
  exact ⟨_, rfl, _, _, _, [], _, [], hW', trodAll_mk1 (shut_bool Try.underlying4 _), (trodAll_cons_mk (Below.trod laidOut (by kernel_rfl) (of_decide_eq_true (by kernel_rfl)) k0t bel lt0) (trodAll_cons_mk (shut_int Try.underlying3 g1) (trodAll_cons_mk (Below.trod laidOut (by kernel_rfl) (of_decide_eq_true (by kernel_rfl)) k2t bel lt2) trodAll_mk0))), rfl, bel.frame _, fun h => by cases h⟩
theorem cl1 : Rows.fnExactSavedByRow.inPlace = Try.prog.inPlace 14 := by kernel_rfl
theorem cl2 : Rows.fnExactSavedByRow.unfollowed = Try.prog.unfollowed 14 := by kernel_rfl
theorem cl3 : Rows.fnExactSavedByRow.recurses = Try.prog.recurses 14 := by kernel_rfl
theorem cl4 : Rows.fnExactSavedByRow.named = Try.prog.varsNamed 14 := by kernel_rfl
theorem closed : joinedFacts Try.prog 14 Try.f14 Rows.fnExactSavedBySpec Rows.fnExactSavedByRow = true := by
  unfold joinedFacts
  rw [← cl1, ← cl2, ← cl3, ← cl4]
  kernel_rfl
theorem over : Rows.fnExactSavedByRow.holds Try.pinned (OpenSpec.ofChange Rows.fnExactSavedBySpec) :=
  OpenClaim.holds_of_wide 14 Try.f14 rfl rfl rfl rfl rfl rfl rfl ⟨rfl, rfl, rfl, rfl, rfl⟩ rfl rfl rfl rfl rfl (by kernel_rfl) Try.func14 closed
    (of_decide_eq_true (by kernel_rfl)) (by unfold Func.isWrapper; first | (rw [if_pos (by decide +kernel)]; kernel_rfl) | (rw [if_neg (by decide +kernel)]; exact ⟨rfl, rfl⟩))
    (fun os started H enc _ => lifted os started H enc)
end Go.Proofs.Ytolncjkfcmbieaa.fnExactSavedBy
namespace Go.Proofs.Ytolncjkfcmbieaa
/-- The law FnExactSavedBy, for every input. -/
theorem fnExactSavedBy_holds : Rows.FnExactSavedBySaid := fnExactSavedBy.over
#print axioms fnExactSavedBy_holds
end Go.Proofs.Ytolncjkfcmbieaa
