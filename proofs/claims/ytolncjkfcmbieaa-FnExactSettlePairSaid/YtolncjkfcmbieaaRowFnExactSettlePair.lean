/- The law FnExactSettlePair: for every input it answers true, and the input reads as it did. -/
import Derived.Test.YtolncjkfcmbieaaRows
import Derived.Test.YtolncjkfcmbieaaF45
import Derived.Test.YtolncjkfcmbieaaB45
import Derived.Test.YtolncjkfcmbieaaQOpen
import Derived.WalkKit
import Derived.ProofKit
import Derived.OpenShut
import Derived.ShutString
import Derived.ChangeOld
import Derived.Below
import Derived.SizedLaws
import Derived.RowKit
namespace Go.Proofs.Ytolncjkfcmbieaa.fnExactSettlePair
open Go.ChangeShapes Go.WideShapes Go.ChangeAt Go.RowKit
open Go.ChangeMaps (open_string shut_string)
open Go.Proofs.Ytolncjkfcmbieaa.P Go.Proofs.YtolncjkfcmbieaaW.PrintWords Go.Proofs.Ytolncjkfcmbieaa.Pure
set_option linter.unusedVariables false
set_option linter.unusedSimpArgs false
theorem op188 : Q.Opens Try.prog k188 188 G188 :=
  Q.opens_struct (l := [(0, 3), (1, 4)]) (fun x : S188 => (x.f0, x.f1)) (fun a => ⟨a.1, a.2⟩) (fun _ => rfl) Try.underlying188 rfl (by kernel_rfl) (Q.opensF_cons (by kernel_rfl) (Q.opens_int Try.underlying3) (Q.opensF_one (by kernel_rfl) (Q.opens_bool Try.underlying4)))

theorem own : ownKnob Try.prog.godebug = none := by kernel_rfl
theorem laidOut : laidOutB Try.prog = true := by kernel_rfl
set_option maxRecDepth 100000 in
theorem lifted (os : Os) (started : os.Started) (H : Type) (enc : TypeId × Value → H) :
    ReturnsInHanded {} Try.checked os 7 .any (Rows.fnExactSettlePairSpec.pre6 enc Try.prog Try.f7 Rows.fnExactSettlePairRow.domain false) (Rows.fnExactSettlePairSpec.post enc Try.prog Try.f7 false true false false) := by
  refine returnsInHanded_of_change_sized (C := Try.checked) own started (by kernel_rfl) Try.func7
    (ChangeSpec.witness6 (enc := enc) (C := Try.checked) false ⟨#[], #[.agg #[.slice none 0 0, .slice none 0 0, .slice none 0 0]], []⟩ 8 (by kernel_rfl) (by kernel_rfl) (by kernel_rfl) (by kernel_rfl)) ?_
  intro W base args ds gs before hval0 hW hcnd hsz0 _
  have hval : ∀ (j : Nat) t v, Try.f7.params[j]? = some t → args[j]? = some v → Value.okWide Try.prog W .any base t v := hval0
  have hW' := hW
  obtain ⟨p, q, hA0, hV, rfl, hfz, hnd⟩ := hW
  have hA : DataW.TrodAll enc Try.prog W 0 (fun _ => true) true Try.f7.params.toList args.toList ds p := hA0
  rw [Try.params7] at hA hval
  obtain ⟨v0, vs0, d0, ds0, p0, q0, hargs, rfl, rfl, h0, r0⟩ := trodAll_cons hA
  obtain ⟨rfl, rfl, rfl⟩ := trodAll_nil r0
  obtain rfl : args = #[v0] := by cases args; simp_all
  obtain ⟨rfl, rfl⟩ := trodVars_none hV
  obtain ⟨cs0, rfl, _⟩ := okWide_struct Try.underlying41 (hval 0 41 v0 rfl rfl)
  have k0t := h0
  have lt0 : ∀ x ∈ p0, x.block < W.heap.size := by obtain ⟨m, hm⟩ := k0t; exact DataW.trod_lt m _ _ _ hm
  obtain ⟨fuel0, hf0⟩ := h0
  have hop0 : Q.Opens Try.prog (Kd.pair (Kd.slice 3 (Kd.int .i64)) (Kd.pair (Kd.slice 3 (Kd.int .i64)) (Kd.slice 188 k188))) 41 _ := Q.opens_agg (l := [(0, 24), (1, 24), (2, 39)]) Try.underlying41 rfl (by kernel_rfl) (Q.opensF_cons (by kernel_rfl) (Q.opens_slice Try.underlying24 (by kernel_rfl) (Q.opens_int Try.underlying3)) (Q.opensF_cons (by kernel_rfl) (Q.opens_slice Try.underlying24 (by kernel_rfl) (Q.opens_int Try.underlying3)) (Q.opensF_one (by kernel_rfl) (Q.opens_slice Try.underlying39 (by kernel_rfl) op188))))
  obtain ⟨⟨y0_0, y0_1, y0_2⟩, hK0, ⟨g0_0, g0_1, g0_2⟩⟩ := hop0 H enc W fuel0 _ _ hf0
  obtain ⟨_, _, he0, ⟨A0_0, c0_0, rfl, hlc0_0, hC0_0⟩, ⟨_, _, rfl, ⟨A0_1, c0_1, rfl, hlc0_1, hC0_1⟩, ⟨A0_2, c0_2, rfl, hlc0_2, hC0_2⟩⟩⟩ := hK0
  obtain rfl : cs0 = #[.slice A0_0 y0_0.length c0_0, .slice A0_1 y0_1.length c0_1, .slice A0_2 y0_2.length c0_2] := by cases cs0; simpa [Value.cells] using he0
  clear hA0 hval0 hsz0
  obtain ⟨k_, hk_⟩ := Pure.FnExactSettlePair y0_0 y0_1 y0_2 g0_0 g0_1 g0_2
  refine (laws_FnExactSettlePair.calls k_ A0_0 c0_0 y0_0 A0_1 c0_1 y0_1 A0_2 c0_2 y0_2 true W hC0_0 hlc0_0 hC0_1 hlc0_1 hC0_2 hlc0_2 hk_).mono fun e W' ⟨he, bel⟩ => ?_
  subst he
  exact ⟨_, rfl, _, _, _, [], _, [], hW', trodAll_mk1 (shut_bool Try.underlying4 _), (trodAll_cons_mk (Below.trod laidOut (by kernel_rfl) (of_decide_eq_true (by kernel_rfl)) k0t bel lt0) trodAll_mk0), rfl, bel.frame _, fun h => by cases h⟩
theorem over : Rows.fnExactSettlePairRow.holds Try.pinned (OpenSpec.ofChange Rows.fnExactSettlePairSpec) :=
  OpenClaim.holds_of_wide 7 Try.f7 rfl rfl rfl rfl rfl rfl rfl ⟨rfl, rfl, rfl, rfl, rfl⟩ rfl rfl rfl rfl rfl (by kernel_rfl) Try.func7 (by kernel_rfl)
    (of_decide_eq_true (by kernel_rfl)) (by unfold Func.isWrapper; first | (rw [if_pos (by decide +kernel)]; kernel_rfl) | (rw [if_neg (by decide +kernel)]; exact ⟨rfl, rfl⟩))
    (fun os started H enc _ => lifted os started H enc)
end Go.Proofs.Ytolncjkfcmbieaa.fnExactSettlePair
namespace Go.Proofs.Ytolncjkfcmbieaa
/-- The law FnExactSettlePair, for every input. -/
theorem fnExactSettlePair_holds : Rows.FnExactSettlePairSaid := fnExactSettlePair.over
#print axioms fnExactSettlePair_holds
end Go.Proofs.Ytolncjkfcmbieaa
