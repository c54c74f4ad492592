/- The law FnExactSendOne: for every input it answers true, and the input reads as it did. -/
import Derived.Test.YtpohlcjkabojcaaRows
import Derived.Test.YtpohlcjkabojcaaF18
import Derived.Test.YtpohlcjkabojcaaB18
import Derived.Test.YtpohlcjkabojcaaQOpen
import Derived.WalkKit
import Derived.ProofKit
import Derived.OpenShut
import Derived.ShutString
import Derived.ChangeOld
import Derived.Below
import Derived.SizedLaws
import Derived.RowKit
namespace Go.Proofs.Ytpohlcjkabojcaa.fnExactSendOne
open Go.ChangeShapes Go.WideShapes Go.ChangeAt Go.RowKit
open Go.ChangeMaps (open_string shut_string)
open Go.Proofs.Ytpohlcjkabojcaa.P Go.Proofs.YtpohlcjkabojcaaW.PrintWords Go.Proofs.Ytpohlcjkabojcaa.Pure
set_option linter.unusedVariables false
set_option linter.unusedSimpArgs false
theorem op105 : Q.Opens Try.prog k105 105 G105 :=
  Q.opens_struct (l := [(0, 3), (1, 3), (2, 3)]) (fun x : S105 => (x.f0, x.f1, x.f2)) (fun a => ⟨a.1, a.2.1, a.2.2⟩) (fun _ => rfl) Try.underlying105 rfl (by kernel_rfl) (Q.opensF_cons (by kernel_rfl) (Q.opens_int Try.underlying3) (Q.opensF_cons (by kernel_rfl) (Q.opens_int Try.underlying3) (Q.opensF_one (by kernel_rfl) (Q.opens_int Try.underlying3))))

theorem op129 : Q.Opens Try.prog k129 129 G129 :=
  Q.opens_struct (l := [(0, 3), (1, 3), (2, 23)]) (fun x : S129 => (x.f0, x.f1, x.f2)) (fun a => ⟨a.1, a.2.1, a.2.2⟩) (fun _ => rfl) Try.underlying129 rfl (by kernel_rfl) (Q.opensF_cons (by kernel_rfl) (Q.opens_int Try.underlying3) (Q.opensF_cons (by kernel_rfl) (Q.opens_int Try.underlying3) (Q.opensF_one (by kernel_rfl) (Q.opens_slice Try.underlying23 (by kernel_rfl) (Q.opens_int Try.underlying3)))))

theorem own : ownKnob Try.prog.godebug = none := by kernel_rfl
theorem laidOut : laidOutB Try.prog = true := by kernel_rfl
set_option maxRecDepth 100000 in
theorem lifted (os : Os) (started : os.Started) (H : Type) (enc : TypeId × Value → H) :
    ReturnsInHanded {} Try.checked os 5 .any (Rows.fnExactSendOneSpec.pre6 enc Try.prog Try.f5 Rows.fnExactSendOneRow.domain false) (Rows.fnExactSendOneSpec.post enc Try.prog Try.f5 false true false false) := by
  refine returnsInHanded_of_change_sized (C := Try.checked) own started (by kernel_rfl) Try.func5
    (ChangeSpec.witness6 (enc := enc) (C := Try.checked) false ⟨#[], #[.agg #[.int .i64 0, .slice none 0 0, .slice none 0 0, .slice none 0 0], .int .i64 0, .int .i64 0], []⟩ 8 (by kernel_rfl) (by kernel_rfl) (by kernel_rfl) (by kernel_rfl)) ?_
  intro W base args ds gs before hval0 hW hcnd hsz0 _
  have hval : ∀ (j : Nat) t v, Try.f5.params[j]? = some t → args[j]? = some v → Value.okWide Try.prog W .any base t v := hval0
  have hW' := hW
  obtain ⟨p, q, hA0, hV, rfl, hfz, hnd⟩ := hW
  have hA : DataW.TrodAll enc Try.prog W 0 (fun _ => true) true Try.f5.params.toList args.toList ds p := hA0
  rw [Try.params5] at hA hval
  obtain ⟨v0, vs0, d0, ds0, p0, q0, hargs, rfl, rfl, h0, r0⟩ := trodAll_cons hA
  obtain ⟨v1, vs1, d1, ds1, p1, q1, rfl, rfl, rfl, h1, r1⟩ := trodAll_cons r0
  obtain ⟨v2, vs2, d2, ds2, p2, q2, rfl, rfl, rfl, h2, r2⟩ := trodAll_cons r1
  obtain ⟨rfl, rfl, rfl⟩ := trodAll_nil r2
  obtain rfl : args = #[v0, v1, v2] := by cases args; simp_all
  obtain ⟨rfl, rfl⟩ := trodVars_none hV
  obtain ⟨cs0, rfl, _⟩ := okWide_struct Try.underlying26 (hval 0 26 v0 rfl rfl)
  have k0t := h0
  have lt0 : ∀ x ∈ p0, x.block < W.heap.size := by obtain ⟨m, hm⟩ := k0t; exact DataW.trod_lt m _ _ _ hm
  obtain ⟨fuel0, hf0⟩ := h0
  have hop0 : Q.Opens Try.prog (Kd.pair (Kd.int .i64) (Kd.pair (Kd.slice 105 k105) (Kd.pair (Kd.slice 3 (Kd.int .i64)) (Kd.slice 129 k129)))) 26 _ := Q.opens_agg (l := [(0, 3), (1, 22), (2, 23), (3, 24)]) Try.underlying26 rfl (by kernel_rfl) (Q.opensF_cons (by kernel_rfl) (Q.opens_int Try.underlying3) (Q.opensF_cons (by kernel_rfl) (Q.opens_slice Try.underlying22 (by kernel_rfl) op105) (Q.opensF_cons (by kernel_rfl) (Q.opens_slice Try.underlying23 (by kernel_rfl) (Q.opens_int Try.underlying3)) (Q.opensF_one (by kernel_rfl) (Q.opens_slice Try.underlying24 (by kernel_rfl) op129)))))
  obtain ⟨⟨y0_0, y0_1, y0_2, y0_3⟩, hK0, ⟨g0_0, g0_1, g0_2, g0_3⟩⟩ := hop0 H enc W fuel0 _ _ hf0
  obtain ⟨_, _, he0, rfl, ⟨_, _, rfl, ⟨A0_1, c0_1, rfl, hlc0_1, hC0_1⟩, ⟨_, _, rfl, ⟨A0_2, c0_2, rfl, hlc0_2, hC0_2⟩, ⟨A0_3, c0_3, rfl, hlc0_3, hC0_3⟩⟩⟩⟩ := hK0
  obtain rfl : cs0 = #[.int .i64 y0_0, .slice A0_1 y0_1.length c0_1, .slice A0_2 y0_2.length c0_2, .slice A0_3 y0_3.length c0_3] := by cases cs0; simpa [Value.cells] using he0
  obtain ⟨a1, rfl, rfl, rfl, g1⟩ := open_int Try.underlying3 (hval 1 3 v1 rfl rfl) h1
  obtain ⟨a2, rfl, rfl, rfl, g2⟩ := open_int Try.underlying3 (hval 2 3 v2 rfl rfl) h2
  clear hA0 hval0 hsz0
  obtain ⟨k_, hk_⟩ := Pure.FnExactSendOne y0_0 y0_1 y0_2 y0_3 a1 a2 g0_0 g0_1 g0_2 g0_3 g1 g2
  refine (laws_FnExactSendOne.calls k_ y0_0 A0_1 c0_1 y0_1 A0_2 c0_2 y0_2 A0_3 c0_3 y0_3 a1 a2 true W hC0_1 hlc0_1 hC0_2 hlc0_2 hC0_3 hlc0_3 hk_).mono fun e W' ⟨he, bel⟩ => ?_
  subst he
  exact ⟨_, rfl, _, _, _, [], _, [], hW', trodAll_mk1 (shut_bool Try.underlying4 _), (trodAll_cons_mk (Below.trod laidOut (by kernel_rfl) (of_decide_eq_true (by kernel_rfl)) k0t bel lt0) (trodAll_cons_mk (shut_int Try.underlying3 g1) (trodAll_cons_mk (shut_int Try.underlying3 g2) trodAll_mk0))), rfl, bel.frame _, fun h => by cases h⟩
theorem cl1 : Rows.fnExactSendOneRow.inPlace = Try.prog.inPlace 5 := by kernel_rfl
theorem cl2 : Rows.fnExactSendOneRow.unfollowed = Try.prog.unfollowed 5 := by kernel_rfl
theorem cl3 : Rows.fnExactSendOneRow.recurses = Try.prog.recurses 5 := by kernel_rfl
theorem cl4 : Rows.fnExactSendOneRow.named = Try.prog.varsNamed 5 := by kernel_rfl
theorem closed : joinedFacts Try.prog 5 Try.f5 Rows.fnExactSendOneSpec Rows.fnExactSendOneRow = true := by
  unfold joinedFacts
  rw [← cl1, ← cl2, ← cl3, ← cl4]
  kernel_rfl
theorem over : Rows.fnExactSendOneRow.holds Try.pinned (OpenSpec.ofChange Rows.fnExactSendOneSpec) :=
  OpenClaim.holds_of_wide 5 Try.f5 rfl rfl rfl rfl rfl rfl rfl ⟨rfl, rfl, rfl, rfl, rfl⟩ rfl rfl rfl rfl rfl (by kernel_rfl) Try.func5 closed
    (of_decide_eq_true (by kernel_rfl)) (by unfold Func.isWrapper; first | (rw [if_pos (by decide +kernel)]; kernel_rfl) | (rw [if_neg (by decide +kernel)]; exact ⟨rfl, rfl⟩))
    (fun os started H enc _ => lifted os started H enc)
end Go.Proofs.Ytpohlcjkabojcaa.fnExactSendOne
namespace Go.Proofs.Ytpohlcjkabojcaa
/-- The law FnExactSendOne, for every input. -/
theorem fnExactSendOne_holds : Rows.FnExactSendOneSaid := fnExactSendOne.over
#print axioms fnExactSendOne_holds
end Go.Proofs.Ytpohlcjkabojcaa
