import Derived.Test.YtnoklicihomfoaaF0
import Derived.Test.YtnoklicihomfoaaF1
import Derived.Test.YtnoklicihomfoaaF2
import Derived.Test.YtnoklicihomfoaaF11
import Derived.Test.YtnoklicihomfoaaF35
import Derived.Test.YtnoklicihomfoaaF38
namespace Go.Proofs.Ytnoklicihomfoaa.P
open Go.RowKit Go.Proofs.YtnoklicihomfoaaW.PrintWords Go.Proofs.YtnoklicihomfoaaW.PrintLast Go.Proofs.YtnoklicihomfoaaW.PrintMore
attribute [local go_sem] max2_int min2_int max_two min_two max_three min_three max_four min_four   -- for this text's walks alone
set_option linter.unusedVariables false
set_option linter.unusedSimpArgs false

mutual
def laws_FnExactNewCampus.j0 : Nat → Int → List (S86) → Bool → List (S84) → Bool → Bool → Int → List (S84) → List Int → List (S118) → Int → List (S84) → List Int → List (S118) → Option (Bool)
 | 0, _, _, _, _, _, _, _, _, _, _, _, _, _, _ => none
 | k + 1, x0, x1, x7, x8, x10, x44, x831000, x831001, x831002, x831003, x846000, x846001, x846002, x846003 => if x44 = true then (some false) else ((laws_toEdgeS.f k x1).bind fun t847 => ((laws_eqEdgeS.f k x8 t847).bind fun t850 => (if t850 = true then ((laws_markEdgeS.f k x8 1).bind fun bt851 => (if bt851.1 < 0 then (laws_FnExactNewCampus.j1 k x0 x1 x7 true x831000 x831001 x831002 x831003 x846000 x846001 x846002 x846003) else ((laws_eqCampus.f k x846000 x846001 x846002 x846003 x831000 x831001 x831002 x831003).bind fun t853 => (if t853 = true then (laws_FnExactNewCampus.j1 k x0 x1 x7 (x10 != x7) x831000 x831001 x831002 x831003 x846000 x846001 x846002 x846003) else (laws_FnExactNewCampus.j1 k x0 x1 x7 true x831000 x831001 x831002 x831003 x846000 x846001 x846002 x846003))))) else (some false))))
def laws_FnExactNewCampus.j1 : Nat → Int → List (S86) → Bool → Bool → Int → List (S84) → List Int → List (S118) → Int → List (S84) → List Int → List (S118) → Option (Bool)
 | 0, _, _, _, _, _, _, _, _, _, _, _, _ => none
 | k + 1, x0, x1, x7, x65, x831000, x831001, x831002, x831003, x846000, x846001, x846002, x846003 => if x65 = true then (some false) else ((laws_markCampus.f k x846000 x846001 x846002 x846003 1).bind fun bt854 => ((laws_heldCampus.f k x846000 bt854.2.1 bt854.2.2 x846003 1).bind fun t857 => (if t857 < 0 then (some false) else (if t857 = bt854.1 then ((laws_toEdgeS.f k x1).bind fun t858 => ((impl_NewCampus.f k x0 t858).bind fun bt861 => ((laws_eqCampus.f k bt861.1 bt861.2.1 bt861.2.2.1 bt861.2.2.2.1 x831000 x831001 x831002 x831003).bind fun t873 => (if t873 = true then (laws_FnExactNewCampus.j2 k bt854.1 (bt861.2.2.2.2 != x7) x846000 bt854.2.1 bt854.2.2 x846003) else (laws_FnExactNewCampus.j2 k bt854.1 true x846000 bt854.2.1 bt854.2.2 x846003))))) else (some false)))))
def laws_FnExactNewCampus.j2 : Nat → Int → Bool → Int → List (S84) → List Int → List (S118) → Option (Bool)
 | 0, _, _, _, _, _, _ => none
 | k + 1, x12, x92, x846000, x846001, x846002, x846003 => if x92 = true then (some false) else ((laws_heldCampus.f k x846000 x846001 x846002 x846003 1).bind fun t874 => (if t874 < 0 then (some false) else (if t874 = x12 then (some true) else (some false))))
end
def laws_FnExactNewCampus.f (k : Nat) (a0 : Int) (l1 : List (S86)) : Option (Bool) := (laws_szEdgeS.f l1 1048576).bind fun t815 => (if t815 < 0 then (some true) else ((laws_toEdgeS.f k l1).bind fun t816 => ((spec_NewCampus.f k a0 t816).bind fun bt819 => ((laws_toEdgeS.f k l1).bind fun t831 => ((impl_NewCampus.f k a0 t831).bind fun bt834 => ((laws_eqCampus.f k bt834.1 bt834.2.1 bt834.2.2.1 bt834.2.2.2.1 bt819.1 bt819.2.1 bt819.2.2.1 bt819.2.2.2.1).bind fun t846 => (if t846 = true then (laws_FnExactNewCampus.j0 k a0 l1 bt819.2.2.2.2 t831 bt834.2.2.2.2 (bt834.2.2.2.2 != bt819.2.2.2.2) bt819.1 bt819.2.1 bt819.2.2.1 bt819.2.2.2.1 bt834.1 bt834.2.1 bt834.2.2.1 bt834.2.2.2.1) else (laws_FnExactNewCampus.j0 k a0 l1 bt819.2.2.2.2 t831 bt834.2.2.2.2 true bt819.1 bt819.2.1 bt819.2.2.1 bt819.2.2.2.1 bt834.1 bt834.2.1 bt834.2.2.1 bt834.2.2.2.1))))))))
theorem laws_FnExactNewCampus.mono_l : ∀ k, (∀ y0 y1 y2 y3 y4 y5 y6 y7 y8 y9 y10 y11 y12 y13, LeO (laws_FnExactNewCampus.j0 k y0 y1 y2 y3 y4 y5 y6 y7 y8 y9 y10 y11 y12 y13) (laws_FnExactNewCampus.j0 (k + 1) y0 y1 y2 y3 y4 y5 y6 y7 y8 y9 y10 y11 y12 y13)) ∧ (∀ y0 y1 y2 y3 y4 y5 y6 y7 y8 y9 y10 y11, LeO (laws_FnExactNewCampus.j1 k y0 y1 y2 y3 y4 y5 y6 y7 y8 y9 y10 y11) (laws_FnExactNewCampus.j1 (k + 1) y0 y1 y2 y3 y4 y5 y6 y7 y8 y9 y10 y11)) ∧ (∀ y0 y1 y2 y3 y4 y5, LeO (laws_FnExactNewCampus.j2 k y0 y1 y2 y3 y4 y5) (laws_FnExactNewCampus.j2 (k + 1) y0 y1 y2 y3 y4 y5))
 | 0 => ⟨fun _ _ _ _ _ _ _ _ _ _ _ _ _ _ r h => by simp [laws_FnExactNewCampus.j0] at h, fun _ _ _ _ _ _ _ _ _ _ _ _ r h => by simp [laws_FnExactNewCampus.j1] at h, fun _ _ _ _ _ _ r h => by simp [laws_FnExactNewCampus.j2] at h⟩
 | k + 1 => by
  obtain ⟨ih0, ih1, ih2⟩ := laws_FnExactNewCampus.mono_l k
  refine ⟨?_, ?_, ?_⟩
  ·intro y0 y1 y2 y3 y4 y5 y6 y7 y8 y9 y10 y11 y12 y13
   unfold laws_FnExactNewCampus.j0
   repeat' first
   | (with_reducible exact ih0 _ _ _ _ _ _ _ _ _ _ _ _ _ _)
   | (with_reducible exact ih1 _ _ _ _ _ _ _ _ _ _ _ _)
   | (with_reducible exact ih2 _ _ _ _ _ _)
   | (with_reducible exact impl_NewCampus.mono _ _ _)
   | (with_reducible exact laws_eqCampus.mono _ _ _ _ _ _ _ _ _)
   | (with_reducible exact laws_eqEdgeS.mono _ _ _)
   | (with_reducible exact laws_heldCampus.mono _ _ _ _ _ _)
   | (with_reducible exact laws_markCampus.mono _ _ _ _ _ _)
   | (with_reducible exact laws_markEdgeS.mono _ _ _)
   | (with_reducible exact laws_toEdgeS.mono _ _)
   | (with_reducible exact spec_NewCampus.mono _ _ _)
   | (with_reducible exact LeO.refl _)
   | (with_reducible exact LeO.none _)
   | (with_reducible refine LeO.ite ?_ ?_)
   | (with_reducible refine LeO.bind ?_ (fun _ => ?_))
   | exact ih0 _ _ _ _ _ _ _ _ _ _ _ _ _ _
   | exact ih1 _ _ _ _ _ _ _ _ _ _ _ _
   | exact ih2 _ _ _ _ _ _
   | exact impl_NewCampus.mono _ _ _
   | exact laws_eqCampus.mono _ _ _ _ _ _ _ _ _
   | exact laws_eqEdgeS.mono _ _ _
   | exact laws_heldCampus.mono _ _ _ _ _ _
   | exact laws_markCampus.mono _ _ _ _ _ _
   | exact laws_markEdgeS.mono _ _ _
   | exact laws_toEdgeS.mono _ _
   | exact spec_NewCampus.mono _ _ _
   | exact LeO.none _
   | refine LeO.ite ?_ ?_
   | refine LeO.bind ?_ (fun _ => ?_)
  ·intro y0 y1 y2 y3 y4 y5 y6 y7 y8 y9 y10 y11
   unfold laws_FnExactNewCampus.j1
   repeat' first
   | (with_reducible exact ih0 _ _ _ _ _ _ _ _ _ _ _ _ _ _)
   | (with_reducible exact ih1 _ _ _ _ _ _ _ _ _ _ _ _)
   | (with_reducible exact ih2 _ _ _ _ _ _)
   | (with_reducible exact impl_NewCampus.mono _ _ _)
   | (with_reducible exact laws_eqCampus.mono _ _ _ _ _ _ _ _ _)
   | (with_reducible exact laws_eqEdgeS.mono _ _ _)
   | (with_reducible exact laws_heldCampus.mono _ _ _ _ _ _)
   | (with_reducible exact laws_markCampus.mono _ _ _ _ _ _)
   | (with_reducible exact laws_markEdgeS.mono _ _ _)
   | (with_reducible exact laws_toEdgeS.mono _ _)
   | (with_reducible exact spec_NewCampus.mono _ _ _)
   | (with_reducible exact LeO.refl _)
   | (with_reducible exact LeO.none _)
   | (with_reducible refine LeO.ite ?_ ?_)
   | (with_reducible refine LeO.bind ?_ (fun _ => ?_))
   | exact ih0 _ _ _ _ _ _ _ _ _ _ _ _ _ _
   | exact ih1 _ _ _ _ _ _ _ _ _ _ _ _
   | exact ih2 _ _ _ _ _ _
   | exact impl_NewCampus.mono _ _ _
   | exact laws_eqCampus.mono _ _ _ _ _ _ _ _ _
   | exact laws_eqEdgeS.mono _ _ _
   | exact laws_heldCampus.mono _ _ _ _ _ _
   | exact laws_markCampus.mono _ _ _ _ _ _
   | exact laws_markEdgeS.mono _ _ _
   | exact laws_toEdgeS.mono _ _
   | exact spec_NewCampus.mono _ _ _
   | exact LeO.none _
   | refine LeO.ite ?_ ?_
   | refine LeO.bind ?_ (fun _ => ?_)
  ·intro y0 y1 y2 y3 y4 y5
   unfold laws_FnExactNewCampus.j2
   repeat' first
   | (with_reducible exact ih0 _ _ _ _ _ _ _ _ _ _ _ _ _ _)
   | (with_reducible exact ih1 _ _ _ _ _ _ _ _ _ _ _ _)
   | (with_reducible exact ih2 _ _ _ _ _ _)
   | (with_reducible exact impl_NewCampus.mono _ _ _)
   | (with_reducible exact laws_eqCampus.mono _ _ _ _ _ _ _ _ _)
   | (with_reducible exact laws_eqEdgeS.mono _ _ _)
   | (with_reducible exact laws_heldCampus.mono _ _ _ _ _ _)
   | (with_reducible exact laws_markCampus.mono _ _ _ _ _ _)
   | (with_reducible exact laws_markEdgeS.mono _ _ _)
   | (with_reducible exact laws_toEdgeS.mono _ _)
   | (with_reducible exact spec_NewCampus.mono _ _ _)
   | (with_reducible exact LeO.refl _)
   | (with_reducible exact LeO.none _)
   | (with_reducible refine LeO.ite ?_ ?_)
   | (with_reducible refine LeO.bind ?_ (fun _ => ?_))
   | exact ih0 _ _ _ _ _ _ _ _ _ _ _ _ _ _
   | exact ih1 _ _ _ _ _ _ _ _ _ _ _ _
   | exact ih2 _ _ _ _ _ _
   | exact impl_NewCampus.mono _ _ _
   | exact laws_eqCampus.mono _ _ _ _ _ _ _ _ _
   | exact laws_eqEdgeS.mono _ _ _
   | exact laws_heldCampus.mono _ _ _ _ _ _
   | exact laws_markCampus.mono _ _ _ _ _ _
   | exact laws_markEdgeS.mono _ _ _
   | exact laws_toEdgeS.mono _ _
   | exact spec_NewCampus.mono _ _ _
   | exact LeO.none _
   | refine LeO.ite ?_ ?_
   | refine LeO.bind ?_ (fun _ => ?_)
theorem laws_FnExactNewCampus.mono : ∀ a0 a1 k, LeO (laws_FnExactNewCampus.f k a0 a1) (laws_FnExactNewCampus.f (k + 1) a0 a1) := by
 intro a0 a1 k
 obtain ⟨ih0, ih1, ih2⟩ := laws_FnExactNewCampus.mono_l k
 unfold laws_FnExactNewCampus.f
 repeat' first
   | (with_reducible exact ih0 _ _ _ _ _ _ _ _ _ _ _ _ _ _)
   | (with_reducible exact ih1 _ _ _ _ _ _ _ _ _ _ _ _)
   | (with_reducible exact ih2 _ _ _ _ _ _)
   | (with_reducible exact impl_NewCampus.mono _ _ _)
   | (with_reducible exact laws_eqCampus.mono _ _ _ _ _ _ _ _ _)
   | (with_reducible exact laws_eqEdgeS.mono _ _ _)
   | (with_reducible exact laws_heldCampus.mono _ _ _ _ _ _)
   | (with_reducible exact laws_markCampus.mono _ _ _ _ _ _)
   | (with_reducible exact laws_markEdgeS.mono _ _ _)
   | (with_reducible exact laws_toEdgeS.mono _ _)
   | (with_reducible exact spec_NewCampus.mono _ _ _)
   | (with_reducible exact LeO.refl _)
   | (with_reducible exact LeO.none _)
   | (with_reducible refine LeO.ite ?_ ?_)
   | (with_reducible refine LeO.bind ?_ (fun _ => ?_))
   | exact ih0 _ _ _ _ _ _ _ _ _ _ _ _ _ _
   | exact ih1 _ _ _ _ _ _ _ _ _ _ _ _
   | exact ih2 _ _ _ _ _ _
   | exact impl_NewCampus.mono _ _ _
   | exact laws_eqCampus.mono _ _ _ _ _ _ _ _ _
   | exact laws_eqEdgeS.mono _ _ _
   | exact laws_heldCampus.mono _ _ _ _ _ _
   | exact laws_markCampus.mono _ _ _ _ _ _
   | exact laws_markEdgeS.mono _ _ _
   | exact laws_toEdgeS.mono _ _
   | exact spec_NewCampus.mono _ _ _
   | exact LeO.none _
   | refine LeO.ite ?_ ?_
   | refine LeO.bind ?_ (fun _ => ?_)
set_option maxHeartbeats 8000000 in
set_option maxRecDepth 100000 in
theorem laws_FnExactNewCampus.calls (k : Nat) (a0 : Int) (A1 : Option Addr) (c1 : Nat) (l1 : List (S86)) (r : Bool) (w : World) (hr1 : Kd.C k86 w A1 l1.length l1) (hc1 : l1.length ≤ c1) (h : laws_FnExactNewCampus.f k a0 l1 = some r) :
  Calls Try.prog 9 #[.int .i64 a0, .slice A1 l1.length c1] w fun e w' => e = .returned (.bool r) ∧ Below w.heap.size w w' := by
 have hu61 := Try.underlying61
 have HR1 := Aside0.mk hr1
 have HC1 := Aside0.mk hc1
 clear hr1 hc1
 have HB := Aside0.mk (Below.refl w.heap.size w)
 have H : ((laws_szEdgeS.f l1 1048576).bind fun t815 => (if t815 < 0 then (some true) else ((laws_toEdgeS.f k l1).bind fun t816 => ((spec_NewCampus.f k a0 t816).bind fun bt819 => ((laws_toEdgeS.f k l1).bind fun t831 => ((impl_NewCampus.f k a0 t831).bind fun bt834 => ((laws_eqCampus.f k bt834.1 bt834.2.1 bt834.2.2.1 bt834.2.2.2.1 bt819.1 bt819.2.1 bt819.2.2.1 bt819.2.2.2.1).bind fun t846 => (if t846 = true then (laws_FnExactNewCampus.j0 k a0 l1 bt819.2.2.2.2 t831 bt834.2.2.2.2 (bt834.2.2.2.2 != bt819.2.2.2.2) bt819.1 bt819.2.1 bt819.2.2.1 bt819.2.2.2.1 bt834.1 bt834.2.1 bt834.2.2.1 bt834.2.2.2.1) else (laws_FnExactNewCampus.j0 k a0 l1 bt819.2.2.2.2 t831 bt834.2.2.2.2 true bt819.1 bt819.2.1 bt819.2.2.1 bt819.2.2.2.1 bt834.1 bt834.2.1 bt834.2.2.1 bt834.2.2.2.1))))))))) = some r := h
 clear h
 replace H := Option.bind_eq_some_iff.mp H
 obtain ⟨t815, A30, H⟩ := H
 replace H : (if t815 < 0 then (some true) else ((laws_toEdgeS.f k l1).bind fun t816 => ((spec_NewCampus.f k a0 t816).bind fun bt819 => ((laws_toEdgeS.f k l1).bind fun t831 => ((impl_NewCampus.f k a0 t831).bind fun bt834 => ((laws_eqCampus.f k bt834.1 bt834.2.1 bt834.2.2.1 bt834.2.2.2.1 bt819.1 bt819.2.1 bt819.2.2.1 bt819.2.2.2.1).bind fun t846 => (if t846 = true then (laws_FnExactNewCampus.j0 k a0 l1 bt819.2.2.2.2 t831 bt834.2.2.2.2 (bt834.2.2.2.2 != bt819.2.2.2.2) bt819.1 bt819.2.1 bt819.2.2.1 bt819.2.2.2.1 bt834.1 bt834.2.1 bt834.2.2.1 bt834.2.2.2.1) else (laws_FnExactNewCampus.j0 k a0 l1 bt819.2.2.2.2 t831 bt834.2.2.2.2 true bt819.1 bt819.2.1 bt819.2.2.1 bt819.2.2.2.1 bt834.1 bt834.2.1 bt834.2.2.1 bt834.2.2.2.1)))))))) = some r := H
 have A3 := Aside0.mk A30
 clear A30
 by_cases c4 : t815 < 0
 ·rw [if_pos c4] at H
  have c4b0 : decide (t815 < 0) = true := decide_eq_true c4
  clear c4
  obtain rfl := Option.some.inj H
  go_enter Try.func9, Try.ntmps9
  go_wp2_with (first | ((with_reducible refine gate_callee (f := 15) rfl ?_); refine goesL_ (some 18) rfl rfl Try.func15 (by kernel_rfl) rfl #[.slice A1 l1.length c1, .int .i64 1048576] rfl tm_ ?_; (with_reducible refine (laws_szEdgeS.calls _ _ l1 1048576 t815 _ ?side1 ?side2 A3.out).mono ?_); (case side1 => exact ca HR1.out); (case side2 => exact HC1.out); rintro e w' ⟨rfl, ⟨nd, rfl⟩⟩; refine ⟨_, rfl, ?_⟩))
  go_ret
  exact ⟨by first | rfl | (simp [errW_none, errW_some] <;> rfl) | (simp [*, errW_none, errW_some] <;> rfl), by repeat (first | (with_reducible first | exact HB.out | apply below_alloc | apply pw_below_drewN | apply below_drew1) | exact HB.out)⟩
 rw [if_neg c4] at H
 have c4b0 : decide (t815 < 0) = false := decide_eq_false c4
 clear c4
 replace H := Option.bind_eq_some_iff.mp H
 obtain ⟨t816, A50, H⟩ := H
 replace H : ((spec_NewCampus.f k a0 t816).bind fun bt819 => ((laws_toEdgeS.f k l1).bind fun t831 => ((impl_NewCampus.f k a0 t831).bind fun bt834 => ((laws_eqCampus.f k bt834.1 bt834.2.1 bt834.2.2.1 bt834.2.2.2.1 bt819.1 bt819.2.1 bt819.2.2.1 bt819.2.2.2.1).bind fun t846 => (if t846 = true then (laws_FnExactNewCampus.j0 k a0 l1 bt819.2.2.2.2 t831 bt834.2.2.2.2 (bt834.2.2.2.2 != bt819.2.2.2.2) bt819.1 bt819.2.1 bt819.2.2.1 bt819.2.2.2.1 bt834.1 bt834.2.1 bt834.2.2.1 bt834.2.2.2.1) else (laws_FnExactNewCampus.j0 k a0 l1 bt819.2.2.2.2 t831 bt834.2.2.2.2 true bt819.1 bt819.2.1 bt819.2.2.1 bt819.2.2.2.1 bt834.1 bt834.2.1 bt834.2.2.1 bt834.2.2.2.1)))))) = some r := H
 have A5 := Aside0.mk A50
 clear A50
 replace H := Option.bind_eq_some_iff.mp H
 obtain ⟨⟨t819, t820, t823, t826, t829⟩, A60, H⟩ := H
 replace H : ((laws_toEdgeS.f k l1).bind fun t831 => ((impl_NewCampus.f k a0 t831).bind fun bt834 => ((laws_eqCampus.f k bt834.1 bt834.2.1 bt834.2.2.1 bt834.2.2.2.1 t819 t820 t823 t826).bind fun t846 => (if t846 = true then (laws_FnExactNewCampus.j0 k a0 l1 t829 t831 bt834.2.2.2.2 (bt834.2.2.2.2 != t829) t819 t820 t823 t826 bt834.1 bt834.2.1 bt834.2.2.1 bt834.2.2.2.1) else (laws_FnExactNewCampus.j0 k a0 l1 t829 t831 bt834.2.2.2.2 true t819 t820 t823 t826 bt834.1 bt834.2.1 bt834.2.2.1 bt834.2.2.2.1))))) = some r := H
 have A6 := Aside0.mk A60
 clear A60
 replace H := Option.bind_eq_some_iff.mp H
 obtain ⟨t831, A70, H⟩ := H
 replace H : ((impl_NewCampus.f k a0 t831).bind fun bt834 => ((laws_eqCampus.f k bt834.1 bt834.2.1 bt834.2.2.1 bt834.2.2.2.1 t819 t820 t823 t826).bind fun t846 => (if t846 = true then (laws_FnExactNewCampus.j0 k a0 l1 t829 t831 bt834.2.2.2.2 (bt834.2.2.2.2 != t829) t819 t820 t823 t826 bt834.1 bt834.2.1 bt834.2.2.1 bt834.2.2.2.1) else (laws_FnExactNewCampus.j0 k a0 l1 t829 t831 bt834.2.2.2.2 true t819 t820 t823 t826 bt834.1 bt834.2.1 bt834.2.2.1 bt834.2.2.2.1)))) = some r := H
 have A7 := Aside0.mk A70
 clear A70
 replace H := Option.bind_eq_some_iff.mp H
 obtain ⟨⟨t834, t835, t838, t841, t844⟩, A80, H⟩ := H
 replace H : ((laws_eqCampus.f k t834 t835 t838 t841 t819 t820 t823 t826).bind fun t846 => (if t846 = true then (laws_FnExactNewCampus.j0 k a0 l1 t829 t831 t844 (t844 != t829) t819 t820 t823 t826 t834 t835 t838 t841) else (laws_FnExactNewCampus.j0 k a0 l1 t829 t831 t844 true t819 t820 t823 t826 t834 t835 t838 t841))) = some r := H
 have A8 := Aside0.mk A80
 clear A80
 have HC9 := Aside0.mk H
 clear H
 go_enter Try.func9, Try.ntmps9
 go_upto_region 8 with (first | ((with_reducible refine gate_callee (f := 15) rfl ?_); refine goesL_ (some 18) rfl rfl Try.func15 (by kernel_rfl) rfl #[.slice A1 l1.length c1, .int .i64 1048576] rfl tm_ ?_; (with_reducible refine (laws_szEdgeS.calls _ _ l1 1048576 t815 _ ?side1 ?side2 A3.out).mono ?_); (case side1 => exact ca HR1.out); (case side2 => exact HC1.out); rintro e w' ⟨rfl, ⟨nd, rfl⟩⟩; refine ⟨_, rfl, ?_⟩) | ((with_reducible refine gate_callee (f := 17) rfl ?_); refine goesL_ (some 24) rfl rfl Try.func17 (by kernel_rfl) rfl #[.slice A1 l1.length c1] rfl tm_ ?_; (with_reducible refine (laws_toEdgeS.calls k _ _ l1 t816 _ ?side1 ?side2 A5.out).mono ?_); (case side1 => exact ca HR1.out); (case side2 => exact HC1.out); rintro e w10 ⟨v817, rfl, ho0, hb⟩; refine ⟨_, rfl, ?_⟩; have HO818 := Aside0.mk (Kd.R_lower ho0 (below_size (hB HB))); replace HB := bst_ HB hb; clear hb ho0; obtain ⟨Ao11, co11, eo11⟩ := Kd.R_slice HO818.out; subst eo11) | ((with_reducible refine gate_callee (f := 45) rfl ?_); refine goesL_ (some 25) rfl rfl Try.func45 (by kernel_rfl) rfl #[.int .i64 a0, .slice Ao11 t816.length co11] rfl tm_ ?_; (with_reducible refine (spec_NewCampus.calls k a0 _ _ t816 t819 t820 t823 t826 t829 _ ?side1 ?side2 A6.out).mono ?_); (case side1 => exact ca (Kd.R_reads' HO818.out).2.2); (case side2 => exact (Kd.R_reads' HO818.out).2.1); rintro e w12 ⟨v821, v824, v827, rfl, ho0, ho1, ho2, hb⟩; refine ⟨_, rfl, ?_⟩; have HO822 := Aside0.mk (Kd.R_lower (Kd.R_new' ho0 (rl_ HO818)) (below_size (hB HB))); have HO825 := Aside0.mk (Kd.R_lower ho1 (below_size (hB HB))); have HO828 := Aside0.mk (Kd.S_lower ho2 (below_size (hB HB))); replace HO818 := re_ HO818 ho0 hb; replace HB := bst_ HB hb; clear hb ho0 ho1 ho2) | ((with_reducible refine gate_dst (N := 6) rfl ?_); refine box_event ?hg (N := 6) ?hd (cs := #[.int .i64 0, .slice none 0 0, .slice none 0 0, .slice none 0 0]) (t := 61) ?hr ?_; (case hd => rfl); (case hg => rfl); (case hr => first | (go_simp; done) | (go_simp; rfl)); intro gb830 hg w13 hbox hb; have BK830 := Aside0.mk (hbox); have GW830 := gw_ hg HB; have GE830 := gw_ hg HB; replace HO818 := rb_ HO818 hb; replace HO822 := rb_ HO822 hb; replace HO825 := rb_ HO825 hb; replace HO828 := Aside0.mk (Kd.S_below (sa HO828.out) hb); replace HB := bst_ HB hb; clear hb hbox hg; have hcz14_0 : w13.cell? ⟨gb830, 0, none⟩ = some (.int .i64 0) := bc_ BK830 0; have hcz14_1 : w13.cell? ⟨gb830, 1, none⟩ = some (.slice none 0 0) := bc_ BK830 1; have hcz14_2 : w13.cell? ⟨gb830, 2, none⟩ = some (.slice none 0 0) := bc_ BK830 2; have hcz14_3 : w13.cell? ⟨gb830, 3, none⟩ = some (.slice none 0 0) := bc_ BK830 3; have hfz14_0 := blk_frozen BK830.out 0; have hfz14_1 := blk_frozen BK830.out 1; have hfz14_2 := blk_frozen BK830.out 2; have hfz14_3 := blk_frozen BK830.out 3; obtain ⟨Ao15, co15, eo15⟩ := Kd.R_slice HO822.out; subst eo15; obtain ⟨Ao16, co16, eo16⟩ := Kd.R_slice HO825.out; subst eo16; obtain ⟨Ao17, co17, eo17⟩ := Kd.S_slice HO828.out; subst eo17) | ((with_reducible refine gate_callee (f := 17) rfl ?_); refine goesL_ (some 29) rfl rfl Try.func17 (by kernel_rfl) rfl #[.slice A1 l1.length c1] rfl tm_ ?_; (with_reducible refine (laws_toEdgeS.calls k _ _ l1 t831 _ ?side1 ?side2 A7.out).mono ?_); (case side1 => exact Kd.C_below HR1.out (hB HB)); (case side2 => exact HC1.out); rintro e w18 ⟨v832, rfl, ho0, hb⟩; refine ⟨_, rfl, ?_⟩; have HO833 := Aside0.mk (Kd.R_lower (Kd.R_new' (Kd.R_new' ho0 (Kd.R_lt (ra (fm4_ HO818 BK830)))) (Kd.R_lt (ra (fm4_ HO822 BK830)))) (below_size (hB HB))); replace HO818 := Aside0.mk (Kd.R_elder' (ra (fm4_ HO818 BK830)) (Kd.R_base ho0) hb); replace HO822 := Aside0.mk (Kd.R_elder' (ra (fm4_ HO822 BK830)) (Kd.R_base ho0) hb); replace HO825 := rb4_ HO825 BK830 hb; replace HO828 := Aside0.mk (Kd.S_below (sa (Kd.S_mono (Kd.S_far (p := ⟨gb830, 3, none⟩) (Kd.S_far (p := ⟨gb830, 2, none⟩) (Kd.S_far (p := ⟨gb830, 1, none⟩) (Kd.S_far (p := ⟨gb830, 0, none⟩) (Kd.S_types HO828.out BK830.out (by decide)) (fun _ hk => hk.2) (.int .i64 t819)) (fun _ hk => hk.2) (.slice Ao15 t820.length co15)) (fun _ hk => hk.2) (.slice Ao16 t823.length co16)) (fun _ hk => hk.2) (.slice Ao17 t826.length co17)) (fun _ h_ => h_.1))) hb); replace BK830 := Aside0.mk (blk_below (g := gb830) (o := .cells #[.int .i64 t819, .slice Ao15 t820.length co15, .slice Ao16 t823.length co16, .slice Ao17 t826.length co17] 61 (0, 0)) (by (with_reducible repeat (first | refine blk_drewN ?_ _ | refine blk_drew ?_ | refine blk_alloc ?_ _)); refine blk_put (cs := #[.int .i64 t819, .slice Ao15 t820.length co15, .slice Ao16 t823.length co16, .slice none 0 0]) ?_ 3 _ rfl; (with_reducible repeat (first | refine blk_drewN ?_ _ | refine blk_drew ?_ | refine blk_alloc ?_ _)); refine blk_put (cs := #[.int .i64 t819, .slice Ao15 t820.length co15, .slice none 0 0, .slice none 0 0]) ?_ 2 _ rfl; (with_reducible repeat (first | refine blk_drewN ?_ _ | refine blk_drew ?_ | refine blk_alloc ?_ _)); refine blk_put (cs := #[.int .i64 t819, .slice none 0 0, .slice none 0 0, .slice none 0 0]) ?_ 1 _ rfl; (with_reducible repeat (first | refine blk_drewN ?_ _ | refine blk_drew ?_ | refine blk_alloc ?_ _)); refine blk_put (cs := #[.int .i64 0, .slice none 0 0, .slice none 0 0, .slice none 0 0]) ?_ 0 _ rfl; (with_reducible repeat (first | refine blk_drewN ?_ _ | refine blk_drew ?_ | refine blk_alloc ?_ _)); exact BK830.out) hb); replace HB := bst_ HB hb; clear hb ho0; obtain ⟨Ao19, co19, eo19⟩ := Kd.R_slice HO833.out; subst eo19) | ((with_reducible refine gate_callee (f := 46) rfl ?_); refine goesL_ (some 33) rfl rfl Try.func46 (by kernel_rfl) rfl #[.int .i64 a0, .slice Ao19 t831.length co19] rfl tm_ ?_; (with_reducible refine (impl_NewCampus.calls k a0 _ _ t831 t834 t835 t838 t841 t844 _ ?side1 ?side2 A8.out).mono ?_); (case side1 => exact ca (Kd.R_reads' HO833.out).2.2); (case side2 => exact (Kd.R_reads' HO833.out).2.1); rintro e w20 ⟨v836, v839, v842, rfl, ho0, ho1, ho2, hb⟩; refine ⟨_, rfl, ?_⟩; have HO837 := Aside0.mk (Kd.R_lower (Kd.R_new' (Kd.R_new' (Kd.R_new' ho0 (rl_ HO818)) (rl_ HO822)) (rl_ HO833)) (below_size (hB HB))); have HO840 := Aside0.mk (Kd.R_lower (Kd.R_new' ho1 (rl_ HO825)) (below_size (hB HB))); have HO843 := Aside0.mk (Kd.S_lower (Kd.S_new' (Kd.S_new' ho2 (rl_ HO825)) (Kd.S_lt (sa HO828.out))) (below_size (hB HB))); replace HO818 := re_ HO818 ho0 hb; replace HO822 := re_ HO822 ho0 hb; replace HO825 := re_ HO825 ho1 hb; replace HO828 := Aside0.mk (Kd.S_mono (Kd.S_told (Kd.S_told (Kd.S_old (sa HO828.out) hb) (Kd.R_base ho1)) (Kd.S_base ho2)) (fun _ h_ => h_.1)); replace HO833 := re_ HO833 ho0 hb; replace BK830 := bb_ BK830 hb; replace HB := bst_ HB hb; clear hb ho0 ho1 ho2) | ((with_reducible refine gate_dst (N := 9) rfl ?_); refine box_event ?hg (N := 9) ?hd (cs := #[.int .i64 0, .slice none 0 0, .slice none 0 0, .slice none 0 0]) (t := 61) ?hr ?_; (case hd => rfl); (case hg => rfl); (case hr => first | (go_simp; done) | (go_simp; rfl)); intro gb845 hg w21 hbox hb; have BK845 := Aside0.mk (hbox); have GW845 := gw_ hg HB; have GE845 := gw_ hg HB; have NB830_845 := nl_ hg BK830; have NB845_830 := ng_ hg BK830; replace HO818 := rb_ HO818 hb; replace HO822 := rb_ HO822 hb; replace HO825 := rb_ HO825 hb; replace HO828 := Aside0.mk (Kd.S_below (sa HO828.out) hb); replace HO833 := rb_ HO833 hb; replace HO837 := rb_ HO837 hb; replace HO840 := rb_ HO840 hb; replace HO843 := Aside0.mk (Kd.S_below (sa HO843.out) hb); replace BK830 := bb_ BK830 hb; replace HB := bst_ HB hb; clear hb hbox hg; have hnb22 := NB845_830.out; have hnc22 := NB830_845.out; have hcz23_0 : w21.cell? ⟨gb845, 0, none⟩ = some (.int .i64 0) := bc_ BK845 0; have hcz23_1 : w21.cell? ⟨gb845, 1, none⟩ = some (.slice none 0 0) := bc_ BK845 1; have hcz23_2 : w21.cell? ⟨gb845, 2, none⟩ = some (.slice none 0 0) := bc_ BK845 2; have hcz23_3 : w21.cell? ⟨gb845, 3, none⟩ = some (.slice none 0 0) := bc_ BK845 3; have hfz23_0 := blk_frozen BK845.out 0; have hfz23_1 := blk_frozen BK845.out 1; have hfz23_2 := blk_frozen BK845.out 2; have hfz23_3 := blk_frozen BK845.out 3; obtain ⟨Ao24, co24, eo24⟩ := Kd.R_slice HO837.out; subst eo24; obtain ⟨Ao25, co25, eo25⟩ := Kd.R_slice HO840.out; subst eo25; obtain ⟨Ao26, co26, eo26⟩ := Kd.S_slice HO843.out; subst eo26))
 (try simp only [Act.put, List.setIfInBounds_toArray, List.set_cons_zero, List.set_cons_succ])
 go_cut [44] (fun v44 wc => ∃ (kq : Nat) (x44_8 : Bool), v44 = .bool x44_8 ∧ Aside0 (laws_FnExactNewCampus.j0 kq a0 l1 t829 t831 t844 x44_8 t819 t820 t823 t826 t834 t835 t838 t841 = some r) ∧ Aside0 (kq ≤ k) ∧ Aside0 (Kd.R k84 84 wc w.heap.size (fun k_ => no_ (.slice Ao15 t820.length co15) k_ ∧ no_ (.slice Ao24 t835.length co24) k_) (.slice Ao19 t831.length co19) t831) ∧ Aside0 (Kd.R k84 84 wc w.heap.size (fun k_ => no_ (.slice Ao19 t831.length co19) k_ ∧ no_ (.slice Ao24 t835.length co24) k_) (.slice Ao15 t820.length co15) t820) ∧ Aside0 (Kd.R (Kd.int .i64) 3 wc w.heap.size (fun k_ => no_ (.slice Ao25 t838.length co25) k_) (.slice Ao16 t823.length co16) t823) ∧ Aside0 (Kd.S k118 118 wc w.heap.size (fun k_ => no_ (.slice Ao16 t823.length co16) k_ ∧ no_ (.slice Ao25 t838.length co25) k_ ∧ no_ (.slice Ao26 t841.length co26) k_) (.slice Ao17 t826.length co17) t826) ∧ Aside0 (Kd.R k84 84 wc w.heap.size (fun k_ => no_ (.slice Ao19 t831.length co19) k_ ∧ no_ (.slice Ao15 t820.length co15) k_) (.slice Ao24 t835.length co24) t835) ∧ Aside0 (Kd.R (Kd.int .i64) 3 wc w.heap.size (fun k_ => no_ (.slice Ao16 t823.length co16) k_) (.slice Ao25 t838.length co25) t838) ∧ Aside0 (Kd.S k118 118 wc w.heap.size (fun k_ => no_ (.slice Ao16 t823.length co16) k_ ∧ no_ (.slice Ao17 t826.length co17) k_ ∧ no_ (.slice Ao25 t838.length co25) k_) (.slice Ao26 t841.length co26) t841) ∧ Aside0 (wc.heap[gb830]? = some (.cells #[.int .i64 t819, (.slice Ao15 t820.length co15), (.slice Ao16 t823.length co16), (.slice Ao17 t826.length co17)] 61 (0, 0))) ∧ Aside0 (wc.heap[gb845]? = some (.cells #[.int .i64 t834, (.slice Ao24 t835.length co24), (.slice Ao25 t838.length co25), (.slice Ao26 t841.length co26)] 61 (0, 0))) ∧ Aside0 (Below w.heap.size w wc))
 case first =>
  have H := HC9.out
  clear HC9
  replace H := Option.bind_eq_some_iff.mp H
  obtain ⟨t846, A270, H⟩ := H
  replace H : (if t846 = true then (laws_FnExactNewCampus.j0 k a0 l1 t829 t831 t844 (t844 != t829) t819 t820 t823 t826 t834 t835 t838 t841) else (laws_FnExactNewCampus.j0 k a0 l1 t829 t831 t844 true t819 t820 t823 t826 t834 t835 t838 t841)) = some r := H
  have A27 := Aside0.mk A270
  clear A270
  by_cases c28 : t846 = true
  ·subst c28
   have H1 : (laws_FnExactNewCampus.j0 k a0 l1 t829 t831 t844 (t844 != t829) t819 t820 t823 t826 t834 t835 t838 t841) = some r := by rw [if_pos rfl] at H; exact H
   clear H
   have H := H1
   clear H1
   have H' := Aside0.mk H
   clear H
   have hnb29 := NB845_830.out
   have hnc29 := NB830_845.out
   have hcz30_0 : w21.cell? ⟨gb845, 0, none⟩ = some (.int .i64 0) := bc_ BK845 0
   have hcz30_1 : w21.cell? ⟨gb845, 1, none⟩ = some (.slice none 0 0) := bc_ BK845 1
   have hcz30_2 : w21.cell? ⟨gb845, 2, none⟩ = some (.slice none 0 0) := bc_ BK845 2
   have hcz30_3 : w21.cell? ⟨gb845, 3, none⟩ = some (.slice none 0 0) := bc_ BK845 3
   have hfz30_0 := blk_frozen BK845.out 0
   have hfz30_1 := blk_frozen BK845.out 1
   have hfz30_2 := blk_frozen BK845.out 2
   have hfz30_3 := blk_frozen BK845.out 3
   have hcz31_0 : w21.cell? ⟨gb830, 0, none⟩ = some (.int .i64 t819) := bc_ BK830 0
   have hcz31_1 : w21.cell? ⟨gb830, 1, none⟩ = some (.slice Ao15 t820.length co15) := bc_ BK830 1
   have hcz31_2 : w21.cell? ⟨gb830, 2, none⟩ = some (.slice Ao16 t823.length co16) := bc_ BK830 2
   have hcz31_3 : w21.cell? ⟨gb830, 3, none⟩ = some (.slice Ao17 t826.length co17) := bc_ BK830 3
   have hfz31_0 := blk_frozen BK830.out 0
   have hfz31_1 := blk_frozen BK830.out 1
   have hfz31_2 := blk_frozen BK830.out 2
   have hfz31_3 := blk_frozen BK830.out 3
   go_wp2_with (first | ((with_reducible refine gate_callee (f := 47) rfl ?_); refine goesL_ (some 38) rfl rfl Try.func47 (by kernel_rfl) rfl #[.agg #[.int .i64 t834, .slice Ao24 t835.length co24, .slice Ao25 t838.length co25, .slice Ao26 t841.length co26], .agg #[.int .i64 t819, .slice Ao15 t820.length co15, .slice Ao16 t823.length co16, .slice Ao17 t826.length co17]] rfl tm_ ?_; (with_reducible refine (laws_eqCampus.calls k t834 _ _ t835 _ _ t838 _ _ t841 t819 _ _ t820 _ _ t823 _ _ t826 true _ ?side1 ?side2 ?side3 ?side4 ?side5 ?side6 ?side7 ?side8 ?side9 ?side10 ?side11 ?side12 A27.out).mono ?_); (case side1 => exact rr_ (fm4_ HO837 BK845)); (case side2 => exact (Kd.R_reads' HO837.out).2.1); (case side3 => exact rr_ (fm4_ HO840 BK845)); (case side4 => exact (Kd.R_reads' HO840.out).2.1); (case side5 => refine (Kd.S_reads' (e := 118) (base := w.heap.size) (ok := fun k_ => ((no_ (.slice Ao25 t838.length co25) k_ ∧ no_ (.slice Ao16 t823.length co16) k_) ∧ no_ (.slice Ao17 t826.length co17) k_)) (n := t841.length) (c := co26) ?_).2.2; exact (sa (Kd.S_mono (Kd.S_far (p := ⟨gb845, 3, none⟩) (Kd.S_far (p := ⟨gb845, 2, none⟩) (Kd.S_far (p := ⟨gb845, 1, none⟩) (Kd.S_far (p := ⟨gb845, 0, none⟩) (Kd.S_types HO843.out BK845.out (by decide)) (fun _ hk => hk.2) (.int .i64 t834)) (fun _ hk => hk.2) (.slice Ao24 t835.length co24)) (fun _ hk => hk.2) (.slice Ao25 t838.length co25)) (fun _ hk => hk.2) (.slice Ao26 t841.length co26)) (fun _ h_ => h_.1)))); (case side6 => exact (Kd.S_reads' HO843.out).2.1); (case side7 => exact rr_ (fm4_ HO822 BK845)); (case side8 => exact (Kd.R_reads' HO822.out).2.1); (case side9 => exact rr_ (fm4_ HO825 BK845)); (case side10 => exact (Kd.R_reads' HO825.out).2.1); (case side11 => refine (Kd.S_reads' (e := 118) (base := w.heap.size) (ok := fun k_ => ((no_ (.slice Ao16 t823.length co16) k_ ∧ no_ (.slice Ao25 t838.length co25) k_) ∧ no_ (.slice Ao26 t841.length co26) k_)) (n := t826.length) (c := co17) ?_).2.2; exact (sa (Kd.S_mono (Kd.S_far (p := ⟨gb845, 3, none⟩) (Kd.S_far (p := ⟨gb845, 2, none⟩) (Kd.S_far (p := ⟨gb845, 1, none⟩) (Kd.S_far (p := ⟨gb845, 0, none⟩) (Kd.S_types HO828.out BK845.out (by decide)) (fun _ hk => hk.2) (.int .i64 t834)) (fun _ hk => hk.2) (.slice Ao24 t835.length co24)) (fun _ hk => hk.2) (.slice Ao25 t838.length co25)) (fun _ hk => hk.2) (.slice Ao26 t841.length co26)) (fun _ h_ => h_.1)))); (case side12 => exact (Kd.S_reads' HO828.out).2.1); rintro e w32 ⟨rfl, hb⟩; refine ⟨_, rfl, ?_⟩; replace HO818 := rb4_ HO818 BK845 hb; replace HO822 := rb4_ HO822 BK845 hb; replace HO825 := rb4_ HO825 BK845 hb; replace HO828 := Aside0.mk (Kd.S_below (sa (Kd.S_mono (Kd.S_far (p := ⟨gb845, 3, none⟩) (Kd.S_far (p := ⟨gb845, 2, none⟩) (Kd.S_far (p := ⟨gb845, 1, none⟩) (Kd.S_far (p := ⟨gb845, 0, none⟩) (Kd.S_types HO828.out BK845.out (by decide)) (fun _ hk => hk.2) (.int .i64 t834)) (fun _ hk => hk.2) (.slice Ao24 t835.length co24)) (fun _ hk => hk.2) (.slice Ao25 t838.length co25)) (fun _ hk => hk.2) (.slice Ao26 t841.length co26)) (fun _ h_ => h_.1))) hb); replace HO833 := rb4_ HO833 BK845 hb; replace HO837 := rb4_ HO837 BK845 hb; replace HO840 := rb4_ HO840 BK845 hb; replace HO843 := Aside0.mk (Kd.S_below (sa (Kd.S_mono (Kd.S_far (p := ⟨gb845, 3, none⟩) (Kd.S_far (p := ⟨gb845, 2, none⟩) (Kd.S_far (p := ⟨gb845, 1, none⟩) (Kd.S_far (p := ⟨gb845, 0, none⟩) (Kd.S_types HO843.out BK845.out (by decide)) (fun _ hk => hk.2) (.int .i64 t834)) (fun _ hk => hk.2) (.slice Ao24 t835.length co24)) (fun _ hk => hk.2) (.slice Ao25 t838.length co25)) (fun _ hk => hk.2) (.slice Ao26 t841.length co26)) (fun _ h_ => h_.1))) hb); replace BK830 := Aside0.mk (blk_below (bx BK830) hb); replace BK845 := Aside0.mk (blk_below (g := gb845) (o := .cells #[.int .i64 t834, .slice Ao24 t835.length co24, .slice Ao25 t838.length co25, .slice Ao26 t841.length co26] 61 (0, 0)) (by (with_reducible repeat (first | refine blk_drewN ?_ _ | refine blk_drew ?_ | refine blk_alloc ?_ _)); refine blk_put (cs := #[.int .i64 t834, .slice Ao24 t835.length co24, .slice Ao25 t838.length co25, .slice none 0 0]) ?_ 3 _ rfl; (with_reducible repeat (first | refine blk_drewN ?_ _ | refine blk_drew ?_ | refine blk_alloc ?_ _)); refine blk_put (cs := #[.int .i64 t834, .slice Ao24 t835.length co24, .slice none 0 0, .slice none 0 0]) ?_ 2 _ rfl; (with_reducible repeat (first | refine blk_drewN ?_ _ | refine blk_drew ?_ | refine blk_alloc ?_ _)); refine blk_put (cs := #[.int .i64 t834, .slice none 0 0, .slice none 0 0, .slice none 0 0]) ?_ 1 _ rfl; (with_reducible repeat (first | refine blk_drewN ?_ _ | refine blk_drew ?_ | refine blk_alloc ?_ _)); refine blk_put (cs := #[.int .i64 0, .slice none 0 0, .slice none 0 0, .slice none 0 0]) ?_ 0 _ rfl; (with_reducible repeat (first | refine blk_drewN ?_ _ | refine blk_drew ?_ | refine blk_alloc ?_ _)); exact BK845.out) hb); replace HB := bst_ HB hb; clear hb))
   go_meet
   case rel => exact ⟨_, ((t844 != t829)), (by first | rfl | (simp; done) | (simp [*]; done)), H', ⟨by first | omega | exact Nat.le_refl _⟩, rm_ HO833 (fun _ hk => ⟨hk.1.2, hk.2⟩), rm_ HO822 (fun _ hk => ⟨hk.1.2, hk.2⟩), rm_ HO825 (fun _ hk => hk.2), ⟨by (with_reducible repeat (first | apply Kd.S_alloc | apply Kd.S_drewN | apply Kd.S_drew)); exact Kd.S_mono HO828.out (fun _ hk => ⟨hk.1.1, ⟨hk.1.2, hk.2⟩⟩)⟩, rm_ HO837 (fun _ hk => ⟨hk.2, hk.1.2⟩), rm_ HO840 (fun _ hk => hk.2), ⟨by (with_reducible repeat (first | apply Kd.S_alloc | apply Kd.S_drewN | apply Kd.S_drew)); exact Kd.S_mono HO843.out (fun _ hk => ⟨hk.1.2, ⟨hk.2, hk.1.1⟩⟩)⟩, ⟨by (with_reducible repeat (first | refine blk_drewN ?_ _ | refine blk_drew ?_ | refine blk_alloc ?_ _)); exact BK830.out⟩, ⟨by (with_reducible repeat (first | refine blk_drewN ?_ _ | refine blk_drew ?_ | refine blk_alloc ?_ _)); exact BK845.out⟩, ⟨hB HB⟩⟩
  replace c28 := Bool.eq_false_iff.mpr c28
  subst c28
  have H1 : (laws_FnExactNewCampus.j0 k a0 l1 t829 t831 t844 true t819 t820 t823 t826 t834 t835 t838 t841) = some r := by rw [if_neg (show ¬ (false = true) by decide)] at H; exact H
  clear H
  have H := H1
  clear H1
  have H' := Aside0.mk H
  clear H
  have hnb33 := NB845_830.out
  have hnc33 := NB830_845.out
  have hcz34_0 : w21.cell? ⟨gb845, 0, none⟩ = some (.int .i64 0) := bc_ BK845 0
  have hcz34_1 : w21.cell? ⟨gb845, 1, none⟩ = some (.slice none 0 0) := bc_ BK845 1
  have hcz34_2 : w21.cell? ⟨gb845, 2, none⟩ = some (.slice none 0 0) := bc_ BK845 2
  have hcz34_3 : w21.cell? ⟨gb845, 3, none⟩ = some (.slice none 0 0) := bc_ BK845 3
  have hfz34_0 := blk_frozen BK845.out 0
  have hfz34_1 := blk_frozen BK845.out 1
  have hfz34_2 := blk_frozen BK845.out 2
  have hfz34_3 := blk_frozen BK845.out 3
  have hcz35_0 : w21.cell? ⟨gb830, 0, none⟩ = some (.int .i64 t819) := bc_ BK830 0
  have hcz35_1 : w21.cell? ⟨gb830, 1, none⟩ = some (.slice Ao15 t820.length co15) := bc_ BK830 1
  have hcz35_2 : w21.cell? ⟨gb830, 2, none⟩ = some (.slice Ao16 t823.length co16) := bc_ BK830 2
  have hcz35_3 : w21.cell? ⟨gb830, 3, none⟩ = some (.slice Ao17 t826.length co17) := bc_ BK830 3
  have hfz35_0 := blk_frozen BK830.out 0
  have hfz35_1 := blk_frozen BK830.out 1
  have hfz35_2 := blk_frozen BK830.out 2
  have hfz35_3 := blk_frozen BK830.out 3
  go_wp2_with (first | ((with_reducible refine gate_callee (f := 47) rfl ?_); refine goesL_ (some 38) rfl rfl Try.func47 (by kernel_rfl) rfl #[.agg #[.int .i64 t834, .slice Ao24 t835.length co24, .slice Ao25 t838.length co25, .slice Ao26 t841.length co26], .agg #[.int .i64 t819, .slice Ao15 t820.length co15, .slice Ao16 t823.length co16, .slice Ao17 t826.length co17]] rfl tm_ ?_; (with_reducible refine (laws_eqCampus.calls k t834 _ _ t835 _ _ t838 _ _ t841 t819 _ _ t820 _ _ t823 _ _ t826 false _ ?side1 ?side2 ?side3 ?side4 ?side5 ?side6 ?side7 ?side8 ?side9 ?side10 ?side11 ?side12 A27.out).mono ?_); (case side1 => exact rr_ (fm4_ HO837 BK845)); (case side2 => exact (Kd.R_reads' HO837.out).2.1); (case side3 => exact rr_ (fm4_ HO840 BK845)); (case side4 => exact (Kd.R_reads' HO840.out).2.1); (case side5 => refine (Kd.S_reads' (e := 118) (base := w.heap.size) (ok := fun k_ => ((no_ (.slice Ao25 t838.length co25) k_ ∧ no_ (.slice Ao16 t823.length co16) k_) ∧ no_ (.slice Ao17 t826.length co17) k_)) (n := t841.length) (c := co26) ?_).2.2; exact (sa (Kd.S_mono (Kd.S_far (p := ⟨gb845, 3, none⟩) (Kd.S_far (p := ⟨gb845, 2, none⟩) (Kd.S_far (p := ⟨gb845, 1, none⟩) (Kd.S_far (p := ⟨gb845, 0, none⟩) (Kd.S_types HO843.out BK845.out (by decide)) (fun _ hk => hk.2) (.int .i64 t834)) (fun _ hk => hk.2) (.slice Ao24 t835.length co24)) (fun _ hk => hk.2) (.slice Ao25 t838.length co25)) (fun _ hk => hk.2) (.slice Ao26 t841.length co26)) (fun _ h_ => h_.1)))); (case side6 => exact (Kd.S_reads' HO843.out).2.1); (case side7 => exact rr_ (fm4_ HO822 BK845)); (case side8 => exact (Kd.R_reads' HO822.out).2.1); (case side9 => exact rr_ (fm4_ HO825 BK845)); (case side10 => exact (Kd.R_reads' HO825.out).2.1); (case side11 => refine (Kd.S_reads' (e := 118) (base := w.heap.size) (ok := fun k_ => ((no_ (.slice Ao16 t823.length co16) k_ ∧ no_ (.slice Ao25 t838.length co25) k_) ∧ no_ (.slice Ao26 t841.length co26) k_)) (n := t826.length) (c := co17) ?_).2.2; exact (sa (Kd.S_mono (Kd.S_far (p := ⟨gb845, 3, none⟩) (Kd.S_far (p := ⟨gb845, 2, none⟩) (Kd.S_far (p := ⟨gb845, 1, none⟩) (Kd.S_far (p := ⟨gb845, 0, none⟩) (Kd.S_types HO828.out BK845.out (by decide)) (fun _ hk => hk.2) (.int .i64 t834)) (fun _ hk => hk.2) (.slice Ao24 t835.length co24)) (fun _ hk => hk.2) (.slice Ao25 t838.length co25)) (fun _ hk => hk.2) (.slice Ao26 t841.length co26)) (fun _ h_ => h_.1)))); (case side12 => exact (Kd.S_reads' HO828.out).2.1); rintro e w36 ⟨rfl, hb⟩; refine ⟨_, rfl, ?_⟩; replace HO818 := rb4_ HO818 BK845 hb; replace HO822 := rb4_ HO822 BK845 hb; replace HO825 := rb4_ HO825 BK845 hb; replace HO828 := Aside0.mk (Kd.S_below (sa (Kd.S_mono (Kd.S_far (p := ⟨gb845, 3, none⟩) (Kd.S_far (p := ⟨gb845, 2, none⟩) (Kd.S_far (p := ⟨gb845, 1, none⟩) (Kd.S_far (p := ⟨gb845, 0, none⟩) (Kd.S_types HO828.out BK845.out (by decide)) (fun _ hk => hk.2) (.int .i64 t834)) (fun _ hk => hk.2) (.slice Ao24 t835.length co24)) (fun _ hk => hk.2) (.slice Ao25 t838.length co25)) (fun _ hk => hk.2) (.slice Ao26 t841.length co26)) (fun _ h_ => h_.1))) hb); replace HO833 := rb4_ HO833 BK845 hb; replace HO837 := rb4_ HO837 BK845 hb; replace HO840 := rb4_ HO840 BK845 hb; replace HO843 := Aside0.mk (Kd.S_below (sa (Kd.S_mono (Kd.S_far (p := ⟨gb845, 3, none⟩) (Kd.S_far (p := ⟨gb845, 2, none⟩) (Kd.S_far (p := ⟨gb845, 1, none⟩) (Kd.S_far (p := ⟨gb845, 0, none⟩) (Kd.S_types HO843.out BK845.out (by decide)) (fun _ hk => hk.2) (.int .i64 t834)) (fun _ hk => hk.2) (.slice Ao24 t835.length co24)) (fun _ hk => hk.2) (.slice Ao25 t838.length co25)) (fun _ hk => hk.2) (.slice Ao26 t841.length co26)) (fun _ h_ => h_.1))) hb); replace BK830 := Aside0.mk (blk_below (bx BK830) hb); replace BK845 := Aside0.mk (blk_below (g := gb845) (o := .cells #[.int .i64 t834, .slice Ao24 t835.length co24, .slice Ao25 t838.length co25, .slice Ao26 t841.length co26] 61 (0, 0)) (by (with_reducible repeat (first | refine blk_drewN ?_ _ | refine blk_drew ?_ | refine blk_alloc ?_ _)); refine blk_put (cs := #[.int .i64 t834, .slice Ao24 t835.length co24, .slice Ao25 t838.length co25, .slice none 0 0]) ?_ 3 _ rfl; (with_reducible repeat (first | refine blk_drewN ?_ _ | refine blk_drew ?_ | refine blk_alloc ?_ _)); refine blk_put (cs := #[.int .i64 t834, .slice Ao24 t835.length co24, .slice none 0 0, .slice none 0 0]) ?_ 2 _ rfl; (with_reducible repeat (first | refine blk_drewN ?_ _ | refine blk_drew ?_ | refine blk_alloc ?_ _)); refine blk_put (cs := #[.int .i64 t834, .slice none 0 0, .slice none 0 0, .slice none 0 0]) ?_ 1 _ rfl; (with_reducible repeat (first | refine blk_drewN ?_ _ | refine blk_drew ?_ | refine blk_alloc ?_ _)); refine blk_put (cs := #[.int .i64 0, .slice none 0 0, .slice none 0 0, .slice none 0 0]) ?_ 0 _ rfl; (with_reducible repeat (first | refine blk_drewN ?_ _ | refine blk_drew ?_ | refine blk_alloc ?_ _)); exact BK845.out) hb); replace HB := bst_ HB hb; clear hb))
  go_meet
  case rel => exact ⟨_, (true), (by first | rfl | (simp; done) | (simp [*]; done)), H', ⟨by first | omega | exact Nat.le_refl _⟩, rm_ HO833 (fun _ hk => ⟨hk.1.2, hk.2⟩), rm_ HO822 (fun _ hk => ⟨hk.1.2, hk.2⟩), rm_ HO825 (fun _ hk => hk.2), ⟨by (with_reducible repeat (first | apply Kd.S_alloc | apply Kd.S_drewN | apply Kd.S_drew)); exact Kd.S_mono HO828.out (fun _ hk => ⟨hk.1.1, ⟨hk.1.2, hk.2⟩⟩)⟩, rm_ HO837 (fun _ hk => ⟨hk.2, hk.1.2⟩), rm_ HO840 (fun _ hk => hk.2), ⟨by (with_reducible repeat (first | apply Kd.S_alloc | apply Kd.S_drewN | apply Kd.S_drew)); exact Kd.S_mono HO843.out (fun _ hk => ⟨hk.1.2, ⟨hk.2, hk.1.1⟩⟩)⟩, ⟨by (with_reducible repeat (first | refine blk_drewN ?_ _ | refine blk_drew ?_ | refine blk_alloc ?_ _)); exact BK830.out⟩, ⟨by (with_reducible repeat (first | refine blk_drewN ?_ _ | refine blk_drew ?_ | refine blk_alloc ?_ _)); exact BK845.out⟩, ⟨hB HB⟩⟩
 case rest =>
  clear HC9
  try clear c1
  try clear c2
  try clear p2
  try clear c3
  try clear c4
  try clear c4b0
  try clear c9
  try clear c15
  try clear c17
  try clear c22
  try clear c28
  try clear c29
  try clear c33
  try clear hcz14_0
  try clear hcz14_1
  try clear hcz14_2
  try clear hcz14_3
  try clear hcz23_0
  try clear hcz23_1
  try clear hcz23_2
  try clear hcz23_3
  try clear hcz30_0
  try clear hcz30_1
  try clear hcz30_2
  try clear hcz30_3
  try clear hcz31_0
  try clear hcz31_1
  try clear hcz31_2
  try clear hcz31_3
  try clear hcz34_0
  try clear hcz34_1
  try clear hcz34_2
  try clear hcz34_3
  try clear hcz35_0
  try clear hcz35_1
  try clear hcz35_2
  try clear hcz35_3
  try clear hfz14_0
  try clear hfz14_1
  try clear hfz14_2
  try clear hfz14_3
  try clear hfz23_0
  try clear hfz23_1
  try clear hfz23_2
  try clear hfz23_3
  try clear hfz30_0
  try clear hfz30_1
  try clear hfz30_2
  try clear hfz30_3
  try clear hfz31_0
  try clear hfz31_1
  try clear hfz31_2
  try clear hfz31_3
  try clear hfz34_0
  try clear hfz34_1
  try clear hfz34_2
  try clear hfz34_3
  try clear hfz35_0
  try clear hfz35_1
  try clear hfz35_2
  try clear hfz35_3
  obtain ⟨kq, x44_8, rfl, HA, HJ8, HO_8, HO_831001, HO_831002, HO_831003, HO_846001, HO_846002, HO_846003, BK830, BK845, HB⟩ := hcut
  cases kq with
  | zero => exact absurd HA.out (by simp [laws_FnExactNewCampus.j0])
  | succ kj8 =>
   have H := HA.out
   clear HA
   simp only [laws_FnExactNewCampus.j0] at H
   by_cases c37 : x44_8 = true
   ·subst c37
    have H1 : (some false) = some r := by rw [if_pos rfl] at H; exact H
    clear H
    have H := H1
    clear H1
    obtain rfl := Option.some.inj H
    go_wp2
    go_ret
    exact ⟨by first | rfl | (simp [errW_none, errW_some] <;> rfl) | (simp [*, errW_none, errW_some] <;> rfl), by repeat (first | (with_reducible first | exact HB.out | apply below_alloc | apply pw_below_drewN | apply below_drew1 | refine below_set ?_ GE830.out | refine below_set ?_ GE845.out) | exact HB.out)⟩
   replace c37 := Bool.eq_false_iff.mpr c37
   subst c37
   have H1 : ((laws_toEdgeS.f kj8 l1).bind fun t847 => ((laws_eqEdgeS.f kj8 t831 t847).bind fun t850 => (if t850 = true then ((laws_markEdgeS.f kj8 t831 1).bind fun bt851 => (if bt851.1 < 0 then (laws_FnExactNewCampus.j1 kj8 a0 l1 t829 true t819 t820 t823 t826 t834 t835 t838 t841) else ((laws_eqCampus.f kj8 t834 t835 t838 t841 t819 t820 t823 t826).bind fun t853 => (if t853 = true then (laws_FnExactNewCampus.j1 kj8 a0 l1 t829 (t844 != t829) t819 t820 t823 t826 t834 t835 t838 t841) else (laws_FnExactNewCampus.j1 kj8 a0 l1 t829 true t819 t820 t823 t826 t834 t835 t838 t841))))) else (some false)))) = some r := by rw [if_neg (show ¬ (false = true) by decide)] at H; exact H
   clear H
   have H := H1
   clear H1
   replace H := Option.bind_eq_some_iff.mp H
   obtain ⟨t847, A380, H⟩ := H
   replace H : ((laws_eqEdgeS.f kj8 t831 t847).bind fun t850 => (if t850 = true then ((laws_markEdgeS.f kj8 t831 1).bind fun bt851 => (if bt851.1 < 0 then (laws_FnExactNewCampus.j1 kj8 a0 l1 t829 true t819 t820 t823 t826 t834 t835 t838 t841) else ((laws_eqCampus.f kj8 t834 t835 t838 t841 t819 t820 t823 t826).bind fun t853 => (if t853 = true then (laws_FnExactNewCampus.j1 kj8 a0 l1 t829 (t844 != t829) t819 t820 t823 t826 t834 t835 t838 t841) else (laws_FnExactNewCampus.j1 kj8 a0 l1 t829 true t819 t820 t823 t826 t834 t835 t838 t841))))) else (some false))) = some r := H
   have A38 := Aside0.mk A380
   clear A380
   replace H := Option.bind_eq_some_iff.mp H
   obtain ⟨t850, A390, H⟩ := H
   replace H : (if t850 = true then ((laws_markEdgeS.f kj8 t831 1).bind fun bt851 => (if bt851.1 < 0 then (laws_FnExactNewCampus.j1 kj8 a0 l1 t829 true t819 t820 t823 t826 t834 t835 t838 t841) else ((laws_eqCampus.f kj8 t834 t835 t838 t841 t819 t820 t823 t826).bind fun t853 => (if t853 = true then (laws_FnExactNewCampus.j1 kj8 a0 l1 t829 (t844 != t829) t819 t820 t823 t826 t834 t835 t838 t841) else (laws_FnExactNewCampus.j1 kj8 a0 l1 t829 true t819 t820 t823 t826 t834 t835 t838 t841))))) else (some false)) = some r := H
   have A39 := Aside0.mk A390
   clear A390
   by_cases c40 : t850 = true
   rotate_left
   ·replace c40 := Bool.eq_false_iff.mpr c40
    subst c40
    have H1 : (some false) = some r := by rw [if_neg (show ¬ (false = true) by decide)] at H; exact H
    clear H
    have H := H1
    clear H1
    obtain rfl := Option.some.inj H
    go_wp2_with (first | ((with_reducible refine gate_callee (f := 17) rfl ?_); refine goesL_ (some 47) rfl rfl Try.func17 (by kernel_rfl) rfl #[.slice A1 l1.length c1] rfl tm_ ?_; (with_reducible refine (laws_toEdgeS.calls kj8 _ _ l1 t847 _ ?side1 ?side2 A38.out).mono ?_); (case side1 => exact ca (Kd.C_below HR1.out HB.out)); (case side2 => exact HC1.out); rintro e w121 ⟨v848, rfl, ho0, hb⟩; refine ⟨_, rfl, ?_⟩; have HO849 := Aside0.mk (Kd.R_lower (Kd.R_new' (Kd.R_new' (Kd.R_new' ho0 (rl_ HO_8)) (rl_ HO_831001)) (rl_ HO_846001)) (below_size (hB HB))); replace HO_8 := re_ HO_8 ho0 hb; replace HO_831001 := re_ HO_831001 ho0 hb; replace HO_831002 := rb_ HO_831002 hb; replace HO_831003 := Aside0.mk (Kd.S_below (sa HO_831003.out) hb); replace HO_846001 := re_ HO_846001 ho0 hb; replace HO_846002 := rb_ HO_846002 hb; replace HO_846003 := Aside0.mk (Kd.S_below (sa HO_846003.out) hb); replace BK830 := bb_ BK830 hb; replace BK845 := bb_ BK845 hb; replace HB := bst_ HB hb; clear hb ho0; obtain ⟨Ao122, co122, eo122⟩ := Kd.R_slice HO849.out; subst eo122) | ((with_reducible refine gate_callee (f := 20) rfl ?_); refine goesL_ (some 48) rfl rfl Try.func20 (by kernel_rfl) rfl #[.slice Ao19 t831.length co19, .slice Ao122 t847.length co122] rfl tm_ ?_; (with_reducible refine (laws_eqEdgeS.calls kj8 _ _ t831 _ _ t847 false _ ?side1 ?side2 ?side3 ?side4 A39.out).mono ?_); (case side1 => exact ca (Kd.R_reads' HO_8.out).2.2); (case side2 => exact (Kd.R_reads' HO_8.out).2.1); (case side3 => exact ca (Kd.R_reads' HO849.out).2.2); (case side4 => exact (Kd.R_reads' HO849.out).2.1); rintro e w123 ⟨rfl, hb⟩; refine ⟨_, rfl, ?_⟩; replace HO_8 := rb_ HO_8 hb; replace HO_831001 := rb_ HO_831001 hb; replace HO_831002 := rb_ HO_831002 hb; replace HO_831003 := Aside0.mk (Kd.S_below (sa HO_831003.out) hb); replace HO_846001 := rb_ HO_846001 hb; replace HO_846002 := rb_ HO_846002 hb; replace HO_846003 := Aside0.mk (Kd.S_below (sa HO_846003.out) hb); replace HO849 := rb_ HO849 hb; replace BK830 := bb_ BK830 hb; replace BK845 := bb_ BK845 hb; replace HB := bst_ HB hb; clear hb))
    go_ret
    exact ⟨by first | rfl | (simp [errW_none, errW_some] <;> rfl) | (simp [*, errW_none, errW_some] <;> rfl), by repeat (first | (with_reducible first | exact HB.out | apply below_alloc | apply pw_below_drewN | apply below_drew1 | refine below_set ?_ GE830.out | refine below_set ?_ GE845.out) | exact HB.out)⟩
   subst c40
   have H1 : ((laws_markEdgeS.f kj8 t831 1).bind fun bt851 => (if bt851.1 < 0 then (laws_FnExactNewCampus.j1 kj8 a0 l1 t829 true t819 t820 t823 t826 t834 t835 t838 t841) else ((laws_eqCampus.f kj8 t834 t835 t838 t841 t819 t820 t823 t826).bind fun t853 => (if t853 = true then (laws_FnExactNewCampus.j1 kj8 a0 l1 t829 (t844 != t829) t819 t820 t823 t826 t834 t835 t838 t841) else (laws_FnExactNewCampus.j1 kj8 a0 l1 t829 true t819 t820 t823 t826 t834 t835 t838 t841))))) = some r := by rw [if_pos rfl] at H; exact H
   clear H
   have H := H1
   clear H1
   replace H := Option.bind_eq_some_iff.mp H
   obtain ⟨⟨t851, t852⟩, A410, H⟩ := H
   replace H : (if t851 < 0 then (laws_FnExactNewCampus.j1 kj8 a0 l1 t829 true t819 t820 t823 t826 t834 t835 t838 t841) else ((laws_eqCampus.f kj8 t834 t835 t838 t841 t819 t820 t823 t826).bind fun t853 => (if t853 = true then (laws_FnExactNewCampus.j1 kj8 a0 l1 t829 (t844 != t829) t819 t820 t823 t826 t834 t835 t838 t841) else (laws_FnExactNewCampus.j1 kj8 a0 l1 t829 true t819 t820 t823 t826 t834 t835 t838 t841)))) = some r := H
   have A41 := Aside0.mk A410
   clear A410
   have HC42 := Aside0.mk H
   clear H
   go_upto_region 14 with (first | ((with_reducible refine gate_callee (f := 17) rfl ?_); refine goesL_ (some 47) rfl rfl Try.func17 (by kernel_rfl) rfl #[.slice A1 l1.length c1] rfl tm_ ?_; (with_reducible refine (laws_toEdgeS.calls kj8 _ _ l1 t847 _ ?side1 ?side2 A38.out).mono ?_); (case side1 => exact ca (Kd.C_below HR1.out HB.out)); (case side2 => exact HC1.out); rintro e w43 ⟨v848, rfl, ho0, hb⟩; refine ⟨_, rfl, ?_⟩; have HO849 := Aside0.mk (Kd.R_lower (Kd.R_new' (Kd.R_new' (Kd.R_new' ho0 (rl_ HO_8)) (rl_ HO_831001)) (rl_ HO_846001)) (below_size (hB HB))); replace HO_8 := re_ HO_8 ho0 hb; replace HO_831001 := re_ HO_831001 ho0 hb; replace HO_831002 := rb_ HO_831002 hb; replace HO_831003 := Aside0.mk (Kd.S_below (sa HO_831003.out) hb); replace HO_846001 := re_ HO_846001 ho0 hb; replace HO_846002 := rb_ HO_846002 hb; replace HO_846003 := Aside0.mk (Kd.S_below (sa HO_846003.out) hb); replace BK830 := bb_ BK830 hb; replace BK845 := bb_ BK845 hb; replace HB := bst_ HB hb; clear hb ho0; obtain ⟨Ao44, co44, eo44⟩ := Kd.R_slice HO849.out; subst eo44) | ((with_reducible refine gate_callee (f := 20) rfl ?_); refine goesL_ (some 48) rfl rfl Try.func20 (by kernel_rfl) rfl #[.slice Ao19 t831.length co19, .slice Ao44 t847.length co44] rfl tm_ ?_; (with_reducible refine (laws_eqEdgeS.calls kj8 _ _ t831 _ _ t847 true _ ?side1 ?side2 ?side3 ?side4 A39.out).mono ?_); (case side1 => exact ca (Kd.R_reads' HO_8.out).2.2); (case side2 => exact (Kd.R_reads' HO_8.out).2.1); (case side3 => exact ca (Kd.R_reads' HO849.out).2.2); (case side4 => exact (Kd.R_reads' HO849.out).2.1); rintro e w45 ⟨rfl, hb⟩; refine ⟨_, rfl, ?_⟩; replace HO_8 := rb_ HO_8 hb; replace HO_831001 := rb_ HO_831001 hb; replace HO_831002 := rb_ HO_831002 hb; replace HO_831003 := Aside0.mk (Kd.S_below (sa HO_831003.out) hb); replace HO_846001 := rb_ HO_846001 hb; replace HO_846002 := rb_ HO_846002 hb; replace HO_846003 := Aside0.mk (Kd.S_below (sa HO_846003.out) hb); replace HO849 := rb_ HO849 hb; replace BK830 := bb_ BK830 hb; replace BK845 := bb_ BK845 hb; replace HB := bst_ HB hb; clear hb) | ((with_reducible refine gate_callee (f := 22) rfl ?_); refine goesL_ (some 52) rfl rfl Try.func22 (by kernel_rfl) rfl #[.slice Ao19 t831.length co19, .int .i64 1] rfl tm_ ?_; (with_reducible refine (laws_markEdgeS.calls kj8 (fun k_ => some k_ = (.slice Ao19 t831.length co19 : Value).ownBlock) (.slice Ao19 t831.length co19) t831 1 t851 t852 w _ ?side1 ?side2 A41.out).mono ?_); (case side1 => repeat (first | (with_reducible first | exact HB.out | apply below_alloc | apply pw_below_drewN | apply below_drew1 | refine below_set ?_ GE830.out | refine below_set ?_ GE845.out) | exact HB.out)); (case side2 => exact Kd.R_tight rfl HO_8.out); rintro e w46 ⟨rfl, hy0, hb, hkp⟩; refine ⟨_, rfl, ?_⟩; replace HO_831001 := Aside0.mk (Kd.R_mono (ok' := fun k_ => no_ (.slice Ao19 t831.length co19) k_ ∧ no_ (.slice Ao24 t835.length co24) k_ ∧ no_ (.slice Ao44 t847.length co44) k_) (Kd.R_keptB (HO_831001.out) hkp (fun k_ hk_ hs_ => (hk_.1.1) hs_)) (fun k_ hk_ => ⟨hk_.1.1.1, hk_.1.1.2, hk_.1.2⟩)); replace HO_831002 := Aside0.mk (Kd.R_mono (ok' := fun k_ => no_ (.slice Ao25 t838.length co25) k_) (Kd.R_keptB ((Kd.R_apart' HO_831002.out (Kd.R_typed HO_8.out) (by decide))) hkp (fun k_ hk_ hs_ => (hk_.2) hs_)) (fun k_ hk_ => hk_.1.1)); replace HO_831003 := Aside0.mk (Kd.S_mono (ok' := fun k_ => no_ (.slice Ao16 t823.length co16) k_ ∧ no_ (.slice Ao25 t838.length co25) k_ ∧ no_ (.slice Ao26 t841.length co26) k_) (Kd.S_keptB ((Kd.S_apart' HO_831003.out (Kd.R_typed HO_8.out) (by decide))) hkp (fun k_ hk_ hs_ => (hk_.2) hs_)) (fun k_ hk_ => ⟨hk_.1.1.1, hk_.1.1.2.1, hk_.1.1.2.2⟩)); replace HO_846001 := Aside0.mk (Kd.R_mono (ok' := fun k_ => no_ (.slice Ao19 t831.length co19) k_ ∧ no_ (.slice Ao15 t820.length co15) k_ ∧ no_ (.slice Ao44 t847.length co44) k_) (Kd.R_keptB (HO_846001.out) hkp (fun k_ hk_ hs_ => (hk_.1.1) hs_)) (fun k_ hk_ => ⟨hk_.1.1.1, hk_.1.1.2, hk_.1.2⟩)); replace HO_846002 := Aside0.mk (Kd.R_mono (ok' := fun k_ => no_ (.slice Ao16 t823.length co16) k_) (Kd.R_keptB ((Kd.R_apart' HO_846002.out (Kd.R_typed HO_8.out) (by decide))) hkp (fun k_ hk_ hs_ => (hk_.2) hs_)) (fun k_ hk_ => hk_.1.1)); replace HO_846003 := Aside0.mk (Kd.S_mono (ok' := fun k_ => no_ (.slice Ao16 t823.length co16) k_ ∧ no_ (.slice Ao17 t826.length co17) k_ ∧ no_ (.slice Ao25 t838.length co25) k_) (Kd.S_keptB ((Kd.S_apart' HO_846003.out (Kd.R_typed HO_8.out) (by decide))) hkp (fun k_ hk_ hs_ => (hk_.2) hs_)) (fun k_ hk_ => ⟨hk_.1.1.1, hk_.1.1.2.1, hk_.1.1.2.2⟩)); replace BK830 := Aside0.mk (blk_kept (ba BK830.out) hkp (fun hs_ => (fun e_ => (Kd.R_ne HO_8.out BK830.out (by decide)) e_) hs_)); replace BK845 := Aside0.mk (blk_kept (ba BK845.out) hkp (fun hs_ => (fun e_ => (Kd.R_ne HO_8.out BK845.out (by decide)) e_) hs_)); replace HO_8 := Aside0.mk (Kd.R_reok rfl hy0 (fun k_ e_ => HO_8.out.1 k_ e_)); replace HO849 := Aside0.mk (Kd.R_mono (ok' := fun k_ => no_ (.slice Ao19 t831.length co19) k_ ∧ no_ (.slice Ao15 t820.length co15) k_ ∧ no_ (.slice Ao24 t835.length co24) k_) (Kd.R_keptB (HO849.out) hkp (fun k_ hk_ hs_ => (hk_.1.1.2) hs_)) (fun k_ hk_ => ⟨hk_.1.1.1.2, hk_.1.1.2, hk_.1.2⟩)); replace HB := Aside0.mk (hb); clear hb))
   (try simp only [Act.put, List.setIfInBounds_toArray, List.set_cons_zero, List.set_cons_succ])
   go_cut [65] (fun v65 wc => ∃ (kq : Nat) (x65_41 : Bool), v65 = .bool x65_41 ∧ Aside0 (laws_FnExactNewCampus.j1 kq a0 l1 t829 x65_41 t819 t820 t823 t826 t834 t835 t838 t841 = some r) ∧ Aside0 (kq ≤ kj8) ∧ Aside0 (Kd.R k84 84 wc w.heap.size (fun k_ => no_ (.slice Ao24 t835.length co24) k_) (.slice Ao15 t820.length co15) t820) ∧ Aside0 (Kd.R (Kd.int .i64) 3 wc w.heap.size (fun k_ => no_ (.slice Ao25 t838.length co25) k_) (.slice Ao16 t823.length co16) t823) ∧ Aside0 (Kd.S k118 118 wc w.heap.size (fun k_ => no_ (.slice Ao16 t823.length co16) k_ ∧ no_ (.slice Ao25 t838.length co25) k_ ∧ no_ (.slice Ao26 t841.length co26) k_) (.slice Ao17 t826.length co17) t826) ∧ Aside0 (Kd.R k84 84 wc w.heap.size (fun k_ => no_ (.slice Ao15 t820.length co15) k_) (.slice Ao24 t835.length co24) t835) ∧ Aside0 (Kd.R (Kd.int .i64) 3 wc w.heap.size (fun k_ => no_ (.slice Ao16 t823.length co16) k_) (.slice Ao25 t838.length co25) t838) ∧ Aside0 (Kd.S k118 118 wc w.heap.size (fun k_ => no_ (.slice Ao16 t823.length co16) k_ ∧ no_ (.slice Ao17 t826.length co17) k_ ∧ no_ (.slice Ao25 t838.length co25) k_) (.slice Ao26 t841.length co26) t841) ∧ Aside0 (wc.heap[gb830]? = some (.cells #[.int .i64 t819, (.slice Ao15 t820.length co15), (.slice Ao16 t823.length co16), (.slice Ao17 t826.length co17)] 61 (0, 0))) ∧ Aside0 (wc.heap[gb845]? = some (.cells #[.int .i64 t834, (.slice Ao24 t835.length co24), (.slice Ao25 t838.length co25), (.slice Ao26 t841.length co26)] 61 (0, 0))) ∧ Aside0 (Below w.heap.size w wc))
   case first =>
    have H := HC42.out
    clear HC42
    by_cases c47 : t851 < 0
    ·rw [if_pos c47] at H
     have c47b0 : decide (t851 < 0) = true := decide_eq_true c47
     clear c47
     (first | rw [c47b0] | (simp only [i64_w, i32_w]; rw [c47b0]) | skip)
     have H' := Aside0.mk H
     clear H
     go_wp2
     go_meet
     case rel => exact ⟨_, (true), (by first | rfl | (simp; done) | (simp [*]; done)), H', ⟨by have := HJ8.out; first | omega | exact Nat.le_refl _⟩, rm_ HO_831001 (fun _ hk => hk.2.1), ⟨ra HO_831002.out⟩, ⟨by (with_reducible repeat (first | apply Kd.S_alloc | apply Kd.S_drewN | apply Kd.S_drew)); exact HO_831003.out⟩, rm_ HO_846001 (fun _ hk => hk.2.1), ⟨ra HO_846002.out⟩, ⟨by (with_reducible repeat (first | apply Kd.S_alloc | apply Kd.S_drewN | apply Kd.S_drew)); exact HO_846003.out⟩, ⟨by (with_reducible repeat (first | refine blk_drewN ?_ _ | refine blk_drew ?_ | refine blk_alloc ?_ _)); exact BK830.out⟩, ⟨by (with_reducible repeat (first | refine blk_drewN ?_ _ | refine blk_drew ?_ | refine blk_alloc ?_ _)); exact BK845.out⟩, ⟨hB HB⟩⟩
    rw [if_neg c47] at H
    have c47b0 : decide (t851 < 0) = false := decide_eq_false c47
    clear c47
    (first | rw [c47b0] | (simp only [i64_w, i32_w]; rw [c47b0]) | skip)
    replace H := Option.bind_eq_some_iff.mp H
    obtain ⟨t853, A480, H⟩ := H
    replace H : (if t853 = true then (laws_FnExactNewCampus.j1 kj8 a0 l1 t829 (t844 != t829) t819 t820 t823 t826 t834 t835 t838 t841) else (laws_FnExactNewCampus.j1 kj8 a0 l1 t829 true t819 t820 t823 t826 t834 t835 t838 t841)) = some r := H
    have A48 := Aside0.mk A480
    clear A480
    by_cases c49 : t853 = true
    ·subst c49
     have H1 : (laws_FnExactNewCampus.j1 kj8 a0 l1 t829 (t844 != t829) t819 t820 t823 t826 t834 t835 t838 t841) = some r := by rw [if_pos rfl] at H; exact H
     clear H
     have H := H1
     clear H1
     have H' := Aside0.mk H
     clear H
     have hnb50 := NB845_830.out
     have hnc50 := NB830_845.out
     have hcz51_0 : w46.cell? ⟨gb845, 0, none⟩ = some (.int .i64 t834) := bc_ BK845 0
     have hcz51_1 : w46.cell? ⟨gb845, 1, none⟩ = some (.slice Ao24 t835.length co24) := bc_ BK845 1
     have hcz51_2 : w46.cell? ⟨gb845, 2, none⟩ = some (.slice Ao25 t838.length co25) := bc_ BK845 2
     have hcz51_3 : w46.cell? ⟨gb845, 3, none⟩ = some (.slice Ao26 t841.length co26) := bc_ BK845 3
     have hfz51_0 := blk_frozen BK845.out 0
     have hfz51_1 := blk_frozen BK845.out 1
     have hfz51_2 := blk_frozen BK845.out 2
     have hfz51_3 := blk_frozen BK845.out 3
     have hcz52_0 : w46.cell? ⟨gb830, 0, none⟩ = some (.int .i64 t819) := bc_ BK830 0
     have hcz52_1 : w46.cell? ⟨gb830, 1, none⟩ = some (.slice Ao15 t820.length co15) := bc_ BK830 1
     have hcz52_2 : w46.cell? ⟨gb830, 2, none⟩ = some (.slice Ao16 t823.length co16) := bc_ BK830 2
     have hcz52_3 : w46.cell? ⟨gb830, 3, none⟩ = some (.slice Ao17 t826.length co17) := bc_ BK830 3
     have hfz52_0 := blk_frozen BK830.out 0
     have hfz52_1 := blk_frozen BK830.out 1
     have hfz52_2 := blk_frozen BK830.out 2
     have hfz52_3 := blk_frozen BK830.out 3
     go_wp2_with (first | (go_at_call 47; (with_reducible refine (laws_eqCampus.calls kj8 t834 _ _ t835 _ _ t838 _ _ t841 t819 _ _ t820 _ _ t823 _ _ t826 true _ ?side1 ?side2 ?side3 ?side4 ?side5 ?side6 ?side7 ?side8 ?side9 ?side10 ?side11 ?side12 A48.out).mono ?_); (case side1 => exact ca (Kd.R_reads' HO_846001.out).2.2); (case side2 => exact (Kd.R_reads' HO_846001.out).2.1); (case side3 => exact ca (Kd.R_reads' HO_846002.out).2.2); (case side4 => exact (Kd.R_reads' HO_846002.out).2.1); (case side5 => exact ca (Kd.S_reads' HO_846003.out).2.2); (case side6 => exact (Kd.S_reads' HO_846003.out).2.1); (case side7 => exact ca (Kd.R_reads' HO_831001.out).2.2); (case side8 => exact (Kd.R_reads' HO_831001.out).2.1); (case side9 => exact ca (Kd.R_reads' HO_831002.out).2.2); (case side10 => exact (Kd.R_reads' HO_831002.out).2.1); (case side11 => exact ca (Kd.S_reads' HO_831003.out).2.2); (case side12 => exact (Kd.S_reads' HO_831003.out).2.1); rintro e w53 ⟨rfl, hb⟩; replace HO_8 := rb_ HO_8 hb; replace HO_831001 := rb_ HO_831001 hb; replace HO_831002 := rb_ HO_831002 hb; replace HO_831003 := Aside0.mk (Kd.S_below (sa HO_831003.out) hb); replace HO_846001 := rb_ HO_846001 hb; replace HO_846002 := rb_ HO_846002 hb; replace HO_846003 := Aside0.mk (Kd.S_below (sa HO_846003.out) hb); replace HO849 := rb_ HO849 hb; replace BK830 := bb_ BK830 hb; replace BK845 := bb_ BK845 hb; replace HB := bst_ HB hb; clear hb))
     go_meet
     case rel => exact ⟨_, ((t844 != t829)), (by first | rfl | (simp; done) | (simp [*]; done)), H', ⟨by have := HJ8.out; first | omega | exact Nat.le_refl _⟩, rm_ HO_831001 (fun _ hk => hk.2.1), ⟨ra HO_831002.out⟩, ⟨by (with_reducible repeat (first | apply Kd.S_alloc | apply Kd.S_drewN | apply Kd.S_drew)); exact HO_831003.out⟩, rm_ HO_846001 (fun _ hk => hk.2.1), ⟨ra HO_846002.out⟩, ⟨by (with_reducible repeat (first | apply Kd.S_alloc | apply Kd.S_drewN | apply Kd.S_drew)); exact HO_846003.out⟩, ⟨by (with_reducible repeat (first | refine blk_drewN ?_ _ | refine blk_drew ?_ | refine blk_alloc ?_ _)); exact BK830.out⟩, ⟨by (with_reducible repeat (first | refine blk_drewN ?_ _ | refine blk_drew ?_ | refine blk_alloc ?_ _)); exact BK845.out⟩, ⟨hB HB⟩⟩
    replace c49 := Bool.eq_false_iff.mpr c49
    subst c49
    have H1 : (laws_FnExactNewCampus.j1 kj8 a0 l1 t829 true t819 t820 t823 t826 t834 t835 t838 t841) = some r := by rw [if_neg (show ¬ (false = true) by decide)] at H; exact H
    clear H
    have H := H1
    clear H1
    have H' := Aside0.mk H
    clear H
    have hnb54 := NB845_830.out
    have hnc54 := NB830_845.out
    have hcz55_0 : w46.cell? ⟨gb845, 0, none⟩ = some (.int .i64 t834) := bc_ BK845 0
    have hcz55_1 : w46.cell? ⟨gb845, 1, none⟩ = some (.slice Ao24 t835.length co24) := bc_ BK845 1
    have hcz55_2 : w46.cell? ⟨gb845, 2, none⟩ = some (.slice Ao25 t838.length co25) := bc_ BK845 2
    have hcz55_3 : w46.cell? ⟨gb845, 3, none⟩ = some (.slice Ao26 t841.length co26) := bc_ BK845 3
    have hfz55_0 := blk_frozen BK845.out 0
    have hfz55_1 := blk_frozen BK845.out 1
    have hfz55_2 := blk_frozen BK845.out 2
    have hfz55_3 := blk_frozen BK845.out 3
    have hcz56_0 : w46.cell? ⟨gb830, 0, none⟩ = some (.int .i64 t819) := bc_ BK830 0
    have hcz56_1 : w46.cell? ⟨gb830, 1, none⟩ = some (.slice Ao15 t820.length co15) := bc_ BK830 1
    have hcz56_2 : w46.cell? ⟨gb830, 2, none⟩ = some (.slice Ao16 t823.length co16) := bc_ BK830 2
    have hcz56_3 : w46.cell? ⟨gb830, 3, none⟩ = some (.slice Ao17 t826.length co17) := bc_ BK830 3
    have hfz56_0 := blk_frozen BK830.out 0
    have hfz56_1 := blk_frozen BK830.out 1
    have hfz56_2 := blk_frozen BK830.out 2
    have hfz56_3 := blk_frozen BK830.out 3
    go_wp2_with (first | (go_at_call 47; (with_reducible refine (laws_eqCampus.calls kj8 t834 _ _ t835 _ _ t838 _ _ t841 t819 _ _ t820 _ _ t823 _ _ t826 false _ ?side1 ?side2 ?side3 ?side4 ?side5 ?side6 ?side7 ?side8 ?side9 ?side10 ?side11 ?side12 A48.out).mono ?_); (case side1 => exact ca (Kd.R_reads' HO_846001.out).2.2); (case side2 => exact (Kd.R_reads' HO_846001.out).2.1); (case side3 => exact ca (Kd.R_reads' HO_846002.out).2.2); (case side4 => exact (Kd.R_reads' HO_846002.out).2.1); (case side5 => exact ca (Kd.S_reads' HO_846003.out).2.2); (case side6 => exact (Kd.S_reads' HO_846003.out).2.1); (case side7 => exact ca (Kd.R_reads' HO_831001.out).2.2); (case side8 => exact (Kd.R_reads' HO_831001.out).2.1); (case side9 => exact ca (Kd.R_reads' HO_831002.out).2.2); (case side10 => exact (Kd.R_reads' HO_831002.out).2.1); (case side11 => exact ca (Kd.S_reads' HO_831003.out).2.2); (case side12 => exact (Kd.S_reads' HO_831003.out).2.1); rintro e w57 ⟨rfl, hb⟩; replace HO_8 := rb_ HO_8 hb; replace HO_831001 := rb_ HO_831001 hb; replace HO_831002 := rb_ HO_831002 hb; replace HO_831003 := Aside0.mk (Kd.S_below (sa HO_831003.out) hb); replace HO_846001 := rb_ HO_846001 hb; replace HO_846002 := rb_ HO_846002 hb; replace HO_846003 := Aside0.mk (Kd.S_below (sa HO_846003.out) hb); replace HO849 := rb_ HO849 hb; replace BK830 := bb_ BK830 hb; replace BK845 := bb_ BK845 hb; replace HB := bst_ HB hb; clear hb))
    go_meet
    case rel => exact ⟨_, (true), (by first | rfl | (simp; done) | (simp [*]; done)), H', ⟨by have := HJ8.out; first | omega | exact Nat.le_refl _⟩, rm_ HO_831001 (fun _ hk => hk.2.1), ⟨ra HO_831002.out⟩, ⟨by (with_reducible repeat (first | apply Kd.S_alloc | apply Kd.S_drewN | apply Kd.S_drew)); exact HO_831003.out⟩, rm_ HO_846001 (fun _ hk => hk.2.1), ⟨ra HO_846002.out⟩, ⟨by (with_reducible repeat (first | apply Kd.S_alloc | apply Kd.S_drewN | apply Kd.S_drew)); exact HO_846003.out⟩, ⟨by (with_reducible repeat (first | refine blk_drewN ?_ _ | refine blk_drew ?_ | refine blk_alloc ?_ _)); exact BK830.out⟩, ⟨by (with_reducible repeat (first | refine blk_drewN ?_ _ | refine blk_drew ?_ | refine blk_alloc ?_ _)); exact BK845.out⟩, ⟨hB HB⟩⟩
   case rest =>
    clear HC42
    try clear c1
    try clear c2
    try clear p2
    try clear c3
    try clear c4
    try clear c4b0
    try clear c5
    try clear c9
    try clear c15
    try clear c17
    try clear c20
    try clear c22
    try clear c28
    try clear c29
    try clear c33
    try clear c37
    try clear c40
    try clear c45
    try clear c46
    try clear c47
    try clear c47b0
    try clear c49
    try clear c50
    try clear c54
    try clear hcz14_0
    try clear hcz14_1
    try clear hcz14_2
    try clear hcz14_3
    try clear hcz23_0
    try clear hcz23_1
    try clear hcz23_2
    try clear hcz23_3
    try clear hcz30_0
    try clear hcz30_1
    try clear hcz30_2
    try clear hcz30_3
    try clear hcz31_0
    try clear hcz31_1
    try clear hcz31_2
    try clear hcz31_3
    try clear hcz34_0
    try clear hcz34_1
    try clear hcz34_2
    try clear hcz34_3
    try clear hcz35_0
    try clear hcz35_1
    try clear hcz35_2
    try clear hcz35_3
    try clear hcz51_0
    try clear hcz51_1
    try clear hcz51_2
    try clear hcz51_3
    try clear hcz52_0
    try clear hcz52_1
    try clear hcz52_2
    try clear hcz52_3
    try clear hcz55_0
    try clear hcz55_1
    try clear hcz55_2
    try clear hcz55_3
    try clear hcz56_0
    try clear hcz56_1
    try clear hcz56_2
    try clear hcz56_3
    try clear hfz14_0
    try clear hfz14_1
    try clear hfz14_2
    try clear hfz14_3
    try clear hfz23_0
    try clear hfz23_1
    try clear hfz23_2
    try clear hfz23_3
    try clear hfz30_0
    try clear hfz30_1
    try clear hfz30_2
    try clear hfz30_3
    try clear hfz31_0
    try clear hfz31_1
    try clear hfz31_2
    try clear hfz31_3
    try clear hfz34_0
    try clear hfz34_1
    try clear hfz34_2
    try clear hfz34_3
    try clear hfz35_0
    try clear hfz35_1
    try clear hfz35_2
    try clear hfz35_3
    try clear hfz51_0
    try clear hfz51_1
    try clear hfz51_2
    try clear hfz51_3
    try clear hfz52_0
    try clear hfz52_1
    try clear hfz52_2
    try clear hfz52_3
    try clear hfz55_0
    try clear hfz55_1
    try clear hfz55_2
    try clear hfz55_3
    try clear hfz56_0
    try clear hfz56_1
    try clear hfz56_2
    try clear hfz56_3
    try clear p2
    obtain ⟨kq, x65_41, rfl, HA, HJ41, HO_831001, HO_831002, HO_831003, HO_846001, HO_846002, HO_846003, BK830, BK845, HB⟩ := hcut
    cases kq with
    | zero => exact absurd HA.out (by simp [laws_FnExactNewCampus.j1])
    | succ kj41 =>
     have H := HA.out
     clear HA
     simp only [laws_FnExactNewCampus.j1] at H
     by_cases c58 : x65_41 = true
     ·subst c58
      have H1 : (some false) = some r := by rw [if_pos rfl] at H; exact H
      clear H
      have H := H1
      clear H1
      obtain rfl := Option.some.inj H
      go_wp2
      go_ret
      exact ⟨by first | rfl | (simp [errW_none, errW_some] <;> rfl) | (simp [*, errW_none, errW_some] <;> rfl), by repeat (first | (with_reducible first | exact HB.out | apply below_alloc | apply pw_below_drewN | apply below_drew1 | refine below_set ?_ GE830.out | refine below_set ?_ GE845.out) | exact HB.out)⟩
     replace c58 := Bool.eq_false_iff.mpr c58
     subst c58
     have H1 : ((laws_markCampus.f kj41 t834 t835 t838 t841 1).bind fun bt854 => ((laws_heldCampus.f kj41 t834 bt854.2.1 bt854.2.2 t841 1).bind fun t857 => (if t857 < 0 then (some false) else (if t857 = bt854.1 then ((laws_toEdgeS.f kj41 l1).bind fun t858 => ((impl_NewCampus.f kj41 a0 t858).bind fun bt861 => ((laws_eqCampus.f kj41 bt861.1 bt861.2.1 bt861.2.2.1 bt861.2.2.2.1 t819 t820 t823 t826).bind fun t873 => (if t873 = true then (laws_FnExactNewCampus.j2 kj41 bt854.1 (bt861.2.2.2.2 != t829) t834 bt854.2.1 bt854.2.2 t841) else (laws_FnExactNewCampus.j2 kj41 bt854.1 true t834 bt854.2.1 bt854.2.2 t841))))) else (some false))))) = some r := by rw [if_neg (show ¬ (false = true) by decide)] at H; exact H
     clear H
     have H := H1
     clear H1
     replace H := Option.bind_eq_some_iff.mp H
     obtain ⟨⟨t854, t855, t856⟩, A590, H⟩ := H
     replace H : ((laws_heldCampus.f kj41 t834 t855 t856 t841 1).bind fun t857 => (if t857 < 0 then (some false) else (if t857 = t854 then ((laws_toEdgeS.f kj41 l1).bind fun t858 => ((impl_NewCampus.f kj41 a0 t858).bind fun bt861 => ((laws_eqCampus.f kj41 bt861.1 bt861.2.1 bt861.2.2.1 bt861.2.2.2.1 t819 t820 t823 t826).bind fun t873 => (if t873 = true then (laws_FnExactNewCampus.j2 kj41 t854 (bt861.2.2.2.2 != t829) t834 t855 t856 t841) else (laws_FnExactNewCampus.j2 kj41 t854 true t834 t855 t856 t841))))) else (some false)))) = some r := H
     have A59 := Aside0.mk A590
     clear A590
     replace H := Option.bind_eq_some_iff.mp H
     obtain ⟨t857, A600, H⟩ := H
     replace H : (if t857 < 0 then (some false) else (if t857 = t854 then ((laws_toEdgeS.f kj41 l1).bind fun t858 => ((impl_NewCampus.f kj41 a0 t858).bind fun bt861 => ((laws_eqCampus.f kj41 bt861.1 bt861.2.1 bt861.2.2.1 bt861.2.2.2.1 t819 t820 t823 t826).bind fun t873 => (if t873 = true then (laws_FnExactNewCampus.j2 kj41 t854 (bt861.2.2.2.2 != t829) t834 t855 t856 t841) else (laws_FnExactNewCampus.j2 kj41 t854 true t834 t855 t856 t841))))) else (some false))) = some r := H
     have A60 := Aside0.mk A600
     clear A600
     by_cases c61 : t857 < 0
     ·rw [if_pos c61] at H
      have c61b0 : decide (t857 < 0) = true := decide_eq_true c61
      clear c61
      obtain rfl := Option.some.inj H
      have hnb62 := NB845_830.out
      have hnc62 := NB830_845.out
      have hcz63_0 : wc.cell? ⟨gb845, 0, none⟩ = some (.int .i64 t834) := bc_ BK845 0
      have hcz63_1 : wc.cell? ⟨gb845, 1, none⟩ = some (.slice Ao24 t835.length co24) := bc_ BK845 1
      have hcz63_2 : wc.cell? ⟨gb845, 2, none⟩ = some (.slice Ao25 t838.length co25) := bc_ BK845 2
      have hcz63_3 : wc.cell? ⟨gb845, 3, none⟩ = some (.slice Ao26 t841.length co26) := bc_ BK845 3
      have hfz63_0 := blk_frozen BK845.out 0
      have hfz63_1 := blk_frozen BK845.out 1
      have hfz63_2 := blk_frozen BK845.out 2
      have hfz63_3 := blk_frozen BK845.out 3
      go_wp2_with (first | ((with_reducible refine gate_callee (f := 48) rfl ?_); refine goesL_ (some 68) rfl rfl Try.func48 (by kernel_rfl) rfl #[.agg #[.int .i64 t834, .slice Ao24 t835.length co24, .slice Ao25 t838.length co25, .slice Ao26 t841.length co26], .int .i64 1] rfl tm_ ?_; (with_reducible refine (laws_markCampus.calls kj41 t834 (fun k_ => some k_ = (.slice Ao24 t835.length co24 : Value).ownBlock) (.slice Ao24 t835.length co24) t835 (fun k_ => some k_ = (.slice Ao25 t838.length co25 : Value).ownBlock) (.slice Ao25 t838.length co25) t838 _ _ t841 1 t854 t855 t856 w _ ?side1 ?side2 ?side3 ?side4 ?side5 A59.out).mono ?_); (case side1 => repeat (first | (with_reducible first | exact HB.out | apply below_alloc | apply pw_below_drewN | apply below_drew1 | refine below_set ?_ GE830.out | refine below_set ?_ GE845.out) | exact HB.out)); (case side2 => exact Kd.R_tight rfl HO_846001.out); (case side3 => exact Kd.R_tight rfl HO_846002.out); (case side4 => exact Kd.C_kept_own ((Kd.S_R (Kd.S_apart' HO_846003.out (Kd.R_typed HO_846001.out) (by decide)))) (fun k_ hk_ hs_ => Or.elim hs_ (fun e_ => (hk_.2) e_) (fun e_ => (hk_.1.2.2) e_))); (case side5 => exact (Kd.S_reads' HO_846003.out).2.1); rintro e w64 ⟨rfl, hy0, hy1, hb, hkp⟩; refine ⟨_, rfl, ?_⟩; replace HO_831001 := Aside0.mk (Kd.R_mono (ok' := fun k_ => no_ (.slice Ao24 t835.length co24) k_) (Kd.R_keptB ((Kd.R_apart' HO_831001.out (Kd.R_typed HO_846002.out) (by decide))) hkp (fun k_ hk_ hs_ => Or.elim hs_ (fun e_ => (hk_.1) e_) (fun e_ => (hk_.2) e_))) (fun k_ hk_ => hk_.1.1)); replace HO_831002 := Aside0.mk (Kd.R_mono (ok' := fun k_ => no_ (.slice Ao25 t838.length co25) k_) (Kd.R_keptB ((Kd.R_apart' HO_831002.out (Kd.R_typed HO_846001.out) (by decide))) hkp (fun k_ hk_ hs_ => Or.elim hs_ (fun e_ => (hk_.2) e_) (fun e_ => (hk_.1) e_))) (fun k_ hk_ => hk_.1.1)); replace HO_831003 := Aside0.mk (Kd.S_mono (ok' := fun k_ => no_ (.slice Ao16 t823.length co16) k_ ∧ no_ (.slice Ao25 t838.length co25) k_ ∧ no_ (.slice Ao26 t841.length co26) k_) (Kd.S_keptB ((Kd.S_apart' HO_831003.out (Kd.R_typed HO_846001.out) (by decide))) hkp (fun k_ hk_ hs_ => Or.elim hs_ (fun e_ => (hk_.2) e_) (fun e_ => (hk_.1.2.1) e_))) (fun k_ hk_ => ⟨hk_.1.1.1, hk_.1.1.2.1, hk_.1.1.2.2⟩)); replace HO_846003 := Aside0.mk (Kd.S_mono (ok' := fun k_ => no_ (.slice Ao16 t823.length co16) k_ ∧ no_ (.slice Ao17 t826.length co17) k_ ∧ no_ (.slice Ao25 t838.length co25) k_) (Kd.S_keptB ((Kd.S_apart' HO_846003.out (Kd.R_typed HO_846001.out) (by decide))) hkp (fun k_ hk_ hs_ => Or.elim hs_ (fun e_ => (hk_.2) e_) (fun e_ => (hk_.1.2.2) e_))) (fun k_ hk_ => ⟨hk_.1.1.1, hk_.1.1.2.1, hk_.1.1.2.2⟩)); replace BK830 := Aside0.mk (blk_kept (ba BK830.out) hkp (fun hs_ => Or.elim hs_ (kne_ HO_846001 BK830) (kne_ HO_846002 BK830))); replace BK845 := Aside0.mk (blk_kept (ba BK845.out) hkp (fun hs_ => Or.elim hs_ (kne_ HO_846001 BK845) (kne_ HO_846002 BK845))); replace HO_846001 := Aside0.mk (Kd.R_reok rfl hy0 (fun k_ e_ => HO_846001.out.1 k_ e_)); replace HO_846002 := Aside0.mk (Kd.R_reok rfl hy1 (fun k_ e_ => HO_846002.out.1 k_ e_)); replace HB := Aside0.mk (hb); clear hb; have hcz65_0 : w64.cell? ⟨gb845, 0, none⟩ = some (.int .i64 t834) := bc_ BK845 0; have hcz65_1 : w64.cell? ⟨gb845, 1, none⟩ = some (.slice Ao24 t835.length co24) := bc_ BK845 1; have hcz65_2 : w64.cell? ⟨gb845, 2, none⟩ = some (.slice Ao25 t838.length co25) := bc_ BK845 2; have hcz65_3 : w64.cell? ⟨gb845, 3, none⟩ = some (.slice Ao26 t841.length co26) := bc_ BK845 3; have hfz65_0 := blk_frozen BK845.out 0; have hfz65_1 := blk_frozen BK845.out 1; have hfz65_2 := blk_frozen BK845.out 2; have hfz65_3 := blk_frozen BK845.out 3) | ((with_reducible refine gate_callee (f := 49) rfl ?_); refine goesL_ (some 71) rfl rfl Try.func49 (by kernel_rfl) rfl #[.agg #[.int .i64 t834, .slice Ao24 t855.length co24, .slice Ao25 t856.length co25, .slice Ao26 t841.length co26], .int .i64 1] rfl (by (try simp only [List.map_toArray, List.map_cons, List.map_nil]); first | done | (rw [show t855.length = t835.length from (Kd.R_reads' HO_846001.out).1.symm, show t856.length = t838.length from (Kd.R_reads' HO_846002.out).1.symm] <;> rfl) | rfl | (simp only [List.length_drop, List.length_take]; rfl)) ?_; (with_reducible refine (laws_heldCampus.calls kj41 t834 _ _ t855 _ _ t856 _ _ t841 1 t857 _ ?side1 ?side2 ?side3 ?side4 ?side5 ?side6 A60.out).mono ?_); (case side1 => exact ca (Kd.R_reads' HO_846001.out).2.2); (case side2 => rw [show t855.length = t835.length from (Kd.R_reads' HO_846001.out).1.symm]; exact (Kd.R_reads' HO_846001.out).2.1); (case side3 => exact ca (Kd.R_reads' HO_846002.out).2.2); (case side4 => rw [show t856.length = t838.length from (Kd.R_reads' HO_846002.out).1.symm]; exact (Kd.R_reads' HO_846002.out).2.1); (case side5 => exact ca (Kd.S_reads' HO_846003.out).2.2); (case side6 => exact (Kd.S_reads' HO_846003.out).2.1); rintro e w66 ⟨rfl, hb⟩; refine ⟨_, rfl, ?_⟩; replace HO_831001 := rb_ HO_831001 hb; replace HO_831002 := rb_ HO_831002 hb; replace HO_831003 := Aside0.mk (Kd.S_below (sa HO_831003.out) hb); replace HO_846001 := rb_ HO_846001 hb; replace HO_846002 := rb_ HO_846002 hb; replace HO_846003 := Aside0.mk (Kd.S_below (sa HO_846003.out) hb); replace BK830 := bb_ BK830 hb; replace BK845 := bb_ BK845 hb; replace HB := bst_ HB hb; clear hb))
      go_ret
      exact ⟨by first | rfl | (simp [errW_none, errW_some] <;> rfl) | (simp [*, errW_none, errW_some] <;> rfl), by repeat (first | (with_reducible first | exact HB.out | apply below_alloc | apply pw_below_drewN | apply below_drew1 | refine below_set ?_ GE830.out | refine below_set ?_ GE845.out) | exact HB.out)⟩
     rw [if_neg c61] at H
     have c61b0 : decide (t857 < 0) = false := decide_eq_false c61
     clear c61
     by_cases c67 : t857 = t854
     rotate_left
     ·rw [if_neg c67] at H
      have c67b0 : (t857 == t854) = false := beq_eq_false_iff_ne.mpr c67
      have c67b1 : (t857 != t854) = true := bne_iff_ne.mpr c67
      obtain rfl := Option.some.inj H
      have hnb116 := NB845_830.out
      have hnc116 := NB830_845.out
      have hcz117_0 : wc.cell? ⟨gb845, 0, none⟩ = some (.int .i64 t834) := bc_ BK845 0
      have hcz117_1 : wc.cell? ⟨gb845, 1, none⟩ = some (.slice Ao24 t835.length co24) := bc_ BK845 1
      have hcz117_2 : wc.cell? ⟨gb845, 2, none⟩ = some (.slice Ao25 t838.length co25) := bc_ BK845 2
      have hcz117_3 : wc.cell? ⟨gb845, 3, none⟩ = some (.slice Ao26 t841.length co26) := bc_ BK845 3
      have hfz117_0 := blk_frozen BK845.out 0
      have hfz117_1 := blk_frozen BK845.out 1
      have hfz117_2 := blk_frozen BK845.out 2
      have hfz117_3 := blk_frozen BK845.out 3
      go_wp2_with (first | ((with_reducible refine gate_callee (f := 48) rfl ?_); refine goesL_ (some 68) rfl rfl Try.func48 (by kernel_rfl) rfl #[.agg #[.int .i64 t834, .slice Ao24 t835.length co24, .slice Ao25 t838.length co25, .slice Ao26 t841.length co26], .int .i64 1] rfl tm_ ?_; (with_reducible refine (laws_markCampus.calls kj41 t834 (fun k_ => some k_ = (.slice Ao24 t835.length co24 : Value).ownBlock) (.slice Ao24 t835.length co24) t835 (fun k_ => some k_ = (.slice Ao25 t838.length co25 : Value).ownBlock) (.slice Ao25 t838.length co25) t838 _ _ t841 1 t854 t855 t856 w _ ?side1 ?side2 ?side3 ?side4 ?side5 A59.out).mono ?_); (case side1 => repeat (first | (with_reducible first | exact HB.out | apply below_alloc | apply pw_below_drewN | apply below_drew1 | refine below_set ?_ GE830.out | refine below_set ?_ GE845.out) | exact HB.out)); (case side2 => exact Kd.R_tight rfl HO_846001.out); (case side3 => exact Kd.R_tight rfl HO_846002.out); (case side4 => exact Kd.C_kept_own ((Kd.S_R (Kd.S_apart' HO_846003.out (Kd.R_typed HO_846001.out) (by decide)))) (fun k_ hk_ hs_ => Or.elim hs_ (fun e_ => (hk_.2) e_) (fun e_ => (hk_.1.2.2) e_))); (case side5 => exact (Kd.S_reads' HO_846003.out).2.1); rintro e w118 ⟨rfl, hy0, hy1, hb, hkp⟩; refine ⟨_, rfl, ?_⟩; replace HO_831001 := Aside0.mk (Kd.R_mono (ok' := fun k_ => no_ (.slice Ao24 t835.length co24) k_) (Kd.R_keptB ((Kd.R_apart' HO_831001.out (Kd.R_typed HO_846002.out) (by decide))) hkp (fun k_ hk_ hs_ => Or.elim hs_ (fun e_ => (hk_.1) e_) (fun e_ => (hk_.2) e_))) (fun k_ hk_ => hk_.1.1)); replace HO_831002 := Aside0.mk (Kd.R_mono (ok' := fun k_ => no_ (.slice Ao25 t838.length co25) k_) (Kd.R_keptB ((Kd.R_apart' HO_831002.out (Kd.R_typed HO_846001.out) (by decide))) hkp (fun k_ hk_ hs_ => Or.elim hs_ (fun e_ => (hk_.2) e_) (fun e_ => (hk_.1) e_))) (fun k_ hk_ => hk_.1.1)); replace HO_831003 := Aside0.mk (Kd.S_mono (ok' := fun k_ => no_ (.slice Ao16 t823.length co16) k_ ∧ no_ (.slice Ao25 t838.length co25) k_ ∧ no_ (.slice Ao26 t841.length co26) k_) (Kd.S_keptB ((Kd.S_apart' HO_831003.out (Kd.R_typed HO_846001.out) (by decide))) hkp (fun k_ hk_ hs_ => Or.elim hs_ (fun e_ => (hk_.2) e_) (fun e_ => (hk_.1.2.1) e_))) (fun k_ hk_ => ⟨hk_.1.1.1, hk_.1.1.2.1, hk_.1.1.2.2⟩)); replace HO_846003 := Aside0.mk (Kd.S_mono (ok' := fun k_ => no_ (.slice Ao16 t823.length co16) k_ ∧ no_ (.slice Ao17 t826.length co17) k_ ∧ no_ (.slice Ao25 t838.length co25) k_) (Kd.S_keptB ((Kd.S_apart' HO_846003.out (Kd.R_typed HO_846001.out) (by decide))) hkp (fun k_ hk_ hs_ => Or.elim hs_ (fun e_ => (hk_.2) e_) (fun e_ => (hk_.1.2.2) e_))) (fun k_ hk_ => ⟨hk_.1.1.1, hk_.1.1.2.1, hk_.1.1.2.2⟩)); replace BK830 := Aside0.mk (blk_kept (ba BK830.out) hkp (fun hs_ => Or.elim hs_ (kne_ HO_846001 BK830) (kne_ HO_846002 BK830))); replace BK845 := Aside0.mk (blk_kept (ba BK845.out) hkp (fun hs_ => Or.elim hs_ (kne_ HO_846001 BK845) (kne_ HO_846002 BK845))); replace HO_846001 := Aside0.mk (Kd.R_reok rfl hy0 (fun k_ e_ => HO_846001.out.1 k_ e_)); replace HO_846002 := Aside0.mk (Kd.R_reok rfl hy1 (fun k_ e_ => HO_846002.out.1 k_ e_)); replace HB := Aside0.mk (hb); clear hb; have hcz119_0 : w118.cell? ⟨gb845, 0, none⟩ = some (.int .i64 t834) := bc_ BK845 0; have hcz119_1 : w118.cell? ⟨gb845, 1, none⟩ = some (.slice Ao24 t835.length co24) := bc_ BK845 1; have hcz119_2 : w118.cell? ⟨gb845, 2, none⟩ = some (.slice Ao25 t838.length co25) := bc_ BK845 2; have hcz119_3 : w118.cell? ⟨gb845, 3, none⟩ = some (.slice Ao26 t841.length co26) := bc_ BK845 3; have hfz119_0 := blk_frozen BK845.out 0; have hfz119_1 := blk_frozen BK845.out 1; have hfz119_2 := blk_frozen BK845.out 2; have hfz119_3 := blk_frozen BK845.out 3) | ((with_reducible refine gate_callee (f := 49) rfl ?_); refine goesL_ (some 71) rfl rfl Try.func49 (by kernel_rfl) rfl #[.agg #[.int .i64 t834, .slice Ao24 t855.length co24, .slice Ao25 t856.length co25, .slice Ao26 t841.length co26], .int .i64 1] rfl (by (try simp only [List.map_toArray, List.map_cons, List.map_nil]); first | done | (rw [show t855.length = t835.length from (Kd.R_reads' HO_846001.out).1.symm, show t856.length = t838.length from (Kd.R_reads' HO_846002.out).1.symm] <;> rfl) | rfl | (simp only [List.length_drop, List.length_take]; rfl)) ?_; (with_reducible refine (laws_heldCampus.calls kj41 t834 _ _ t855 _ _ t856 _ _ t841 1 t857 _ ?side1 ?side2 ?side3 ?side4 ?side5 ?side6 A60.out).mono ?_); (case side1 => exact ca (Kd.R_reads' HO_846001.out).2.2); (case side2 => rw [show t855.length = t835.length from (Kd.R_reads' HO_846001.out).1.symm]; exact (Kd.R_reads' HO_846001.out).2.1); (case side3 => exact ca (Kd.R_reads' HO_846002.out).2.2); (case side4 => rw [show t856.length = t838.length from (Kd.R_reads' HO_846002.out).1.symm]; exact (Kd.R_reads' HO_846002.out).2.1); (case side5 => exact ca (Kd.S_reads' HO_846003.out).2.2); (case side6 => exact (Kd.S_reads' HO_846003.out).2.1); rintro e w120 ⟨rfl, hb⟩; refine ⟨_, rfl, ?_⟩; replace HO_831001 := rb_ HO_831001 hb; replace HO_831002 := rb_ HO_831002 hb; replace HO_831003 := Aside0.mk (Kd.S_below (sa HO_831003.out) hb); replace HO_846001 := rb_ HO_846001 hb; replace HO_846002 := rb_ HO_846002 hb; replace HO_846003 := Aside0.mk (Kd.S_below (sa HO_846003.out) hb); replace BK830 := bb_ BK830 hb; replace BK845 := bb_ BK845 hb; replace HB := bst_ HB hb; clear hb))
      go_ret
      exact ⟨by first | rfl | (simp [errW_none, errW_some] <;> rfl) | (simp [*, errW_none, errW_some] <;> rfl), by repeat (first | (with_reducible first | exact HB.out | apply below_alloc | apply pw_below_drewN | apply below_drew1 | refine below_set ?_ GE830.out | refine below_set ?_ GE845.out) | exact HB.out)⟩
     rw [if_pos c67] at H
     have c67b0 : (t857 == t854) = true := beq_iff_eq.mpr c67
     have c67b1 : (t857 != t854) = false := bne_eq_false_iff_eq.mpr c67
     clear c67
     replace H := Option.bind_eq_some_iff.mp H
     obtain ⟨t858, A680, H⟩ := H
     replace H : ((impl_NewCampus.f kj41 a0 t858).bind fun bt861 => ((laws_eqCampus.f kj41 bt861.1 bt861.2.1 bt861.2.2.1 bt861.2.2.2.1 t819 t820 t823 t826).bind fun t873 => (if t873 = true then (laws_FnExactNewCampus.j2 kj41 t854 (bt861.2.2.2.2 != t829) t834 t855 t856 t841) else (laws_FnExactNewCampus.j2 kj41 t854 true t834 t855 t856 t841)))) = some r := H
     have A68 := Aside0.mk A680
     clear A680
     replace H := Option.bind_eq_some_iff.mp H
     obtain ⟨⟨t861, t862, t865, t868, t871⟩, A690, H⟩ := H
     replace H : ((laws_eqCampus.f kj41 t861 t862 t865 t868 t819 t820 t823 t826).bind fun t873 => (if t873 = true then (laws_FnExactNewCampus.j2 kj41 t854 (t871 != t829) t834 t855 t856 t841) else (laws_FnExactNewCampus.j2 kj41 t854 true t834 t855 t856 t841))) = some r := H
     have A69 := Aside0.mk A690
     clear A690
     have HC70 := Aside0.mk H
     clear H
     have hnb71 := NB845_830.out
     have hnc71 := NB830_845.out
     have hcz72_0 : wc.cell? ⟨gb845, 0, none⟩ = some (.int .i64 t834) := bc_ BK845 0
     have hcz72_1 : wc.cell? ⟨gb845, 1, none⟩ = some (.slice Ao24 t835.length co24) := bc_ BK845 1
     have hcz72_2 : wc.cell? ⟨gb845, 2, none⟩ = some (.slice Ao25 t838.length co25) := bc_ BK845 2
     have hcz72_3 : wc.cell? ⟨gb845, 3, none⟩ = some (.slice Ao26 t841.length co26) := bc_ BK845 3
     have hfz72_0 := blk_frozen BK845.out 0
     have hfz72_1 := blk_frozen BK845.out 1
     have hfz72_2 := blk_frozen BK845.out 2
     have hfz72_3 := blk_frozen BK845.out 3
     go_upto_region 25 with (first | ((with_reducible refine gate_callee (f := 48) rfl ?_); refine goesL_ (some 68) rfl rfl Try.func48 (by kernel_rfl) rfl #[.agg #[.int .i64 t834, .slice Ao24 t835.length co24, .slice Ao25 t838.length co25, .slice Ao26 t841.length co26], .int .i64 1] rfl tm_ ?_; (with_reducible refine (laws_markCampus.calls kj41 t834 (fun k_ => some k_ = (.slice Ao24 t835.length co24 : Value).ownBlock) (.slice Ao24 t835.length co24) t835 (fun k_ => some k_ = (.slice Ao25 t838.length co25 : Value).ownBlock) (.slice Ao25 t838.length co25) t838 _ _ t841 1 t854 t855 t856 w _ ?side1 ?side2 ?side3 ?side4 ?side5 A59.out).mono ?_); (case side1 => repeat (first | (with_reducible first | exact HB.out | apply below_alloc | apply pw_below_drewN | apply below_drew1 | refine below_set ?_ GE830.out | refine below_set ?_ GE845.out) | exact HB.out)); (case side2 => exact Kd.R_tight rfl HO_846001.out); (case side3 => exact Kd.R_tight rfl HO_846002.out); (case side4 => exact Kd.C_kept_own ((Kd.S_R (Kd.S_apart' HO_846003.out (Kd.R_typed HO_846001.out) (by decide)))) (fun k_ hk_ hs_ => Or.elim hs_ (fun e_ => (hk_.2) e_) (fun e_ => (hk_.1.2.2) e_))); (case side5 => exact (Kd.S_reads' HO_846003.out).2.1); rintro e w73 ⟨rfl, hy0, hy1, hb, hkp⟩; refine ⟨_, rfl, ?_⟩; replace HO_831001 := Aside0.mk (Kd.R_mono (ok' := fun k_ => no_ (.slice Ao24 t835.length co24) k_) (Kd.R_keptB ((Kd.R_apart' HO_831001.out (Kd.R_typed HO_846002.out) (by decide))) hkp (fun k_ hk_ hs_ => Or.elim hs_ (fun e_ => (hk_.1) e_) (fun e_ => (hk_.2) e_))) (fun k_ hk_ => hk_.1.1)); replace HO_831002 := Aside0.mk (Kd.R_mono (ok' := fun k_ => no_ (.slice Ao25 t838.length co25) k_) (Kd.R_keptB ((Kd.R_apart' HO_831002.out (Kd.R_typed HO_846001.out) (by decide))) hkp (fun k_ hk_ hs_ => Or.elim hs_ (fun e_ => (hk_.2) e_) (fun e_ => (hk_.1) e_))) (fun k_ hk_ => hk_.1.1)); replace HO_831003 := Aside0.mk (Kd.S_mono (ok' := fun k_ => no_ (.slice Ao16 t823.length co16) k_ ∧ no_ (.slice Ao25 t838.length co25) k_ ∧ no_ (.slice Ao26 t841.length co26) k_) (Kd.S_keptB ((Kd.S_apart' HO_831003.out (Kd.R_typed HO_846001.out) (by decide))) hkp (fun k_ hk_ hs_ => Or.elim hs_ (fun e_ => (hk_.2) e_) (fun e_ => (hk_.1.2.1) e_))) (fun k_ hk_ => ⟨hk_.1.1.1, hk_.1.1.2.1, hk_.1.1.2.2⟩)); replace HO_846003 := Aside0.mk (Kd.S_mono (ok' := fun k_ => no_ (.slice Ao16 t823.length co16) k_ ∧ no_ (.slice Ao17 t826.length co17) k_ ∧ no_ (.slice Ao25 t838.length co25) k_) (Kd.S_keptB ((Kd.S_apart' HO_846003.out (Kd.R_typed HO_846001.out) (by decide))) hkp (fun k_ hk_ hs_ => Or.elim hs_ (fun e_ => (hk_.2) e_) (fun e_ => (hk_.1.2.2) e_))) (fun k_ hk_ => ⟨hk_.1.1.1, hk_.1.1.2.1, hk_.1.1.2.2⟩)); replace BK830 := Aside0.mk (blk_kept (ba BK830.out) hkp (fun hs_ => Or.elim hs_ (kne_ HO_846001 BK830) (kne_ HO_846002 BK830))); replace BK845 := Aside0.mk (blk_kept (ba BK845.out) hkp (fun hs_ => Or.elim hs_ (kne_ HO_846001 BK845) (kne_ HO_846002 BK845))); replace HO_846001 := Aside0.mk (Kd.R_reok rfl hy0 (fun k_ e_ => HO_846001.out.1 k_ e_)); replace HO_846002 := Aside0.mk (Kd.R_reok rfl hy1 (fun k_ e_ => HO_846002.out.1 k_ e_)); replace HB := Aside0.mk (hb); clear hb; have hcz74_0 : w73.cell? ⟨gb845, 0, none⟩ = some (.int .i64 t834) := bc_ BK845 0; have hcz74_1 : w73.cell? ⟨gb845, 1, none⟩ = some (.slice Ao24 t835.length co24) := bc_ BK845 1; have hcz74_2 : w73.cell? ⟨gb845, 2, none⟩ = some (.slice Ao25 t838.length co25) := bc_ BK845 2; have hcz74_3 : w73.cell? ⟨gb845, 3, none⟩ = some (.slice Ao26 t841.length co26) := bc_ BK845 3; have hfz74_0 := blk_frozen BK845.out 0; have hfz74_1 := blk_frozen BK845.out 1; have hfz74_2 := blk_frozen BK845.out 2; have hfz74_3 := blk_frozen BK845.out 3) | ((with_reducible refine gate_callee (f := 49) rfl ?_); refine goesL_ (some 71) rfl rfl Try.func49 (by kernel_rfl) rfl #[.agg #[.int .i64 t834, .slice Ao24 t855.length co24, .slice Ao25 t856.length co25, .slice Ao26 t841.length co26], .int .i64 1] rfl (by (try simp only [List.map_toArray, List.map_cons, List.map_nil]); first | done | (rw [show t855.length = t835.length from (Kd.R_reads' HO_846001.out).1.symm, show t856.length = t838.length from (Kd.R_reads' HO_846002.out).1.symm] <;> rfl) | rfl | (simp only [List.length_drop, List.length_take]; rfl)) ?_; (with_reducible refine (laws_heldCampus.calls kj41 t834 _ _ t855 _ _ t856 _ _ t841 1 t857 _ ?side1 ?side2 ?side3 ?side4 ?side5 ?side6 A60.out).mono ?_); (case side1 => exact ca (Kd.R_reads' HO_846001.out).2.2); (case side2 => rw [show t855.length = t835.length from (Kd.R_reads' HO_846001.out).1.symm]; exact (Kd.R_reads' HO_846001.out).2.1); (case side3 => exact ca (Kd.R_reads' HO_846002.out).2.2); (case side4 => rw [show t856.length = t838.length from (Kd.R_reads' HO_846002.out).1.symm]; exact (Kd.R_reads' HO_846002.out).2.1); (case side5 => exact ca (Kd.S_reads' HO_846003.out).2.2); (case side6 => exact (Kd.S_reads' HO_846003.out).2.1); rintro e w75 ⟨rfl, hb⟩; refine ⟨_, rfl, ?_⟩; replace HO_831001 := rb_ HO_831001 hb; replace HO_831002 := rb_ HO_831002 hb; replace HO_831003 := Aside0.mk (Kd.S_below (sa HO_831003.out) hb); replace HO_846001 := rb_ HO_846001 hb; replace HO_846002 := rb_ HO_846002 hb; replace HO_846003 := Aside0.mk (Kd.S_below (sa HO_846003.out) hb); replace BK830 := bb_ BK830 hb; replace BK845 := bb_ BK845 hb; replace HB := bst_ HB hb; clear hb) | ((with_reducible refine gate_callee (f := 17) rfl ?_); refine goesL_ (some 80) rfl rfl Try.func17 (by kernel_rfl) rfl #[.slice A1 l1.length c1] rfl tm_ ?_; (with_reducible refine (laws_toEdgeS.calls kj41 _ _ l1 t858 _ ?side1 ?side2 A68.out).mono ?_); (case side1 => exact ca (Kd.C_below HR1.out HB.out)); (case side2 => exact HC1.out); rintro e w76 ⟨v859, rfl, ho0, hb⟩; refine ⟨_, rfl, ?_⟩; have HO860 := Aside0.mk (Kd.R_lower (Kd.R_new' (Kd.R_new' ho0 (rl_ HO_831001)) (rl_ HO_846001)) (below_size (hB HB))); replace HO_831001 := re_ HO_831001 ho0 hb; replace HO_831002 := rb_ HO_831002 hb; replace HO_831003 := Aside0.mk (Kd.S_below (sa HO_831003.out) hb); replace HO_846001 := re_ HO_846001 ho0 hb; replace HO_846002 := rb_ HO_846002 hb; replace HO_846003 := Aside0.mk (Kd.S_below (sa HO_846003.out) hb); replace BK830 := bb_ BK830 hb; replace BK845 := bb_ BK845 hb; replace HB := bst_ HB hb; clear hb ho0; obtain ⟨Ao77, co77, eo77⟩ := Kd.R_slice HO860.out; subst eo77) | ((with_reducible refine gate_callee (f := 46) rfl ?_); refine goesL_ (some 81) rfl rfl Try.func46 (by kernel_rfl) rfl #[.int .i64 a0, .slice Ao77 t858.length co77] rfl tm_ ?_; (with_reducible refine (impl_NewCampus.calls kj41 a0 _ _ t858 t861 t862 t865 t868 t871 _ ?side1 ?side2 A69.out).mono ?_); (case side1 => exact ca (Kd.R_reads' HO860.out).2.2); (case side2 => exact (Kd.R_reads' HO860.out).2.1); rintro e w78 ⟨v863, v866, v869, rfl, ho0, ho1, ho2, hb⟩; refine ⟨_, rfl, ?_⟩; have HO864 := Aside0.mk (Kd.R_lower (Kd.R_new' (Kd.R_new' (Kd.R_new' ho0 (rl_ HO_831001)) (rl_ HO_846001)) (rl_ HO860)) (below_size (hB HB))); have HO867 := Aside0.mk (Kd.R_lower (Kd.R_new' (Kd.R_new' ho1 (rl_ HO_831002)) (rl_ HO_846002)) (below_size (hB HB))); have HO870 := Aside0.mk (Kd.S_lower (Kd.S_new' (Kd.S_new' (Kd.S_new' (Kd.S_new' ho2 (rl_ HO_831002)) (Kd.S_lt (sa HO_831003.out))) (rl_ HO_846002)) (Kd.S_lt (sa HO_846003.out))) (below_size (hB HB))); replace HO_831001 := re_ HO_831001 ho0 hb; replace HO_831002 := re_ HO_831002 ho1 hb; replace HO_831003 := Aside0.mk (Kd.S_mono (Kd.S_told (Kd.S_told (Kd.S_old (sa HO_831003.out) hb) (Kd.R_base ho1)) (Kd.S_base ho2)) (fun _ h_ => h_.1)); replace HO_846001 := re_ HO_846001 ho0 hb; replace HO_846002 := re_ HO_846002 ho1 hb; replace HO_846003 := Aside0.mk (Kd.S_mono (Kd.S_told (Kd.S_told (Kd.S_old (sa HO_846003.out) hb) (Kd.R_base ho1)) (Kd.S_base ho2)) (fun _ h_ => h_.1)); replace HO860 := re_ HO860 ho0 hb; replace BK830 := bb_ BK830 hb; replace BK845 := bb_ BK845 hb; replace HB := bst_ HB hb; clear hb ho0 ho1 ho2) | ((with_reducible refine gate_dst (N := 14) rfl ?_); refine box_event ?hg (N := 14) ?hd (cs := #[.int .i64 0, .slice none 0 0, .slice none 0 0, .slice none 0 0]) (t := 61) ?hr ?_; (case hd => rfl); (case hg => rfl); (case hr => first | (go_simp; done) | (go_simp; rfl)); intro gb872 hg w79 hbox hb; have BK872 := Aside0.mk (hbox); have GW872 := gw_ hg HB; have GE872 := gw_ hg HB; have NB830_872 := nl_ hg BK830; have NB872_830 := ng_ hg BK830; have NB845_872 := nl_ hg BK845; have NB872_845 := ng_ hg BK845; replace HO_831001 := rb_ HO_831001 hb; replace HO_831002 := rb_ HO_831002 hb; replace HO_831003 := Aside0.mk (Kd.S_below (sa HO_831003.out) hb); replace HO_846001 := rb_ HO_846001 hb; replace HO_846002 := rb_ HO_846002 hb; replace HO_846003 := Aside0.mk (Kd.S_below (sa HO_846003.out) hb); replace HO860 := rb_ HO860 hb; replace HO864 := rb_ HO864 hb; replace HO867 := rb_ HO867 hb; replace HO870 := Aside0.mk (Kd.S_below (sa HO870.out) hb); replace BK830 := bb_ BK830 hb; replace BK845 := bb_ BK845 hb; replace HB := bst_ HB hb; clear hb hbox hg; have hnb80 := NB872_830.out; have hnc80 := NB830_872.out; have hnb81 := NB872_845.out; have hnc81 := NB845_872.out; have hcz82_0 : w79.cell? ⟨gb872, 0, none⟩ = some (.int .i64 0) := bc_ BK872 0; have hcz82_1 : w79.cell? ⟨gb872, 1, none⟩ = some (.slice none 0 0) := bc_ BK872 1; have hcz82_2 : w79.cell? ⟨gb872, 2, none⟩ = some (.slice none 0 0) := bc_ BK872 2; have hcz82_3 : w79.cell? ⟨gb872, 3, none⟩ = some (.slice none 0 0) := bc_ BK872 3; have hfz82_0 := blk_frozen BK872.out 0; have hfz82_1 := blk_frozen BK872.out 1; have hfz82_2 := blk_frozen BK872.out 2; have hfz82_3 := blk_frozen BK872.out 3; obtain ⟨Ao83, co83, eo83⟩ := Kd.R_slice HO864.out; subst eo83; obtain ⟨Ao84, co84, eo84⟩ := Kd.R_slice HO867.out; subst eo84; obtain ⟨Ao85, co85, eo85⟩ := Kd.S_slice HO870.out; subst eo85))
     (try simp only [Act.put, List.setIfInBounds_toArray, List.set_cons_zero, List.set_cons_succ])
     go_cut [92] (fun v92 wc => ∃ (kq : Nat) (x92_69 : Bool), v92 = .bool x92_69 ∧ Aside0 (laws_FnExactNewCampus.j2 kq t854 x92_69 t834 t855 t856 t841 = some r) ∧ Aside0 (kq ≤ kj41) ∧ Aside0 (Kd.R k84 84 wc w.heap.size (fun k_ => no_ (.slice Ao24 t835.length co24) k_ ∧ no_ (.slice Ao83 t862.length co83) k_) (.slice Ao15 t820.length co15) t820) ∧ Aside0 (Kd.R (Kd.int .i64) 3 wc w.heap.size (fun k_ => no_ (.slice Ao25 t838.length co25) k_ ∧ no_ (.slice Ao84 t865.length co84) k_) (.slice Ao16 t823.length co16) t823) ∧ Aside0 (Kd.S k118 118 wc w.heap.size (fun k_ => no_ (.slice Ao16 t823.length co16) k_ ∧ no_ (.slice Ao25 t838.length co25) k_ ∧ no_ (.slice Ao26 t841.length co26) k_ ∧ no_ (.slice Ao84 t865.length co84) k_ ∧ no_ (.slice Ao85 t868.length co85) k_) (.slice Ao17 t826.length co17) t826) ∧ Aside0 (Kd.R k84 84 wc w.heap.size (fun k_ => no_ (.slice Ao15 t820.length co15) k_ ∧ no_ (.slice Ao83 t862.length co83) k_) (.slice Ao24 t835.length co24) t855) ∧ Aside0 (Kd.R (Kd.int .i64) 3 wc w.heap.size (fun k_ => no_ (.slice Ao16 t823.length co16) k_ ∧ no_ (.slice Ao84 t865.length co84) k_) (.slice Ao25 t838.length co25) t856) ∧ Aside0 (Kd.S k118 118 wc w.heap.size (fun k_ => no_ (.slice Ao16 t823.length co16) k_ ∧ no_ (.slice Ao17 t826.length co17) k_ ∧ no_ (.slice Ao25 t838.length co25) k_ ∧ no_ (.slice Ao84 t865.length co84) k_ ∧ no_ (.slice Ao85 t868.length co85) k_) (.slice Ao26 t841.length co26) t841) ∧ Aside0 (Kd.R k84 84 wc w.heap.size (fun k_ => no_ (.slice Ao15 t820.length co15) k_ ∧ no_ (.slice Ao24 t835.length co24) k_) (.slice Ao83 t862.length co83) t862) ∧ Aside0 (Kd.R (Kd.int .i64) 3 wc w.heap.size (fun k_ => no_ (.slice Ao16 t823.length co16) k_ ∧ no_ (.slice Ao25 t838.length co25) k_) (.slice Ao84 t865.length co84) t865) ∧ Aside0 (Kd.S k118 118 wc w.heap.size (fun k_ => no_ (.slice Ao16 t823.length co16) k_ ∧ no_ (.slice Ao17 t826.length co17) k_ ∧ no_ (.slice Ao25 t838.length co25) k_ ∧ no_ (.slice Ao26 t841.length co26) k_ ∧ no_ (.slice Ao84 t865.length co84) k_) (.slice Ao85 t868.length co85) t868) ∧ Aside0 (wc.heap[gb830]? = some (.cells #[.int .i64 t819, (.slice Ao15 t820.length co15), (.slice Ao16 t823.length co16), (.slice Ao17 t826.length co17)] 61 (0, 0))) ∧ Aside0 (wc.heap[gb845]? = some (.cells #[.int .i64 t834, (.slice Ao24 t835.length co24), (.slice Ao25 t838.length co25), (.slice Ao26 t841.length co26)] 61 (0, 0))) ∧ Aside0 (wc.heap[gb872]? = some (.cells #[.int .i64 t861, (.slice Ao83 t862.length co83), (.slice Ao84 t865.length co84), (.slice Ao85 t868.length co85)] 61 (0, 0))) ∧ Aside0 (Below w.heap.size w wc))
     case first =>
      have H := HC70.out
      clear HC70
      replace H := Option.bind_eq_some_iff.mp H
      obtain ⟨t873, A860, H⟩ := H
      replace H : (if t873 = true then (laws_FnExactNewCampus.j2 kj41 t854 (t871 != t829) t834 t855 t856 t841) else (laws_FnExactNewCampus.j2 kj41 t854 true t834 t855 t856 t841)) = some r := H
      have A86 := Aside0.mk A860
      clear A860
      by_cases c87 : t873 = true
      ·subst c87
       have H1 : (laws_FnExactNewCampus.j2 kj41 t854 (t871 != t829) t834 t855 t856 t841) = some r := by rw [if_pos rfl] at H; exact H
       clear H
       have H := H1
       clear H1
       have H' := Aside0.mk H
       clear H
       have hnb88 := NB872_830.out
       have hnc88 := NB830_872.out
       have hnb89 := NB872_845.out
       have hnc89 := NB845_872.out
       have hcz90_0 : w79.cell? ⟨gb872, 0, none⟩ = some (.int .i64 0) := bc_ BK872 0
       have hcz90_1 : w79.cell? ⟨gb872, 1, none⟩ = some (.slice none 0 0) := bc_ BK872 1
       have hcz90_2 : w79.cell? ⟨gb872, 2, none⟩ = some (.slice none 0 0) := bc_ BK872 2
       have hcz90_3 : w79.cell? ⟨gb872, 3, none⟩ = some (.slice none 0 0) := bc_ BK872 3
       have hfz90_0 := blk_frozen BK872.out 0
       have hfz90_1 := blk_frozen BK872.out 1
       have hfz90_2 := blk_frozen BK872.out 2
       have hfz90_3 := blk_frozen BK872.out 3
       have hnb91 := NB830_845.out
       have hnc91 := NB845_830.out
       have hcz92_0 : w79.cell? ⟨gb830, 0, none⟩ = some (.int .i64 t819) := bc_ BK830 0
       have hcz92_1 : w79.cell? ⟨gb830, 1, none⟩ = some (.slice Ao15 t820.length co15) := bc_ BK830 1
       have hcz92_2 : w79.cell? ⟨gb830, 2, none⟩ = some (.slice Ao16 t823.length co16) := bc_ BK830 2
       have hcz92_3 : w79.cell? ⟨gb830, 3, none⟩ = some (.slice Ao17 t826.length co17) := bc_ BK830 3
       have hfz92_0 := blk_frozen BK830.out 0
       have hfz92_1 := blk_frozen BK830.out 1
       have hfz92_2 := blk_frozen BK830.out 2
       have hfz92_3 := blk_frozen BK830.out 3
       go_wp2_with (first | ((with_reducible refine gate_callee (f := 47) rfl ?_); refine goesL_ (some 86) rfl rfl Try.func47 (by kernel_rfl) rfl #[.agg #[.int .i64 t861, .slice Ao83 t862.length co83, .slice Ao84 t865.length co84, .slice Ao85 t868.length co85], .agg #[.int .i64 t819, .slice Ao15 t820.length co15, .slice Ao16 t823.length co16, .slice Ao17 t826.length co17]] rfl tm_ ?_; (with_reducible refine (laws_eqCampus.calls kj41 t861 _ _ t862 _ _ t865 _ _ t868 t819 _ _ t820 _ _ t823 _ _ t826 true _ ?side1 ?side2 ?side3 ?side4 ?side5 ?side6 ?side7 ?side8 ?side9 ?side10 ?side11 ?side12 A86.out).mono ?_); (case side1 => exact rr_ (fm4_ HO864 BK872)); (case side2 => exact (Kd.R_reads' HO864.out).2.1); (case side3 => exact rr_ (fm4_ HO867 BK872)); (case side4 => exact (Kd.R_reads' HO867.out).2.1); (case side5 => refine (Kd.S_reads' (e := 118) (base := w.heap.size) (ok := fun k_ => ((((no_ (.slice Ao84 t865.length co84) k_ ∧ no_ (.slice Ao16 t823.length co16) k_) ∧ no_ (.slice Ao17 t826.length co17) k_) ∧ no_ (.slice Ao25 t838.length co25) k_) ∧ no_ (.slice Ao26 t841.length co26) k_)) (n := t868.length) (c := co85) ?_).2.2; exact (sa (Kd.S_mono (Kd.S_far (p := ⟨gb872, 3, none⟩) (Kd.S_far (p := ⟨gb872, 2, none⟩) (Kd.S_far (p := ⟨gb872, 1, none⟩) (Kd.S_far (p := ⟨gb872, 0, none⟩) (Kd.S_types HO870.out BK872.out (by decide)) (fun _ hk => hk.2) (.int .i64 t861)) (fun _ hk => hk.2) (.slice Ao83 t862.length co83)) (fun _ hk => hk.2) (.slice Ao84 t865.length co84)) (fun _ hk => hk.2) (.slice Ao85 t868.length co85)) (fun _ h_ => h_.1)))); (case side6 => exact (Kd.S_reads' HO870.out).2.1); (case side7 => exact rr_ (fm4_ HO_831001 BK872)); (case side8 => exact (Kd.R_reads' HO_831001.out).2.1); (case side9 => exact rr_ (fm4_ HO_831002 BK872)); (case side10 => exact (Kd.R_reads' HO_831002.out).2.1); (case side11 => refine (Kd.S_reads' (e := 118) (base := w.heap.size) (ok := fun k_ => (((no_ (.slice Ao16 t823.length co16) k_ ∧ (no_ (.slice Ao25 t838.length co25) k_ ∧ no_ (.slice Ao26 t841.length co26) k_)) ∧ no_ (.slice Ao84 t865.length co84) k_) ∧ no_ (.slice Ao85 t868.length co85) k_)) (n := t826.length) (c := co17) ?_).2.2; exact (sa (Kd.S_mono (Kd.S_far (p := ⟨gb872, 3, none⟩) (Kd.S_far (p := ⟨gb872, 2, none⟩) (Kd.S_far (p := ⟨gb872, 1, none⟩) (Kd.S_far (p := ⟨gb872, 0, none⟩) (Kd.S_types HO_831003.out BK872.out (by decide)) (fun _ hk => hk.2) (.int .i64 t861)) (fun _ hk => hk.2) (.slice Ao83 t862.length co83)) (fun _ hk => hk.2) (.slice Ao84 t865.length co84)) (fun _ hk => hk.2) (.slice Ao85 t868.length co85)) (fun _ h_ => h_.1)))); (case side12 => exact (Kd.S_reads' HO_831003.out).2.1); rintro e w93 ⟨rfl, hb⟩; refine ⟨_, rfl, ?_⟩; replace HO_831001 := rb4_ HO_831001 BK872 hb; replace HO_831002 := rb4_ HO_831002 BK872 hb; replace HO_831003 := Aside0.mk (Kd.S_below (sa (Kd.S_mono (Kd.S_far (p := ⟨gb872, 3, none⟩) (Kd.S_far (p := ⟨gb872, 2, none⟩) (Kd.S_far (p := ⟨gb872, 1, none⟩) (Kd.S_far (p := ⟨gb872, 0, none⟩) (Kd.S_types HO_831003.out BK872.out (by decide)) (fun _ hk => hk.2) (.int .i64 t861)) (fun _ hk => hk.2) (.slice Ao83 t862.length co83)) (fun _ hk => hk.2) (.slice Ao84 t865.length co84)) (fun _ hk => hk.2) (.slice Ao85 t868.length co85)) (fun _ h_ => h_.1))) hb); replace HO_846001 := rb4_ HO_846001 BK872 hb; replace HO_846002 := rb4_ HO_846002 BK872 hb; replace HO_846003 := Aside0.mk (Kd.S_below (sa (Kd.S_mono (Kd.S_far (p := ⟨gb872, 3, none⟩) (Kd.S_far (p := ⟨gb872, 2, none⟩) (Kd.S_far (p := ⟨gb872, 1, none⟩) (Kd.S_far (p := ⟨gb872, 0, none⟩) (Kd.S_types HO_846003.out BK872.out (by decide)) (fun _ hk => hk.2) (.int .i64 t861)) (fun _ hk => hk.2) (.slice Ao83 t862.length co83)) (fun _ hk => hk.2) (.slice Ao84 t865.length co84)) (fun _ hk => hk.2) (.slice Ao85 t868.length co85)) (fun _ h_ => h_.1))) hb); replace HO860 := rb4_ HO860 BK872 hb; replace HO864 := rb4_ HO864 BK872 hb; replace HO867 := rb4_ HO867 BK872 hb; replace HO870 := Aside0.mk (Kd.S_below (sa (Kd.S_mono (Kd.S_far (p := ⟨gb872, 3, none⟩) (Kd.S_far (p := ⟨gb872, 2, none⟩) (Kd.S_far (p := ⟨gb872, 1, none⟩) (Kd.S_far (p := ⟨gb872, 0, none⟩) (Kd.S_types HO870.out BK872.out (by decide)) (fun _ hk => hk.2) (.int .i64 t861)) (fun _ hk => hk.2) (.slice Ao83 t862.length co83)) (fun _ hk => hk.2) (.slice Ao84 t865.length co84)) (fun _ hk => hk.2) (.slice Ao85 t868.length co85)) (fun _ h_ => h_.1))) hb); replace BK830 := Aside0.mk (blk_below (bx BK830) hb); replace BK845 := Aside0.mk (blk_below (bx BK845) hb); replace BK872 := Aside0.mk (blk_below (g := gb872) (o := .cells #[.int .i64 t861, .slice Ao83 t862.length co83, .slice Ao84 t865.length co84, .slice Ao85 t868.length co85] 61 (0, 0)) (by (with_reducible repeat (first | refine blk_drewN ?_ _ | refine blk_drew ?_ | refine blk_alloc ?_ _)); refine blk_put (cs := #[.int .i64 t861, .slice Ao83 t862.length co83, .slice Ao84 t865.length co84, .slice none 0 0]) ?_ 3 _ rfl; (with_reducible repeat (first | refine blk_drewN ?_ _ | refine blk_drew ?_ | refine blk_alloc ?_ _)); refine blk_put (cs := #[.int .i64 t861, .slice Ao83 t862.length co83, .slice none 0 0, .slice none 0 0]) ?_ 2 _ rfl; (with_reducible repeat (first | refine blk_drewN ?_ _ | refine blk_drew ?_ | refine blk_alloc ?_ _)); refine blk_put (cs := #[.int .i64 t861, .slice none 0 0, .slice none 0 0, .slice none 0 0]) ?_ 1 _ rfl; (with_reducible repeat (first | refine blk_drewN ?_ _ | refine blk_drew ?_ | refine blk_alloc ?_ _)); refine blk_put (cs := #[.int .i64 0, .slice none 0 0, .slice none 0 0, .slice none 0 0]) ?_ 0 _ rfl; (with_reducible repeat (first | refine blk_drewN ?_ _ | refine blk_drew ?_ | refine blk_alloc ?_ _)); exact BK872.out) hb); replace HB := bst_ HB hb; clear hb))
       go_meet
       case rel => exact ⟨_, ((t871 != t829)), (by first | rfl | (simp; done) | (simp [*]; done)), H', ⟨by have := HJ8.out; have := HJ41.out; first | omega | exact Nat.le_refl _⟩, rm_ HO_831001 (fun _ hk => ⟨hk.1.1, hk.2⟩), ⟨ra HO_831002.out⟩, ⟨by (with_reducible repeat (first | apply Kd.S_alloc | apply Kd.S_drewN | apply Kd.S_drew)); exact Kd.S_mono HO_831003.out (fun _ hk => ⟨hk.1.1.1, ⟨hk.1.1.2.1, ⟨hk.1.1.2.2, ⟨hk.1.2, hk.2⟩⟩⟩⟩)⟩, rm_ HO_846001 (fun _ hk => ⟨hk.1.1, hk.2⟩), ⟨ra HO_846002.out⟩, ⟨by (with_reducible repeat (first | apply Kd.S_alloc | apply Kd.S_drewN | apply Kd.S_drew)); exact Kd.S_mono HO_846003.out (fun _ hk => ⟨hk.1.1.1, ⟨hk.1.1.2.1, ⟨hk.1.1.2.2, ⟨hk.1.2, hk.2⟩⟩⟩⟩)⟩, rm_ HO864 (fun _ hk => ⟨hk.1.1.2, hk.1.2⟩), rm_ HO867 (fun _ hk => ⟨hk.1.2, hk.2⟩), ⟨by (with_reducible repeat (first | apply Kd.S_alloc | apply Kd.S_drewN | apply Kd.S_drew)); exact Kd.S_mono HO870.out (fun _ hk => ⟨hk.1.1.1.2, ⟨hk.1.1.2, ⟨hk.1.2, ⟨hk.2, hk.1.1.1.1⟩⟩⟩⟩)⟩, ⟨by (with_reducible repeat (first | refine blk_drewN ?_ _ | refine blk_drew ?_ | refine blk_alloc ?_ _)); exact BK830.out⟩, ⟨by (with_reducible repeat (first | refine blk_drewN ?_ _ | refine blk_drew ?_ | refine blk_alloc ?_ _)); exact BK845.out⟩, ⟨by (with_reducible repeat (first | refine blk_drewN ?_ _ | refine blk_drew ?_ | refine blk_alloc ?_ _)); exact BK872.out⟩, ⟨hB HB⟩⟩
      replace c87 := Bool.eq_false_iff.mpr c87
      subst c87
      have H1 : (laws_FnExactNewCampus.j2 kj41 t854 true t834 t855 t856 t841) = some r := by rw [if_neg (show ¬ (false = true) by decide)] at H; exact H
      clear H
      have H := H1
      clear H1
      have H' := Aside0.mk H
      clear H
      have hnb94 := NB872_830.out
      have hnc94 := NB830_872.out
      have hnb95 := NB872_845.out
      have hnc95 := NB845_872.out
      have hcz96_0 : w79.cell? ⟨gb872, 0, none⟩ = some (.int .i64 0) := bc_ BK872 0
      have hcz96_1 : w79.cell? ⟨gb872, 1, none⟩ = some (.slice none 0 0) := bc_ BK872 1
      have hcz96_2 : w79.cell? ⟨gb872, 2, none⟩ = some (.slice none 0 0) := bc_ BK872 2
      have hcz96_3 : w79.cell? ⟨gb872, 3, none⟩ = some (.slice none 0 0) := bc_ BK872 3
      have hfz96_0 := blk_frozen BK872.out 0
      have hfz96_1 := blk_frozen BK872.out 1
      have hfz96_2 := blk_frozen BK872.out 2
      have hfz96_3 := blk_frozen BK872.out 3
      have hnb97 := NB830_845.out
      have hnc97 := NB845_830.out
      have hcz98_0 : w79.cell? ⟨gb830, 0, none⟩ = some (.int .i64 t819) := bc_ BK830 0
      have hcz98_1 : w79.cell? ⟨gb830, 1, none⟩ = some (.slice Ao15 t820.length co15) := bc_ BK830 1
      have hcz98_2 : w79.cell? ⟨gb830, 2, none⟩ = some (.slice Ao16 t823.length co16) := bc_ BK830 2
      have hcz98_3 : w79.cell? ⟨gb830, 3, none⟩ = some (.slice Ao17 t826.length co17) := bc_ BK830 3
      have hfz98_0 := blk_frozen BK830.out 0
      have hfz98_1 := blk_frozen BK830.out 1
      have hfz98_2 := blk_frozen BK830.out 2
      have hfz98_3 := blk_frozen BK830.out 3
      go_wp2_with (first | ((with_reducible refine gate_callee (f := 47) rfl ?_); refine goesL_ (some 86) rfl rfl Try.func47 (by kernel_rfl) rfl #[.agg #[.int .i64 t861, .slice Ao83 t862.length co83, .slice Ao84 t865.length co84, .slice Ao85 t868.length co85], .agg #[.int .i64 t819, .slice Ao15 t820.length co15, .slice Ao16 t823.length co16, .slice Ao17 t826.length co17]] rfl tm_ ?_; (with_reducible refine (laws_eqCampus.calls kj41 t861 _ _ t862 _ _ t865 _ _ t868 t819 _ _ t820 _ _ t823 _ _ t826 false _ ?side1 ?side2 ?side3 ?side4 ?side5 ?side6 ?side7 ?side8 ?side9 ?side10 ?side11 ?side12 A86.out).mono ?_); (case side1 => exact rr_ (fm4_ HO864 BK872)); (case side2 => exact (Kd.R_reads' HO864.out).2.1); (case side3 => exact rr_ (fm4_ HO867 BK872)); (case side4 => exact (Kd.R_reads' HO867.out).2.1); (case side5 => refine (Kd.S_reads' (e := 118) (base := w.heap.size) (ok := fun k_ => ((((no_ (.slice Ao84 t865.length co84) k_ ∧ no_ (.slice Ao16 t823.length co16) k_) ∧ no_ (.slice Ao17 t826.length co17) k_) ∧ no_ (.slice Ao25 t838.length co25) k_) ∧ no_ (.slice Ao26 t841.length co26) k_)) (n := t868.length) (c := co85) ?_).2.2; exact (sa (Kd.S_mono (Kd.S_far (p := ⟨gb872, 3, none⟩) (Kd.S_far (p := ⟨gb872, 2, none⟩) (Kd.S_far (p := ⟨gb872, 1, none⟩) (Kd.S_far (p := ⟨gb872, 0, none⟩) (Kd.S_types HO870.out BK872.out (by decide)) (fun _ hk => hk.2) (.int .i64 t861)) (fun _ hk => hk.2) (.slice Ao83 t862.length co83)) (fun _ hk => hk.2) (.slice Ao84 t865.length co84)) (fun _ hk => hk.2) (.slice Ao85 t868.length co85)) (fun _ h_ => h_.1)))); (case side6 => exact (Kd.S_reads' HO870.out).2.1); (case side7 => exact rr_ (fm4_ HO_831001 BK872)); (case side8 => exact (Kd.R_reads' HO_831001.out).2.1); (case side9 => exact rr_ (fm4_ HO_831002 BK872)); (case side10 => exact (Kd.R_reads' HO_831002.out).2.1); (case side11 => refine (Kd.S_reads' (e := 118) (base := w.heap.size) (ok := fun k_ => (((no_ (.slice Ao16 t823.length co16) k_ ∧ (no_ (.slice Ao25 t838.length co25) k_ ∧ no_ (.slice Ao26 t841.length co26) k_)) ∧ no_ (.slice Ao84 t865.length co84) k_) ∧ no_ (.slice Ao85 t868.length co85) k_)) (n := t826.length) (c := co17) ?_).2.2; exact (sa (Kd.S_mono (Kd.S_far (p := ⟨gb872, 3, none⟩) (Kd.S_far (p := ⟨gb872, 2, none⟩) (Kd.S_far (p := ⟨gb872, 1, none⟩) (Kd.S_far (p := ⟨gb872, 0, none⟩) (Kd.S_types HO_831003.out BK872.out (by decide)) (fun _ hk => hk.2) (.int .i64 t861)) (fun _ hk => hk.2) (.slice Ao83 t862.length co83)) (fun _ hk => hk.2) (.slice Ao84 t865.length co84)) (fun _ hk => hk.2) (.slice Ao85 t868.length co85)) (fun _ h_ => h_.1)))); (case side12 => exact (Kd.S_reads' HO_831003.out).2.1); rintro e w99 ⟨rfl, hb⟩; refine ⟨_, rfl, ?_⟩; replace HO_831001 := rb4_ HO_831001 BK872 hb; replace HO_831002 := rb4_ HO_831002 BK872 hb; replace HO_831003 := Aside0.mk (Kd.S_below (sa (Kd.S_mono (Kd.S_far (p := ⟨gb872, 3, none⟩) (Kd.S_far (p := ⟨gb872, 2, none⟩) (Kd.S_far (p := ⟨gb872, 1, none⟩) (Kd.S_far (p := ⟨gb872, 0, none⟩) (Kd.S_types HO_831003.out BK872.out (by decide)) (fun _ hk => hk.2) (.int .i64 t861)) (fun _ hk => hk.2) (.slice Ao83 t862.length co83)) (fun _ hk => hk.2) (.slice Ao84 t865.length co84)) (fun _ hk => hk.2) (.slice Ao85 t868.length co85)) (fun _ h_ => h_.1))) hb); replace HO_846001 := rb4_ HO_846001 BK872 hb; replace HO_846002 := rb4_ HO_846002 BK872 hb; replace HO_846003 := Aside0.mk (Kd.S_below (sa (Kd.S_mono (Kd.S_far (p := ⟨gb872, 3, none⟩) (Kd.S_far (p := ⟨gb872, 2, none⟩) (Kd.S_far (p := ⟨gb872, 1, none⟩) (Kd.S_far (p := ⟨gb872, 0, none⟩) (Kd.S_types HO_846003.out BK872.out (by decide)) (fun _ hk => hk.2) (.int .i64 t861)) (fun _ hk => hk.2) (.slice Ao83 t862.length co83)) (fun _ hk => hk.2) (.slice Ao84 t865.length co84)) (fun _ hk => hk.2) (.slice Ao85 t868.length co85)) (fun _ h_ => h_.1))) hb); replace HO860 := rb4_ HO860 BK872 hb; replace HO864 := rb4_ HO864 BK872 hb; replace HO867 := rb4_ HO867 BK872 hb; replace HO870 := Aside0.mk (Kd.S_below (sa (Kd.S_mono (Kd.S_far (p := ⟨gb872, 3, none⟩) (Kd.S_far (p := ⟨gb872, 2, none⟩) (Kd.S_far (p := ⟨gb872, 1, none⟩) (Kd.S_far (p := ⟨gb872, 0, none⟩) (Kd.S_types HO870.out BK872.out (by decide)) (fun _ hk => hk.2) (.int .i64 t861)) (fun _ hk => hk.2) (.slice Ao83 t862.length co83)) (fun _ hk => hk.2) (.slice Ao84 t865.length co84)) (fun _ hk => hk.2) (.slice Ao85 t868.length co85)) (fun _ h_ => h_.1))) hb); replace BK830 := Aside0.mk (blk_below (bx BK830) hb); replace BK845 := Aside0.mk (blk_below (bx BK845) hb); replace BK872 := Aside0.mk (blk_below (g := gb872) (o := .cells #[.int .i64 t861, .slice Ao83 t862.length co83, .slice Ao84 t865.length co84, .slice Ao85 t868.length co85] 61 (0, 0)) (by (with_reducible repeat (first | refine blk_drewN ?_ _ | refine blk_drew ?_ | refine blk_alloc ?_ _)); refine blk_put (cs := #[.int .i64 t861, .slice Ao83 t862.length co83, .slice Ao84 t865.length co84, .slice none 0 0]) ?_ 3 _ rfl; (with_reducible repeat (first | refine blk_drewN ?_ _ | refine blk_drew ?_ | refine blk_alloc ?_ _)); refine blk_put (cs := #[.int .i64 t861, .slice Ao83 t862.length co83, .slice none 0 0, .slice none 0 0]) ?_ 2 _ rfl; (with_reducible repeat (first | refine blk_drewN ?_ _ | refine blk_drew ?_ | refine blk_alloc ?_ _)); refine blk_put (cs := #[.int .i64 t861, .slice none 0 0, .slice none 0 0, .slice none 0 0]) ?_ 1 _ rfl; (with_reducible repeat (first | refine blk_drewN ?_ _ | refine blk_drew ?_ | refine blk_alloc ?_ _)); refine blk_put (cs := #[.int .i64 0, .slice none 0 0, .slice none 0 0, .slice none 0 0]) ?_ 0 _ rfl; (with_reducible repeat (first | refine blk_drewN ?_ _ | refine blk_drew ?_ | refine blk_alloc ?_ _)); exact BK872.out) hb); replace HB := bst_ HB hb; clear hb))
      go_meet
      case rel => exact ⟨_, (true), (by first | rfl | (simp; done) | (simp [*]; done)), H', ⟨by have := HJ8.out; have := HJ41.out; first | omega | exact Nat.le_refl _⟩, rm_ HO_831001 (fun _ hk => ⟨hk.1.1, hk.2⟩), ⟨ra HO_831002.out⟩, ⟨by (with_reducible repeat (first | apply Kd.S_alloc | apply Kd.S_drewN | apply Kd.S_drew)); exact Kd.S_mono HO_831003.out (fun _ hk => ⟨hk.1.1.1, ⟨hk.1.1.2.1, ⟨hk.1.1.2.2, ⟨hk.1.2, hk.2⟩⟩⟩⟩)⟩, rm_ HO_846001 (fun _ hk => ⟨hk.1.1, hk.2⟩), ⟨ra HO_846002.out⟩, ⟨by (with_reducible repeat (first | apply Kd.S_alloc | apply Kd.S_drewN | apply Kd.S_drew)); exact Kd.S_mono HO_846003.out (fun _ hk => ⟨hk.1.1.1, ⟨hk.1.1.2.1, ⟨hk.1.1.2.2, ⟨hk.1.2, hk.2⟩⟩⟩⟩)⟩, rm_ HO864 (fun _ hk => ⟨hk.1.1.2, hk.1.2⟩), rm_ HO867 (fun _ hk => ⟨hk.1.2, hk.2⟩), ⟨by (with_reducible repeat (first | apply Kd.S_alloc | apply Kd.S_drewN | apply Kd.S_drew)); exact Kd.S_mono HO870.out (fun _ hk => ⟨hk.1.1.1.2, ⟨hk.1.1.2, ⟨hk.1.2, ⟨hk.2, hk.1.1.1.1⟩⟩⟩⟩)⟩, ⟨by (with_reducible repeat (first | refine blk_drewN ?_ _ | refine blk_drew ?_ | refine blk_alloc ?_ _)); exact BK830.out⟩, ⟨by (with_reducible repeat (first | refine blk_drewN ?_ _ | refine blk_drew ?_ | refine blk_alloc ?_ _)); exact BK845.out⟩, ⟨by (with_reducible repeat (first | refine blk_drewN ?_ _ | refine blk_drew ?_ | refine blk_alloc ?_ _)); exact BK872.out⟩, ⟨hB HB⟩⟩
     case rest =>
      clear HC70
      try clear c1
      try clear c2
      try clear p2
      try clear c3
      try clear c4
      try clear c4b0
      try clear c5
      try clear c6
      try clear c7
      try clear c8
      try clear c9
      try clear c15
      try clear c17
      try clear c20
      try clear c22
      try clear c28
      try clear c29
      try clear c33
      try clear c37
      try clear c40
      try clear c45
      try clear c46
      try clear c47
      try clear c47b0
      try clear c48
      try clear c49
      try clear c50
      try clear c54
      try clear c58
      try clear c61
      try clear c61b0
      try clear c62
      try clear c67
      try clear c67b0
      try clear c67b1
      try clear c71
      try clear c80
      try clear c81
      try clear c87
      try clear c88
      try clear c89
      try clear c91
      try clear c94
      try clear c95
      try clear c97
      try clear hcz14_0
      try clear hcz14_1
      try clear hcz14_2
      try clear hcz14_3
      try clear hcz23_0
      try clear hcz23_1
      try clear hcz23_2
      try clear hcz23_3
      try clear hcz30_0
      try clear hcz30_1
      try clear hcz30_2
      try clear hcz30_3
      try clear hcz31_0
      try clear hcz31_1
      try clear hcz31_2
      try clear hcz31_3
      try clear hcz34_0
      try clear hcz34_1
      try clear hcz34_2
      try clear hcz34_3
      try clear hcz35_0
      try clear hcz35_1
      try clear hcz35_2
      try clear hcz35_3
      try clear hcz51_0
      try clear hcz51_1
      try clear hcz51_2
      try clear hcz51_3
      try clear hcz52_0
      try clear hcz52_1
      try clear hcz52_2
      try clear hcz52_3
      try clear hcz55_0
      try clear hcz55_1
      try clear hcz55_2
      try clear hcz55_3
      try clear hcz56_0
      try clear hcz56_1
      try clear hcz56_2
      try clear hcz56_3
      try clear hcz63_0
      try clear hcz63_1
      try clear hcz63_2
      try clear hcz63_3
      try clear hcz65_0
      try clear hcz65_1
      try clear hcz65_2
      try clear hcz65_3
      try clear hcz72_0
      try clear hcz72_1
      try clear hcz72_2
      try clear hcz72_3
      try clear hcz74_0
      try clear hcz74_1
      try clear hcz74_2
      try clear hcz74_3
      try clear hcz82_0
      try clear hcz82_1
      try clear hcz82_2
      try clear hcz82_3
      try clear hcz90_0
      try clear hcz90_1
      try clear hcz90_2
      try clear hcz90_3
      try clear hcz92_0
      try clear hcz92_1
      try clear hcz92_2
      try clear hcz92_3
      try clear hcz96_0
      try clear hcz96_1
      try clear hcz96_2
      try clear hcz96_3
      try clear hcz98_0
      try clear hcz98_1
      try clear hcz98_2
      try clear hcz98_3
      try clear hfz14_0
      try clear hfz14_1
      try clear hfz14_2
      try clear hfz14_3
      try clear hfz23_0
      try clear hfz23_1
      try clear hfz23_2
      try clear hfz23_3
      try clear hfz30_0
      try clear hfz30_1
      try clear hfz30_2
      try clear hfz30_3
      try clear hfz31_0
      try clear hfz31_1
      try clear hfz31_2
      try clear hfz31_3
      try clear hfz34_0
      try clear hfz34_1
      try clear hfz34_2
      try clear hfz34_3
      try clear hfz35_0
      try clear hfz35_1
      try clear hfz35_2
      try clear hfz35_3
      try clear hfz51_0
      try clear hfz51_1
      try clear hfz51_2
      try clear hfz51_3
      try clear hfz52_0
      try clear hfz52_1
      try clear hfz52_2
      try clear hfz52_3
      try clear hfz55_0
      try clear hfz55_1
      try clear hfz55_2
      try clear hfz55_3
      try clear hfz56_0
      try clear hfz56_1
      try clear hfz56_2
      try clear hfz56_3
      try clear hfz63_0
      try clear hfz63_1
      try clear hfz63_2
      try clear hfz63_3
      try clear hfz65_0
      try clear hfz65_1
      try clear hfz65_2
      try clear hfz65_3
      try clear hfz72_0
      try clear hfz72_1
      try clear hfz72_2
      try clear hfz72_3
      try clear hfz74_0
      try clear hfz74_1
      try clear hfz74_2
      try clear hfz74_3
      try clear hfz82_0
      try clear hfz82_1
      try clear hfz82_2
      try clear hfz82_3
      try clear hfz90_0
      try clear hfz90_1
      try clear hfz90_2
      try clear hfz90_3
      try clear hfz92_0
      try clear hfz92_1
      try clear hfz92_2
      try clear hfz92_3
      try clear hfz96_0
      try clear hfz96_1
      try clear hfz96_2
      try clear hfz96_3
      try clear hfz98_0
      try clear hfz98_1
      try clear hfz98_2
      try clear hfz98_3
      try clear p2
      obtain ⟨kq, x92_69, rfl, HA, HJ69, HO_831001, HO_831002, HO_831003, HO_846001, HO_846002, HO_846003, HO_873001, HO_873002, HO_873003, BK830, BK845, BK872, HB⟩ := hcut
      have hl846001_69 := (Kd.R_reads' HO_846001.out).1
      rw [hl846001_69] at HO_846001
      (try simp only [hl846001_69])
      (try simp only [hl846001_69] at BK830)
      (try simp only [hl846001_69] at BK845)
      (try simp only [hl846001_69] at BK872)
      (try simp only [hl846001_69] at HO_831001)
      (try simp only [hl846001_69] at HO_831002)
      (try simp only [hl846001_69] at HO_831003)
      (try simp only [hl846001_69] at HO_846002)
      (try simp only [hl846001_69] at HO_846003)
      (try simp only [hl846001_69] at HO_873001)
      (try simp only [hl846001_69] at HO_873002)
      (try simp only [hl846001_69] at HO_873003)
      have hl846002_69 := (Kd.R_reads' HO_846002.out).1
      rw [hl846002_69] at HO_846002
      (try simp only [hl846002_69])
      (try simp only [hl846002_69] at BK830)
      (try simp only [hl846002_69] at BK845)
      (try simp only [hl846002_69] at BK872)
      (try simp only [hl846002_69] at HO_831001)
      (try simp only [hl846002_69] at HO_831002)
      (try simp only [hl846002_69] at HO_831003)
      (try simp only [hl846002_69] at HO_846001)
      (try simp only [hl846002_69] at HO_846003)
      (try simp only [hl846002_69] at HO_873001)
      (try simp only [hl846002_69] at HO_873002)
      (try simp only [hl846002_69] at HO_873003)
      cases kq with
      | zero => exact absurd HA.out (by simp [laws_FnExactNewCampus.j2])
      | succ kj69 =>
       have H := HA.out
       clear HA
       simp only [laws_FnExactNewCampus.j2] at H
       by_cases c100 : x92_69 = true
       ·subst c100
        have H1 : (some false) = some r := by rw [if_pos rfl] at H; exact H
        clear H
        have H := H1
        clear H1
        obtain rfl := Option.some.inj H
        go_wp2
        go_ret
        exact ⟨by first | rfl | (simp [errW_none, errW_some] <;> rfl) | (simp [*, errW_none, errW_some] <;> rfl), by repeat (first | (with_reducible first | exact HB.out | apply below_alloc | apply pw_below_drewN | apply below_drew1 | refine below_set ?_ GE830.out | refine below_set ?_ GE845.out | refine below_set ?_ GE872.out) | exact HB.out)⟩
       replace c100 := Bool.eq_false_iff.mpr c100
       subst c100
       have H1 : ((laws_heldCampus.f kj69 t834 t855 t856 t841 1).bind fun t874 => (if t874 < 0 then (some false) else (if t874 = t854 then (some true) else (some false)))) = some r := by rw [if_neg (show ¬ (false = true) by decide)] at H; exact H
       clear H
       have H := H1
       clear H1
       replace H := Option.bind_eq_some_iff.mp H
       obtain ⟨t874, A1010, H⟩ := H
       replace H : (if t874 < 0 then (some false) else (if t874 = t854 then (some true) else (some false))) = some r := H
       have A101 := Aside0.mk A1010
       clear A1010
       by_cases c102 : t874 < 0
       ·rw [if_pos c102] at H
        have c102b0 : decide (t874 < 0) = true := decide_eq_true c102
        clear c102
        obtain rfl := Option.some.inj H
        have hnb103 := NB845_830.out
        have hnc103 := NB830_845.out
        have hnb104 := NB845_872.out
        have hnc104 := NB872_845.out
        have hcz105_0 : wc.cell? ⟨gb845, 0, none⟩ = some (.int .i64 t834) := bc_ BK845 0
        have hcz105_1 : wc.cell? ⟨gb845, 1, none⟩ = some (.slice Ao24 t855.length co24) := bc_ BK845 1
        have hcz105_2 : wc.cell? ⟨gb845, 2, none⟩ = some (.slice Ao25 t856.length co25) := bc_ BK845 2
        have hcz105_3 : wc.cell? ⟨gb845, 3, none⟩ = some (.slice Ao26 t841.length co26) := bc_ BK845 3
        have hfz105_0 := blk_frozen BK845.out 0
        have hfz105_1 := blk_frozen BK845.out 1
        have hfz105_2 := blk_frozen BK845.out 2
        have hfz105_3 := blk_frozen BK845.out 3
        go_wp2_with (first | ((with_reducible refine gate_callee (f := 49) rfl ?_); refine goesL_ (some 95) rfl rfl Try.func49 (by kernel_rfl) rfl #[.agg #[.int .i64 t834, .slice Ao24 t855.length co24, .slice Ao25 t856.length co25, .slice Ao26 t841.length co26], .int .i64 1] rfl tm_ ?_; (with_reducible refine (laws_heldCampus.calls kj69 t834 _ _ t855 _ _ t856 _ _ t841 1 t874 _ ?side1 ?side2 ?side3 ?side4 ?side5 ?side6 A101.out).mono ?_); (case side1 => exact ca (Kd.R_reads' HO_846001.out).2.2); (case side2 => exact (Kd.R_reads' HO_846001.out).2.1); (case side3 => exact ca (Kd.R_reads' HO_846002.out).2.2); (case side4 => exact (Kd.R_reads' HO_846002.out).2.1); (case side5 => exact ca (Kd.S_reads' HO_846003.out).2.2); (case side6 => exact (Kd.S_reads' HO_846003.out).2.1); rintro e w106 ⟨rfl, hb⟩; refine ⟨_, rfl, ?_⟩; replace HO_831001 := rb_ HO_831001 hb; replace HO_831002 := rb_ HO_831002 hb; replace HO_831003 := Aside0.mk (Kd.S_below (sa HO_831003.out) hb); replace HO_846001 := rb_ HO_846001 hb; replace HO_846002 := rb_ HO_846002 hb; replace HO_846003 := Aside0.mk (Kd.S_below (sa HO_846003.out) hb); replace HO_873001 := rb_ HO_873001 hb; replace HO_873002 := rb_ HO_873002 hb; replace HO_873003 := Aside0.mk (Kd.S_below (sa HO_873003.out) hb); replace BK830 := bb_ BK830 hb; replace BK845 := bb_ BK845 hb; replace BK872 := bb_ BK872 hb; replace HB := bst_ HB hb; clear hb))
        go_ret
        exact ⟨by first | rfl | (simp [errW_none, errW_some] <;> rfl) | (simp [*, errW_none, errW_some] <;> rfl), by repeat (first | (with_reducible first | exact HB.out | apply below_alloc | apply pw_below_drewN | apply below_drew1 | refine below_set ?_ GE830.out | refine below_set ?_ GE845.out | refine below_set ?_ GE872.out) | exact HB.out)⟩
       rw [if_neg c102] at H
       have c102b0 : decide (t874 < 0) = false := decide_eq_false c102
       clear c102
       by_cases c107 : t874 = t854
       rotate_left
       ·rw [if_neg c107] at H
        have c107b0 : (t874 == t854) = false := beq_eq_false_iff_ne.mpr c107
        have c107b1 : (t874 != t854) = true := bne_iff_ne.mpr c107
        obtain rfl := Option.some.inj H
        have hnb112 := NB845_830.out
        have hnc112 := NB830_845.out
        have hnb113 := NB845_872.out
        have hnc113 := NB872_845.out
        have hcz114_0 : wc.cell? ⟨gb845, 0, none⟩ = some (.int .i64 t834) := bc_ BK845 0
        have hcz114_1 : wc.cell? ⟨gb845, 1, none⟩ = some (.slice Ao24 t855.length co24) := bc_ BK845 1
        have hcz114_2 : wc.cell? ⟨gb845, 2, none⟩ = some (.slice Ao25 t856.length co25) := bc_ BK845 2
        have hcz114_3 : wc.cell? ⟨gb845, 3, none⟩ = some (.slice Ao26 t841.length co26) := bc_ BK845 3
        have hfz114_0 := blk_frozen BK845.out 0
        have hfz114_1 := blk_frozen BK845.out 1
        have hfz114_2 := blk_frozen BK845.out 2
        have hfz114_3 := blk_frozen BK845.out 3
        go_wp2_with (first | ((with_reducible refine gate_callee (f := 49) rfl ?_); refine goesL_ (some 95) rfl rfl Try.func49 (by kernel_rfl) rfl #[.agg #[.int .i64 t834, .slice Ao24 t855.length co24, .slice Ao25 t856.length co25, .slice Ao26 t841.length co26], .int .i64 1] rfl tm_ ?_; (with_reducible refine (laws_heldCampus.calls kj69 t834 _ _ t855 _ _ t856 _ _ t841 1 t874 _ ?side1 ?side2 ?side3 ?side4 ?side5 ?side6 A101.out).mono ?_); (case side1 => exact ca (Kd.R_reads' HO_846001.out).2.2); (case side2 => exact (Kd.R_reads' HO_846001.out).2.1); (case side3 => exact ca (Kd.R_reads' HO_846002.out).2.2); (case side4 => exact (Kd.R_reads' HO_846002.out).2.1); (case side5 => exact ca (Kd.S_reads' HO_846003.out).2.2); (case side6 => exact (Kd.S_reads' HO_846003.out).2.1); rintro e w115 ⟨rfl, hb⟩; refine ⟨_, rfl, ?_⟩; replace HO_831001 := rb_ HO_831001 hb; replace HO_831002 := rb_ HO_831002 hb; replace HO_831003 := Aside0.mk (Kd.S_below (sa HO_831003.out) hb); replace HO_846001 := rb_ HO_846001 hb; replace HO_846002 := rb_ HO_846002 hb; replace HO_846003 := Aside0.mk (Kd.S_below (sa HO_846003.out) hb); replace HO_873001 := rb_ HO_873001 hb; replace HO_873002 := rb_ HO_873002 hb; replace HO_873003 := Aside0.mk (Kd.S_below (sa HO_873003.out) hb); replace BK830 := bb_ BK830 hb; replace BK845 := bb_ BK845 hb; replace BK872 := bb_ BK872 hb; replace HB := bst_ HB hb; clear hb))
        go_ret
        exact ⟨by first | rfl | (simp [errW_none, errW_some] <;> rfl) | (simp [*, errW_none, errW_some] <;> rfl), by repeat (first | (with_reducible first | exact HB.out | apply below_alloc | apply pw_below_drewN | apply below_drew1 | refine below_set ?_ GE830.out | refine below_set ?_ GE845.out | refine below_set ?_ GE872.out) | exact HB.out)⟩
       rw [if_pos c107] at H
       have c107b0 : (t874 == t854) = true := beq_iff_eq.mpr c107
       have c107b1 : (t874 != t854) = false := bne_eq_false_iff_eq.mpr c107
       clear c107
       obtain rfl := Option.some.inj H
       have hnb108 := NB845_830.out
       have hnc108 := NB830_845.out
       have hnb109 := NB845_872.out
       have hnc109 := NB872_845.out
       have hcz110_0 : wc.cell? ⟨gb845, 0, none⟩ = some (.int .i64 t834) := bc_ BK845 0
       have hcz110_1 : wc.cell? ⟨gb845, 1, none⟩ = some (.slice Ao24 t855.length co24) := bc_ BK845 1
       have hcz110_2 : wc.cell? ⟨gb845, 2, none⟩ = some (.slice Ao25 t856.length co25) := bc_ BK845 2
       have hcz110_3 : wc.cell? ⟨gb845, 3, none⟩ = some (.slice Ao26 t841.length co26) := bc_ BK845 3
       have hfz110_0 := blk_frozen BK845.out 0
       have hfz110_1 := blk_frozen BK845.out 1
       have hfz110_2 := blk_frozen BK845.out 2
       have hfz110_3 := blk_frozen BK845.out 3
       go_wp2_with (first | ((with_reducible refine gate_callee (f := 49) rfl ?_); refine goesL_ (some 95) rfl rfl Try.func49 (by kernel_rfl) rfl #[.agg #[.int .i64 t834, .slice Ao24 t855.length co24, .slice Ao25 t856.length co25, .slice Ao26 t841.length co26], .int .i64 1] rfl tm_ ?_; (with_reducible refine (laws_heldCampus.calls kj69 t834 _ _ t855 _ _ t856 _ _ t841 1 t874 _ ?side1 ?side2 ?side3 ?side4 ?side5 ?side6 A101.out).mono ?_); (case side1 => exact ca (Kd.R_reads' HO_846001.out).2.2); (case side2 => exact (Kd.R_reads' HO_846001.out).2.1); (case side3 => exact ca (Kd.R_reads' HO_846002.out).2.2); (case side4 => exact (Kd.R_reads' HO_846002.out).2.1); (case side5 => exact ca (Kd.S_reads' HO_846003.out).2.2); (case side6 => exact (Kd.S_reads' HO_846003.out).2.1); rintro e w111 ⟨rfl, hb⟩; refine ⟨_, rfl, ?_⟩; replace HO_831001 := rb_ HO_831001 hb; replace HO_831002 := rb_ HO_831002 hb; replace HO_831003 := Aside0.mk (Kd.S_below (sa HO_831003.out) hb); replace HO_846001 := rb_ HO_846001 hb; replace HO_846002 := rb_ HO_846002 hb; replace HO_846003 := Aside0.mk (Kd.S_below (sa HO_846003.out) hb); replace HO_873001 := rb_ HO_873001 hb; replace HO_873002 := rb_ HO_873002 hb; replace HO_873003 := Aside0.mk (Kd.S_below (sa HO_873003.out) hb); replace BK830 := bb_ BK830 hb; replace BK845 := bb_ BK845 hb; replace BK872 := bb_ BK872 hb; replace HB := bst_ HB hb; clear hb))
       go_ret
       exact ⟨by first | rfl | (simp [errW_none, errW_some] <;> rfl) | (simp [*, errW_none, errW_some] <;> rfl), by repeat (first | (with_reducible first | exact HB.out | apply below_alloc | apply pw_below_drewN | apply below_drew1 | refine below_set ?_ GE830.out | refine below_set ?_ GE845.out | refine below_set ?_ GE872.out) | exact HB.out)⟩

end Go.Proofs.Ytnoklicihomfoaa.P
