import Derived.Test.YtenedmcobknefaaF0
import Derived.Test.YtenedmcobknefaaF4
import Derived.Test.YtenedmcobknefaaF5
import Derived.Test.YtenedmcobknefaaF7
import Derived.Test.YtenedmcobknefaaF8
import Derived.Test.YtenedmcobknefaaF9
import Derived.Test.YtenedmcobknefaaF10
import Derived.Test.YtenedmcobknefaaF11
namespace Go.Proofs.Ytenedmcobknefaa.P
open Go.RowKit Go.Proofs.YtenedmcobknefaaW.PrintWords Go.Proofs.YtenedmcobknefaaW.PrintLast Go.Proofs.YtenedmcobknefaaW.PrintMore
attribute [local go_sem] max2_int min2_int max_two min_two max_three min_three max_four min_four   -- for this text's walks alone
set_option linter.unusedVariables false
set_option linter.unusedSimpArgs false
attribute [local go_sem high] eqA27

mutual
def laws_FnHits.j0 : Nat → List Int → Bool → Bool → Int → Int → Int → Int → List (S27) → Option (Bool)
 | 0, _, _, _, _, _, _, _, _ => none
 | k + 1, x1, x8, x80, x443000, x443001, x443002, x449000, x449001 => if x80 = true then (some false) else (if x8 = true then ((impl_PortOf.f k x449000 x449001 x443000).bind fun bt458 => ((impl_FlushPort.f k x449000 x449001 x443001).bind fun bt460 => ((impl_PortOf.f k bt460.1 bt460.2.1 x443000).bind fun bt466 => ((impl_DropOld.f k x449000 x449001 x443002 0).bind fun bt468 => ((impl_PortOf.f k bt468.1 bt468.2.1 x443000).bind fun bt474 => ((impl_GoodTable.f k x449000 x449001).bind fun t476 => (if t476 = true then (if bt458.2 = true then (if bt458.1 = x443001 then (if bt460.2.2 = true then (if bt466.2 = true then (laws_FnHits.j1 k x1 true x443000 x443001 x443002 bt468.1 bt468.2.1) else (if bt468.2.2 = true then (if bt474.2 = true then (laws_FnHits.j1 k x1 (bt474.1 != x443001) x443000 x443001 x443002 bt468.1 bt468.2.1) else (laws_FnHits.j1 k x1 true x443000 x443001 x443002 bt468.1 bt468.2.1)) else (laws_FnHits.j1 k x1 true x443000 x443001 x443002 bt468.1 bt468.2.1))) else (laws_FnHits.j1 k x1 true x443000 x443001 x443002 bt468.1 bt468.2.1)) else (laws_FnHits.j1 k x1 true x443000 x443001 x443002 bt468.1 bt468.2.1)) else (laws_FnHits.j1 k x1 true x443000 x443001 x443002 bt468.1 bt468.2.1)) else (laws_FnHits.j1 k x1 true x443000 x443001 x443002 bt468.1 bt468.2.1)))))))) else (laws_FnHits.j3 k x1))
def laws_FnHits.j3 : Nat → List Int → Option (Bool)
 | 0, _ => none
 | k + 1, x1 => (spec_DrawPortOf.f k x1).bind fun bt479 => ((impl_PortOf.f k bt479.1 bt479.2.1 bt479.2.2).bind fun bt485 => ((spec_PortOf.f k bt479.1 bt479.2.1 bt479.2.2).bind fun bt487 => ((spec_DrawDropOld.f k x1).bind fun bt489 => ((impl_DropOld.f k bt489.1 bt489.2.1 bt489.2.2.1 bt489.2.2.2).bind fun bt496 => ((spec_DropOld.f k bt489.1 bt489.2.1 bt489.2.2.1 bt489.2.2.2).bind fun bt502 => ((spec_DrawFlushPort.f k x1).bind fun bt508 => ((impl_FlushPort.f k bt508.1 bt508.2.1 bt508.2.2).bind fun bt514 => ((spec_FlushPort.f k bt508.1 bt508.2.1 bt508.2.2).bind fun bt520 => (if (bt485.2 == bt487.2) = true then (if bt485.1 = bt487.1 then (if (bt496.2.2 == bt502.2.2) = true then ((laws_sameTable.f k bt496.1 bt496.2.1 bt502.1 bt502.2.1).bind fun t526 => (if t526 = true then (if (bt514.2.2 == bt520.2.2) = true then ((laws_sameTable.f k bt514.1 bt514.2.1 bt520.1 bt520.2.1).bind fun t527 => (some t527)) else (some false)) else (some false))) else (some false)) else (some false)) else (some false))))))))))
def laws_FnHits.j1 : Nat → List Int → Bool → Int → Int → Int → Int → List (S27) → Option (Bool)
 | 0, _, _, _, _, _, _, _ => none
 | k + 1, x1, x150, x443000, x443001, x443002, x474000, x474001 => if x150 = true then (some false) else (laws_FnHits.l0 k x1 x474001 (x474001.length : Int) 0 x443000 x443001 x443002)
def laws_FnHits.l0 : Nat → List Int → List (S27) → Int → Int → Int → Int → Int → Option (Bool)
 | 0, _, _, _, _, _, _, _ => none
 | k + 1, x1, x152, x153, x154, x443000, x443001, x443002 => if x154 < x153 then (if 0 ≤ x154 then (if x154 < (x152.length : Int) then (if ((rd_T27 x152 x154).f2) < x443002 then (some false) else (laws_FnHits.l0 k x1 x152 x153 (wrap64 (x154 + 1)) x443000 x443001 x443002)) else (none)) else (none)) else (laws_FnHits.j3 k x1)
end
def laws_FnHits.f (k : Nat) (l0 : List Int) (l1 : List Int) : Option (Bool) := if (wrap64 ((l0.length : Int) + (l1.length : Int))) > 1048576 then (some true) else ((spec_DrawLearn.f k l0).bind fun bt434 => ((impl_Learn.f k bt434.1 bt434.2.1 bt434.2.2.1 bt434.2.2.2.1 bt434.2.2.2.2).bind fun bt443 => ((spec_Learn.f k bt434.1 bt434.2.1 bt434.2.2.1 bt434.2.2.2.1 bt434.2.2.2.2).bind fun bt449 => (if (bt443.2.2 != bt449.2.2) = true then (laws_FnHits.j0 k l1 bt443.2.2 true bt434.2.2.1 bt434.2.2.2.1 bt434.2.2.2.2 bt443.1 bt443.2.1) else ((laws_sameTable.f k bt443.1 bt443.2.1 bt449.1 bt449.2.1).bind fun t455 => (if t455 = true then ((impl_GoodTable.f k bt434.1 bt434.2.1).bind fun t456 => ((spec_GoodTable.f k bt434.1 bt434.2.1).bind fun t457 => (laws_FnHits.j0 k l1 bt443.2.2 (t456 != t457) bt434.2.2.1 bt434.2.2.2.1 bt434.2.2.2.2 bt443.1 bt443.2.1))) else (laws_FnHits.j0 k l1 bt443.2.2 true bt434.2.2.1 bt434.2.2.2.1 bt434.2.2.2.2 bt443.1 bt443.2.1)))))))
theorem laws_FnHits.mono_l : ∀ k, (∀ y0 y1 y2 y3 y4 y5 y6 y7, LeO (laws_FnHits.j0 k y0 y1 y2 y3 y4 y5 y6 y7) (laws_FnHits.j0 (k + 1) y0 y1 y2 y3 y4 y5 y6 y7)) ∧ (∀ y0, LeO (laws_FnHits.j3 k y0) (laws_FnHits.j3 (k + 1) y0)) ∧ (∀ y0 y1 y2 y3 y4 y5 y6, LeO (laws_FnHits.j1 k y0 y1 y2 y3 y4 y5 y6) (laws_FnHits.j1 (k + 1) y0 y1 y2 y3 y4 y5 y6)) ∧ (∀ y0 y1 y2 y3 y4 y5 y6, LeO (laws_FnHits.l0 k y0 y1 y2 y3 y4 y5 y6) (laws_FnHits.l0 (k + 1) y0 y1 y2 y3 y4 y5 y6))
 | 0 => ⟨fun _ _ _ _ _ _ _ _ r h => by simp [laws_FnHits.j0] at h, fun _ r h => by simp [laws_FnHits.j3] at h, fun _ _ _ _ _ _ _ r h => by simp [laws_FnHits.j1] at h, fun _ _ _ _ _ _ _ r h => by simp [laws_FnHits.l0] at h⟩
 | k + 1 => by
  obtain ⟨ih0, ih1, ih2, ih3⟩ := laws_FnHits.mono_l k
  refine ⟨?_, ?_, ?_, ?_⟩
  ·intro y0 y1 y2 y3 y4 y5 y6 y7
   unfold laws_FnHits.j0
   repeat' first
   | (with_reducible exact ih0 _ _ _ _ _ _ _ _)
   | (with_reducible exact ih1 _)
   | (with_reducible exact ih2 _ _ _ _ _ _ _)
   | (with_reducible exact ih3 _ _ _ _ _ _ _)
   | (with_reducible exact impl_DropOld.mono _ _ _ _ _)
   | (with_reducible exact impl_FlushPort.mono _ _ _ _)
   | (with_reducible exact impl_GoodTable.mono _ _ _)
   | (with_reducible exact impl_Learn.mono _ _ _ _ _ _)
   | (with_reducible exact impl_PortOf.mono _ _ _ _)
   | (with_reducible exact laws_sameTable.mono _ _ _ _ _)
   | (with_reducible exact spec_DrawDropOld.mono _ _)
   | (with_reducible exact spec_DrawFlushPort.mono _ _)
   | (with_reducible exact spec_DrawLearn.mono _ _)
   | (with_reducible exact spec_DrawPortOf.mono _ _)
   | (with_reducible exact spec_DropOld.mono _ _ _ _ _)
   | (with_reducible exact spec_FlushPort.mono _ _ _ _)
   | (with_reducible exact spec_GoodTable.mono _ _ _)
   | (with_reducible exact spec_Learn.mono _ _ _ _ _ _)
   | (with_reducible exact spec_PortOf.mono _ _ _ _)
   | with_reducible first | exact LeO.refl _ | exact LeO.none _ | refine LeO.ite ?_ ?_ | refine LeO.bind ?_ fun _ => ?_
  ·intro y0
   unfold laws_FnHits.j3
   repeat' first
   | (with_reducible exact ih0 _ _ _ _ _ _ _ _)
   | (with_reducible exact ih1 _)
   | (with_reducible exact ih2 _ _ _ _ _ _ _)
   | (with_reducible exact ih3 _ _ _ _ _ _ _)
   | (with_reducible exact impl_DropOld.mono _ _ _ _ _)
   | (with_reducible exact impl_FlushPort.mono _ _ _ _)
   | (with_reducible exact impl_GoodTable.mono _ _ _)
   | (with_reducible exact impl_Learn.mono _ _ _ _ _ _)
   | (with_reducible exact impl_PortOf.mono _ _ _ _)
   | (with_reducible exact laws_sameTable.mono _ _ _ _ _)
   | (with_reducible exact spec_DrawDropOld.mono _ _)
   | (with_reducible exact spec_DrawFlushPort.mono _ _)
   | (with_reducible exact spec_DrawLearn.mono _ _)
   | (with_reducible exact spec_DrawPortOf.mono _ _)
   | (with_reducible exact spec_DropOld.mono _ _ _ _ _)
   | (with_reducible exact spec_FlushPort.mono _ _ _ _)
   | (with_reducible exact spec_GoodTable.mono _ _ _)
   | (with_reducible exact spec_Learn.mono _ _ _ _ _ _)
   | (with_reducible exact spec_PortOf.mono _ _ _ _)
   | with_reducible first | exact LeO.refl _ | exact LeO.none _ | refine LeO.ite ?_ ?_ | refine LeO.bind ?_ fun _ => ?_
  ·intro y0 y1 y2 y3 y4 y5 y6
   unfold laws_FnHits.j1
   repeat' first
   | (with_reducible exact ih0 _ _ _ _ _ _ _ _)
   | (with_reducible exact ih1 _)
   | (with_reducible exact ih2 _ _ _ _ _ _ _)
   | (with_reducible exact ih3 _ _ _ _ _ _ _)
   | (with_reducible exact impl_DropOld.mono _ _ _ _ _)
   | (with_reducible exact impl_FlushPort.mono _ _ _ _)
   | (with_reducible exact impl_GoodTable.mono _ _ _)
   | (with_reducible exact impl_Learn.mono _ _ _ _ _ _)
   | (with_reducible exact impl_PortOf.mono _ _ _ _)
   | (with_reducible exact laws_sameTable.mono _ _ _ _ _)
   | (with_reducible exact spec_DrawDropOld.mono _ _)
   | (with_reducible exact spec_DrawFlushPort.mono _ _)
   | (with_reducible exact spec_DrawLearn.mono _ _)
   | (with_reducible exact spec_DrawPortOf.mono _ _)
   | (with_reducible exact spec_DropOld.mono _ _ _ _ _)
   | (with_reducible exact spec_FlushPort.mono _ _ _ _)
   | (with_reducible exact spec_GoodTable.mono _ _ _)
   | (with_reducible exact spec_Learn.mono _ _ _ _ _ _)
   | (with_reducible exact spec_PortOf.mono _ _ _ _)
   | with_reducible first | exact LeO.refl _ | exact LeO.none _ | refine LeO.ite ?_ ?_ | refine LeO.bind ?_ fun _ => ?_
  ·intro y0 y1 y2 y3 y4 y5 y6
   unfold laws_FnHits.l0
   repeat' first
   | (with_reducible exact ih0 _ _ _ _ _ _ _ _)
   | (with_reducible exact ih1 _)
   | (with_reducible exact ih2 _ _ _ _ _ _ _)
   | (with_reducible exact ih3 _ _ _ _ _ _ _)
   | (with_reducible exact impl_DropOld.mono _ _ _ _ _)
   | (with_reducible exact impl_FlushPort.mono _ _ _ _)
   | (with_reducible exact impl_GoodTable.mono _ _ _)
   | (with_reducible exact impl_Learn.mono _ _ _ _ _ _)
   | (with_reducible exact impl_PortOf.mono _ _ _ _)
   | (with_reducible exact laws_sameTable.mono _ _ _ _ _)
   | (with_reducible exact spec_DrawDropOld.mono _ _)
   | (with_reducible exact spec_DrawFlushPort.mono _ _)
   | (with_reducible exact spec_DrawLearn.mono _ _)
   | (with_reducible exact spec_DrawPortOf.mono _ _)
   | (with_reducible exact spec_DropOld.mono _ _ _ _ _)
   | (with_reducible exact spec_FlushPort.mono _ _ _ _)
   | (with_reducible exact spec_GoodTable.mono _ _ _)
   | (with_reducible exact spec_Learn.mono _ _ _ _ _ _)
   | (with_reducible exact spec_PortOf.mono _ _ _ _)
   | with_reducible first | exact LeO.refl _ | exact LeO.none _ | refine LeO.ite ?_ ?_ | refine LeO.bind ?_ fun _ => ?_
theorem laws_FnHits.mono : ∀ a0 a1 k, LeO (laws_FnHits.f k a0 a1) (laws_FnHits.f (k + 1) a0 a1) := by
 intro a0 a1 k
 obtain ⟨ih0, ih1, ih2, ih3⟩ := laws_FnHits.mono_l k
 unfold laws_FnHits.f
 repeat' first
   | (with_reducible exact ih0 _ _ _ _ _ _ _ _)
   | (with_reducible exact ih1 _)
   | (with_reducible exact ih2 _ _ _ _ _ _ _)
   | (with_reducible exact ih3 _ _ _ _ _ _ _)
   | (with_reducible exact impl_DropOld.mono _ _ _ _ _)
   | (with_reducible exact impl_FlushPort.mono _ _ _ _)
   | (with_reducible exact impl_GoodTable.mono _ _ _)
   | (with_reducible exact impl_Learn.mono _ _ _ _ _ _)
   | (with_reducible exact impl_PortOf.mono _ _ _ _)
   | (with_reducible exact laws_sameTable.mono _ _ _ _ _)
   | (with_reducible exact spec_DrawDropOld.mono _ _)
   | (with_reducible exact spec_DrawFlushPort.mono _ _)
   | (with_reducible exact spec_DrawLearn.mono _ _)
   | (with_reducible exact spec_DrawPortOf.mono _ _)
   | (with_reducible exact spec_DropOld.mono _ _ _ _ _)
   | (with_reducible exact spec_FlushPort.mono _ _ _ _)
   | (with_reducible exact spec_GoodTable.mono _ _ _)
   | (with_reducible exact spec_Learn.mono _ _ _ _ _ _)
   | (with_reducible exact spec_PortOf.mono _ _ _ _)
   | with_reducible first | exact LeO.refl _ | exact LeO.none _ | refine LeO.ite ?_ ?_ | refine LeO.bind ?_ fun _ => ?_
def laws_FnHits.T6 : Bool × List (List Nat × List Nat) := (true, [([], []), ([], []), ([0, 1], [0, 1]), ([2], [2]), ([3], [3]), ([3], [3]), ([4, 5, 3, 3], [3, 4, 5]), ([6, 3], [3, 6]), ([3, 7], [3, 7]), ([8, 6], [8]), ([9], [9]), ([10, 9, 9], [9, 10]), ([9], [9]), ([12, 11, 9], [9, 12]), ([11, 13, 9], [9, 11, 13]), ([9, 14], [9, 14])])
def laws_FnHits.B6 : List Nat := [0, 0, 3, 7, 15, 15, 63, 127, 255, 511, 1023, 2047, 1023, 8191, 16383, 32767]
theorem laws_FnHits.tab6 : rtab .any (opsOf Try.f3 6) = laws_FnHits.T6 := by kernel_rfl
theorem laws_FnHits.bits6 : waitsOk laws_FnHits.T6.2 laws_FnHits.B6 = true := by kernel_rfl
set_option maxHeartbeats 8000000 in
set_option maxRecDepth 100000 in
theorem laws_FnHits.calls (k : Nat) (A0 : Option Addr) (c0 : Nat) (l0 : List Int) (A1 : Option Addr) (c1 : Nat) (l1 : List Int) (r : Bool) (w : World) (hr0 : Kd.C (Kd.int .u8) w A0 l0.length l0) (hc0 : l0.length ≤ c0) (hr1 : Kd.C (Kd.int .u8) w A1 l1.length l1) (hc1 : l1.length ≤ c1) (h : laws_FnHits.f k l0 l1 = some r) :
  Calls Try.prog 3 #[.slice A0 l0.length c0, .slice A1 l1.length c1] w fun e w' => e = .returned (.bool r) ∧ Below w.heap.size w w' := by
 have hu25 := Try.underlying25
 have hu27 := Try.underlying27
 have HR0 := Aside0.mk hr0
 have HC0 := Aside0.mk hc0
 clear hr0 hc0
 have HR1 := Aside0.mk hr1
 have HC1 := Aside0.mk hc1
 clear hr1 hc1
 have HB := Aside0.mk (Below.refl w.heap.size w)
 have H : (if (wrap64 ((l0.length : Int) + (l1.length : Int))) > 1048576 then (some true) else ((spec_DrawLearn.f k l0).bind fun bt434 => ((impl_Learn.f k bt434.1 bt434.2.1 bt434.2.2.1 bt434.2.2.2.1 bt434.2.2.2.2).bind fun bt443 => ((spec_Learn.f k bt434.1 bt434.2.1 bt434.2.2.1 bt434.2.2.2.1 bt434.2.2.2.2).bind fun bt449 => (if (bt443.2.2 != bt449.2.2) = true then (laws_FnHits.j0 k l1 bt443.2.2 true bt434.2.2.1 bt434.2.2.2.1 bt434.2.2.2.2 bt443.1 bt443.2.1) else ((laws_sameTable.f k bt443.1 bt443.2.1 bt449.1 bt449.2.1).bind fun t455 => (if t455 = true then ((impl_GoodTable.f k bt434.1 bt434.2.1).bind fun t456 => ((spec_GoodTable.f k bt434.1 bt434.2.1).bind fun t457 => (laws_FnHits.j0 k l1 bt443.2.2 (t456 != t457) bt434.2.2.1 bt434.2.2.2.1 bt434.2.2.2.2 bt443.1 bt443.2.1))) else (laws_FnHits.j0 k l1 bt443.2.2 true bt434.2.2.1 bt434.2.2.2.1 bt434.2.2.2.2 bt443.1 bt443.2.1)))))))) = some r := h
 clear h
 by_cases c3 : (wrap64 ((l0.length : Int) + (l1.length : Int))) > 1048576
 ·rw [if_pos c3] at H
  have c3b0 : decide (1048576 < (wrap64 ((l0.length : Int) + (l1.length : Int)))) = true := decide_eq_true c3
  clear c3
  obtain rfl := Option.some.inj H
  as_aux_lemma =>
   go_enter Try.func3, Try.ntmps3
   go_wp2
   go_ret
   exact ⟨rt_, hB HB⟩
 rw [if_neg c3] at H
 have c3b0 : decide (1048576 < (wrap64 ((l0.length : Int) + (l1.length : Int)))) = false := decide_eq_false c3
 clear c3
 replace H := Option.bind_eq_some_iff.mp H
 obtain ⟨⟨t434, t435, t438, t439, t440⟩, A40, H⟩ := H
 replace H : ((impl_Learn.f k t434 t435 t438 t439 t440).bind fun bt443 => ((spec_Learn.f k t434 t435 t438 t439 t440).bind fun bt449 => (if (bt443.2.2 != bt449.2.2) = true then (laws_FnHits.j0 k l1 bt443.2.2 true t438 t439 t440 bt443.1 bt443.2.1) else ((laws_sameTable.f k bt443.1 bt443.2.1 bt449.1 bt449.2.1).bind fun t455 => (if t455 = true then ((impl_GoodTable.f k t434 t435).bind fun t456 => ((spec_GoodTable.f k t434 t435).bind fun t457 => (laws_FnHits.j0 k l1 bt443.2.2 (t456 != t457) t438 t439 t440 bt443.1 bt443.2.1))) else (laws_FnHits.j0 k l1 bt443.2.2 true t438 t439 t440 bt443.1 bt443.2.1)))))) = some r := H
 have A4 := Aside0.mk A40
 clear A40
 replace H := Option.bind_eq_some_iff.mp H
 obtain ⟨⟨t443, t444, t447⟩, A50, H⟩ := H
 replace H : ((spec_Learn.f k t434 t435 t438 t439 t440).bind fun bt449 => (if (t447 != bt449.2.2) = true then (laws_FnHits.j0 k l1 t447 true t438 t439 t440 t443 t444) else ((laws_sameTable.f k t443 t444 bt449.1 bt449.2.1).bind fun t455 => (if t455 = true then ((impl_GoodTable.f k t434 t435).bind fun t456 => ((spec_GoodTable.f k t434 t435).bind fun t457 => (laws_FnHits.j0 k l1 t447 (t456 != t457) t438 t439 t440 t443 t444))) else (laws_FnHits.j0 k l1 t447 true t438 t439 t440 t443 t444))))) = some r := H
 have A5 := Aside0.mk A50
 clear A50
 replace H := Option.bind_eq_some_iff.mp H
 obtain ⟨⟨t449, t450, t453⟩, A60, H⟩ := H
 replace H : (if (t447 != t453) = true then (laws_FnHits.j0 k l1 t447 true t438 t439 t440 t443 t444) else ((laws_sameTable.f k t443 t444 t449 t450).bind fun t455 => (if t455 = true then ((impl_GoodTable.f k t434 t435).bind fun t456 => ((spec_GoodTable.f k t434 t435).bind fun t457 => (laws_FnHits.j0 k l1 t447 (t456 != t457) t438 t439 t440 t443 t444))) else (laws_FnHits.j0 k l1 t447 true t438 t439 t440 t443 t444)))) = some r := H
 have A6 := Aside0.mk A60
 clear A60
 have HC7 := Aside0.mk H
 clear H
 as_aux_lemma =>
  go_enter Try.func3, Try.ntmps3
  as_aux_lemma =>
   go_upto_region 6 with (first | ((with_reducible refine gate_dst (N := 50) rfl ?_); refine goesL_ (some 50) rfl rfl Try.func4 (by kernel_rfl) rfl #[.slice A0 l0.length c0] rfl tm_ ?_; (with_reducible refine (spec_DrawLearn.calls k _ _ l0 t434 t435 t438 t439 t440 _ ?side1 ?side2 A4.out).mono ?_); (case side1 => exact ca HR0.out); (case side2 => exact HC0.out); rintro e w8 ⟨v436, rfl, ho0, hb⟩; refine ⟨_, rfl, ?_⟩; have HO437 := Aside0.mk (Kd.R_lower ho0 (below_size (hB HB))); replace HB := bst_ HB hb; clear hb ho0) | ((with_reducible refine gate_dst (N := 5) rfl ?_); refine box_event ?hg (N := 5) ?hd (cs := #[.int .i64 0, .slice none 0 0]) (t := 25) ?hr ?_; (case hd => rfl); (case hg => rfl); (case hr => first | (go_simp; done) | (go_simp; rfl)); intro gb441 hg w9 hbox hb; have BK441 := Aside0.mk (hbox); have GW441 := gw_ hg HB; have GE441 := gw_ hg HB; replace HO437 := rb_ HO437 hb; replace HB := bst_ HB hb; clear hb hbox hg) | ((with_reducible refine gate_dst (N := 6) rfl ?_); refine box_event ?hg (N := 6) ?hd (cs := #[.int .i64 0, .int .i64 0, .int .i64 0]) (t := 27) ?hr ?_; (case hd => rfl); (case hg => rfl); (case hr => first | (go_simp; done) | (go_simp; rfl)); intro gb442 hg w10 hbox hb; have BK442 := Aside0.mk (hbox); have GW442 := gw_ hg HB; have GE442 := gw_ hg HB; have NB441_442 := nl_ hg BK441; have NB442_441 := ng_ hg BK441; replace HO437 := Aside0.mk (Kd.R_below (Kd.R_elderB (ra HO437.out) gb442 (Nat.le_of_eq hg.symm)) hb); replace BK441 := bb_ BK441 hb; replace HB := bst_ HB hb; clear hb hbox hg; have hnb11 := NB441_442.out; have hnc11 := NB442_441.out; obtain ⟨hcz12_0, hcz12_1⟩ := bcs2_ BK441; have hfz12_0 := blk_frozen BK441.out 0; have hfz12_1 := blk_frozen BK441.out 1; obtain ⟨Ao13, co13, eo13⟩ := Kd.R_slice HO437.out; subst eo13; obtain ⟨hcz14_0, hcz14_1, hcz14_2⟩ := bcs3_ BK442; have hfz14_0 := blk_frozen BK442.out 0; have hfz14_1 := blk_frozen BK442.out 1; have hfz14_2 := blk_frozen BK442.out 2) | ((with_reducible refine gate_dst (N := 56) rfl ?_); refine goesL_ (some 56) rfl rfl Try.func5 (by kernel_rfl) rfl #[.agg #[.int .i64 t434, .slice Ao13 t435.length co13], .agg #[.int .i64 t438, .int .i64 t439, .int .i64 t440]] rfl tm_ ?_; (with_reducible refine (impl_Learn.calls k t434 _ _ t435 t438 t439 t440 t443 t444 t447 _ ?side1 ?side2 A5.out).mono ?_); (case side1 => exact rr_ (Kd.R_mono (Kd.R_mono (Kd.R_far (p := ⟨gb442, 2, none⟩) (Kd.R_far (p := ⟨gb442, 1, none⟩) (Kd.R_far (p := ⟨gb442, 0, none⟩) (Kd.R_far (p := ⟨gb441, 1, none⟩) (Kd.R_far (p := ⟨gb441, 0, none⟩) (Kd.R_mono (Kd.R_types HO437.out BK441.out (by decide)) (fun k_ hk => (⟨hk, hk.1.2⟩ : _ ∧ k_ ≠ gb442))) (fun _ hk => hk.1.2) (.int .i64 t434)) (fun _ hk => hk.1.2) (.slice Ao13 t435.length co13)) (fun _ hk => hk.2) (.int .i64 t438)) (fun _ hk => hk.2) (.int .i64 t439)) (fun _ hk => hk.2) (.int .i64 t440)) (fun _ h_ => h_.1)) (fun _ h_ => h_.1))); (case side2 => exact (Kd.R_reads' HO437.out).2.1); rintro e w15 ⟨v445, rfl, ho0, hb⟩; refine ⟨_, rfl, ?_⟩; have HO446 := Aside0.mk (Kd.R_lower (Kd.R_newB (Kd.R_new' ho0 (Kd.R_lt (ra (Kd.R_mono (Kd.R_mono (Kd.R_far (p := ⟨gb442, 2, none⟩) (Kd.R_far (p := ⟨gb442, 1, none⟩) (Kd.R_far (p := ⟨gb442, 0, none⟩) (Kd.R_far (p := ⟨gb441, 1, none⟩) (Kd.R_far (p := ⟨gb441, 0, none⟩) (Kd.R_mono (Kd.R_types HO437.out BK441.out (by decide)) (fun k_ hk => (⟨hk, hk.1.2⟩ : _ ∧ k_ ≠ gb442))) (fun _ hk => hk.1.2) (.int .i64 t434)) (fun _ hk => hk.1.2) (.slice Ao13 t435.length co13)) (fun _ hk => hk.2) (.int .i64 t438)) (fun _ hk => hk.2) (.int .i64 t439)) (fun _ hk => hk.2) (.int .i64 t440)) (fun _ h_ => h_.1)) (fun _ h_ => h_.1))))) (g := gb442) (o := .cells #[.int .i64 t438, .int .i64 t439, .int .i64 t440] 27 (0, 0)) (by (with_reducible repeat (first | refine blk_drewN ?_ _ | refine blk_drew ?_ | refine blk_alloc ?_ _)); refine blk_put (cs := #[.int .i64 t438, .int .i64 t439, .int .i64 0]) ?_ 2 _ rfl; (with_reducible repeat (first | refine blk_drewN ?_ _ | refine blk_drew ?_ | refine blk_alloc ?_ _)); refine blk_put (cs := #[.int .i64 t438, .int .i64 0, .int .i64 0]) ?_ 1 _ rfl; (with_reducible repeat (first | refine blk_drewN ?_ _ | refine blk_drew ?_ | refine blk_alloc ?_ _)); refine blk_put (cs := #[.int .i64 0, .int .i64 0, .int .i64 0]) ?_ 0 _ rfl; (with_reducible repeat (first | refine blk_drewN ?_ _ | refine blk_drew ?_ | refine blk_alloc ?_ _)); refine blk_far ?_ NB442_441.out _; (with_reducible repeat (first | refine blk_drewN ?_ _ | refine blk_drew ?_ | refine blk_alloc ?_ _)); refine blk_far ?_ NB442_441.out _; (with_reducible repeat (first | refine blk_drewN ?_ _ | refine blk_drew ?_ | refine blk_alloc ?_ _)); exact BK442.out)) (below_size (hB HB))); replace HO437 := Aside0.mk (Kd.R_elder' (ra (Kd.R_mono (Kd.R_mono (Kd.R_far (p := ⟨gb442, 2, none⟩) (Kd.R_far (p := ⟨gb442, 1, none⟩) (Kd.R_far (p := ⟨gb442, 0, none⟩) (Kd.R_far (p := ⟨gb441, 1, none⟩) (Kd.R_far (p := ⟨gb441, 0, none⟩) (Kd.R_mono (Kd.R_types HO437.out BK441.out (by decide)) (fun k_ hk => (⟨hk, hk.1.2⟩ : _ ∧ k_ ≠ gb442))) (fun _ hk => hk.1.2) (.int .i64 t434)) (fun _ hk => hk.1.2) (.slice Ao13 t435.length co13)) (fun _ hk => hk.2) (.int .i64 t438)) (fun _ hk => hk.2) (.int .i64 t439)) (fun _ hk => hk.2) (.int .i64 t440)) (fun _ h_ => h_.1)) (fun _ h_ => h_.1))) (Kd.R_base ho0) hb); replace BK441 := Aside0.mk (blk_below (g := gb441) (o := .cells #[.int .i64 t434, .slice Ao13 t435.length co13] 25 (0, 0)) (by (with_reducible repeat (first | refine blk_drewN ?_ _ | refine blk_drew ?_ | refine blk_alloc ?_ _)); refine blk_far ?_ NB441_442.out _; (with_reducible repeat (first | refine blk_drewN ?_ _ | refine blk_drew ?_ | refine blk_alloc ?_ _)); refine blk_far ?_ NB441_442.out _; (with_reducible repeat (first | refine blk_drewN ?_ _ | refine blk_drew ?_ | refine blk_alloc ?_ _)); refine blk_far ?_ NB441_442.out _; (with_reducible repeat (first | refine blk_drewN ?_ _ | refine blk_drew ?_ | refine blk_alloc ?_ _)); refine blk_put (cs := #[.int .i64 t434, .slice none 0 0]) ?_ 1 _ rfl; (with_reducible repeat (first | refine blk_drewN ?_ _ | refine blk_drew ?_ | refine blk_alloc ?_ _)); refine blk_put (cs := #[.int .i64 0, .slice none 0 0]) ?_ 0 _ rfl; (with_reducible repeat (first | refine blk_drewN ?_ _ | refine blk_drew ?_ | refine blk_alloc ?_ _)); exact BK441.out) hb); replace BK442 := Aside0.mk (blk_below (g := gb442) (o := .cells #[.int .i64 t438, .int .i64 t439, .int .i64 t440] 27 (0, 0)) (by (with_reducible repeat (first | refine blk_drewN ?_ _ | refine blk_drew ?_ | refine blk_alloc ?_ _)); refine blk_put (cs := #[.int .i64 t438, .int .i64 t439, .int .i64 0]) ?_ 2 _ rfl; (with_reducible repeat (first | refine blk_drewN ?_ _ | refine blk_drew ?_ | refine blk_alloc ?_ _)); refine blk_put (cs := #[.int .i64 t438, .int .i64 0, .int .i64 0]) ?_ 1 _ rfl; (with_reducible repeat (first | refine blk_drewN ?_ _ | refine blk_drew ?_ | refine blk_alloc ?_ _)); refine blk_put (cs := #[.int .i64 0, .int .i64 0, .int .i64 0]) ?_ 0 _ rfl; (with_reducible repeat (first | refine blk_drewN ?_ _ | refine blk_drew ?_ | refine blk_alloc ?_ _)); refine blk_far ?_ NB442_441.out _; (with_reducible repeat (first | refine blk_drewN ?_ _ | refine blk_drew ?_ | refine blk_alloc ?_ _)); refine blk_far ?_ NB442_441.out _; (with_reducible repeat (first | refine blk_drewN ?_ _ | refine blk_drew ?_ | refine blk_alloc ?_ _)); exact BK442.out) hb); replace HB := bst_ HB hb; clear hb ho0) | ((with_reducible refine gate_dst (N := 7) rfl ?_); refine box_event ?hg (N := 7) ?hd (cs := #[.int .i64 0, .slice none 0 0]) (t := 25) ?hr ?_; (case hd => rfl); (case hg => rfl); (case hr => first | (go_simp; done) | (go_simp; rfl)); intro gb448 hg w16 hbox hb; have BK448 := Aside0.mk (hbox); have GW448 := gw_ hg HB; have GE448 := gw_ hg HB; have NB441_448 := nl_ hg BK441; have NB448_441 := ng_ hg BK441; have NB442_448 := nl_ hg BK442; have NB448_442 := ng_ hg BK442; replace HO437 := rb_ HO437 hb; replace HO446 := rb_ HO446 hb; replace BK441 := bb_ BK441 hb; replace BK442 := bb_ BK442 hb; replace HB := bst_ HB hb; clear hb hbox hg; have hnb17 := NB448_441.out; have hnc17 := NB441_448.out; have hnb18 := NB448_442.out; have hnc18 := NB442_448.out; obtain ⟨hcz19_0, hcz19_1⟩ := bcs2_ BK448; have hfz19_0 := blk_frozen BK448.out 0; have hfz19_1 := blk_frozen BK448.out 1; obtain ⟨Ao20, co20, eo20⟩ := Kd.R_slice HO446.out; subst eo20; obtain ⟨hcz21_0, hcz21_1⟩ := bcs2_ BK441; have hfz21_0 := blk_frozen BK441.out 0; have hfz21_1 := blk_frozen BK441.out 1; obtain ⟨hcz22_0, hcz22_1, hcz22_2⟩ := bcs3_ BK442; have hfz22_0 := blk_frozen BK442.out 0; have hfz22_1 := blk_frozen BK442.out 1; have hfz22_2 := blk_frozen BK442.out 2) | ((with_reducible refine gate_dst (N := 62) rfl ?_); refine goesL_ (some 62) rfl rfl Try.func6 (by kernel_rfl) rfl #[.agg #[.int .i64 t434, .slice Ao13 t435.length co13], .agg #[.int .i64 t438, .int .i64 t439, .int .i64 t440]] rfl tm_ ?_; (with_reducible refine (spec_Learn.calls k t434 _ _ t435 t438 t439 t440 t449 t450 t453 _ ?side1 ?side2 A6.out).mono ?_); (case side1 => exact rr_ (fm2_ HO437 BK448)); (case side2 => exact (Kd.R_reads' HO437.out).2.1); rintro e w23 ⟨v451, rfl, ho0, hb⟩; refine ⟨_, rfl, ?_⟩; have HO452 := Aside0.mk (Kd.R_lower (Kd.R_newB (Kd.R_new' (Kd.R_new' ho0 (Kd.R_lt (ra (fm2_ HO437 BK448)))) (Kd.R_lt (ra (fm2_ HO446 BK448)))) (g := gb442) (o := .cells #[.int .i64 t438, .int .i64 t439, .int .i64 t440] 27 (0, 0)) (bx BK442)) (below_size (hB HB))); replace HO437 := Aside0.mk (Kd.R_elder' (ra (fm2_ HO437 BK448)) (Kd.R_base ho0) hb); replace HO446 := Aside0.mk (Kd.R_elder' (ra (fm2_ HO446 BK448)) (Kd.R_base ho0) hb); replace BK441 := Aside0.mk (blk_below (bx BK441) hb); replace BK442 := Aside0.mk (blk_below (bx BK442) hb); replace BK448 := Aside0.mk (blk_below (g := gb448) (o := .cells #[.int .i64 t443, .slice Ao20 t444.length co20] 25 (0, 0)) (by (with_reducible repeat (first | refine blk_drewN ?_ _ | refine blk_drew ?_ | refine blk_alloc ?_ _)); refine blk_put (cs := #[.int .i64 t443, .slice none 0 0]) ?_ 1 _ rfl; (with_reducible repeat (first | refine blk_drewN ?_ _ | refine blk_drew ?_ | refine blk_alloc ?_ _)); refine blk_put (cs := #[.int .i64 0, .slice none 0 0]) ?_ 0 _ rfl; (with_reducible repeat (first | refine blk_drewN ?_ _ | refine blk_drew ?_ | refine blk_alloc ?_ _)); exact BK448.out) hb); replace HB := bst_ HB hb; clear hb ho0) | ((with_reducible refine gate_dst (N := 9) rfl ?_); refine box_event ?hg (N := 9) ?hd (cs := #[.int .i64 0, .slice none 0 0]) (t := 25) ?hr ?_; (case hd => rfl); (case hg => rfl); (case hr => first | (go_simp; done) | (go_simp; rfl)); intro gb454 hg w24 hbox hb; have BK454 := Aside0.mk (hbox); have GW454 := gw_ hg HB; have GE454 := gw_ hg HB; have NB441_454 := nl_ hg BK441; have NB454_441 := ng_ hg BK441; have NB442_454 := nl_ hg BK442; have NB454_442 := ng_ hg BK442; have NB448_454 := nl_ hg BK448; have NB454_448 := ng_ hg BK448; replace HO437 := rb_ HO437 hb; replace HO446 := rb_ HO446 hb; replace HO452 := rb_ HO452 hb; replace BK441 := bb_ BK441 hb; replace BK442 := bb_ BK442 hb; replace BK448 := bb_ BK448 hb; replace HB := bst_ HB hb; clear hb hbox hg; have hnb25 := NB454_441.out; have hnc25 := NB441_454.out; have hnb26 := NB454_442.out; have hnc26 := NB442_454.out; have hnb27 := NB454_448.out; have hnc27 := NB448_454.out; obtain ⟨hcz28_0, hcz28_1⟩ := bcs2_ BK454; have hfz28_0 := blk_frozen BK454.out 0; have hfz28_1 := blk_frozen BK454.out 1; obtain ⟨Ao29, co29, eo29⟩ := Kd.R_slice HO452.out; subst eo29))
   (try simp only [Act.put, List.setIfInBounds_toArray, List.set_cons_zero, List.set_cons_succ])
   go_cut [80] (fun v80 wc => ∃ (kq : Nat) (x80_6 : Bool), v80 = .bool x80_6 ∧ Aside0 (laws_FnHits.j0 kq l1 t447 x80_6 t438 t439 t440 t443 t444 = some r) ∧ Aside0 (kq ≤ k) ∧ Aside0 (Kd.R k27 27 wc w.heap.size (fun k_ => no_ (.slice Ao20 t444.length co20) k_ ∧ no_ (.slice Ao29 t450.length co29) k_ ∧ k_ ≠ gb442) (.slice Ao13 t435.length co13) t435) ∧ Aside0 (Kd.R k27 27 wc w.heap.size (fun k_ => no_ (.slice Ao13 t435.length co13) k_ ∧ no_ (.slice Ao29 t450.length co29) k_ ∧ k_ ≠ gb442) (.slice Ao20 t444.length co20) t444) ∧ Aside0 (Kd.R k27 27 wc w.heap.size (fun k_ => no_ (.slice Ao13 t435.length co13) k_ ∧ no_ (.slice Ao20 t444.length co20) k_ ∧ k_ ≠ gb442) (.slice Ao29 t450.length co29) t450) ∧ Aside0 (wc.heap[gb441]? = some (.cells #[.int .i64 t434, (.slice Ao13 t435.length co13)] 25 (0, 0))) ∧ Aside0 (wc.heap[gb442]? = some (.cells #[.int .i64 t438, .int .i64 t439, .int .i64 t440] 27 (0, 0))) ∧ Aside0 (wc.heap[gb448]? = some (.cells #[.int .i64 t443, (.slice Ao20 t444.length co20)] 25 (0, 0))) ∧ Aside0 (wc.heap[gb454]? = some (.cells #[.int .i64 t449, (.slice Ao29 t450.length co29)] 25 (0, 0))) ∧ Aside0 (Below w.heap.size w wc))
   case first =>
    as_aux_lemma =>
     have H := HC7.out
     clear HC7
     by_cases c30 : (t447 != t453) = true
     ·rw [if_pos c30] at H
      have c30b0 : (t447 != t453) = true := c30
      (try (have c30b1 : decide (t447 = t453) = false := by simpa using c30))
      (try (have c30b2 : (t447 == t453) = false := by simpa using c30))
      (try (have c30b3 : ¬ (t447 = t453) := by simpa using c30))
      clear c30
      (first | rw [c30b0] | (simp only [i64_w, i32_w]; rw [c30b0]) | skip)
      have H' := Aside0.mk H
      clear H
      try go_wp2
      have n0_ : Aside0 (Kd.R k27 27 ((w24.setCell ⟨gb454, 0, none⟩ (.int .i64 t449)).setCell ⟨gb454, 1, none⟩ (.slice Ao29 t450.length co29)) w.heap.size (fun k_ => no_ (.slice Ao20 t444.length co20) k_ ∧ no_ (.slice Ao29 t450.length co29) k_ ∧ k_ ≠ gb442) (.slice Ao13 t435.length co13) t435) := ⟨by (with_reducible repeat (first | apply Kd.R_alloc | apply Kd.R_drewN | apply Kd.R_drew)); exact Kd.R_mono (fs2_ HO437.out BK454.out) (fun _ hk => ⟨hk.1.1.2, ⟨hk.1.2, hk.1.1.1.2⟩⟩)⟩
      have n1_ : Aside0 (Kd.R k27 27 ((w24.setCell ⟨gb454, 0, none⟩ (.int .i64 t449)).setCell ⟨gb454, 1, none⟩ (.slice Ao29 t450.length co29)) w.heap.size (fun k_ => no_ (.slice Ao13 t435.length co13) k_ ∧ no_ (.slice Ao29 t450.length co29) k_ ∧ k_ ≠ gb442) (.slice Ao20 t444.length co20) t444) := ⟨by (with_reducible repeat (first | apply Kd.R_alloc | apply Kd.R_drewN | apply Kd.R_drew)); exact Kd.R_mono (fs2_ HO446.out BK454.out) (fun _ hk => ⟨hk.1.1.1.2, ⟨hk.1.2, hk.1.1.2⟩⟩)⟩
      have n2_ : Aside0 (Kd.R k27 27 ((w24.setCell ⟨gb454, 0, none⟩ (.int .i64 t449)).setCell ⟨gb454, 1, none⟩ (.slice Ao29 t450.length co29)) w.heap.size (fun k_ => no_ (.slice Ao13 t435.length co13) k_ ∧ no_ (.slice Ao20 t444.length co20) k_ ∧ k_ ≠ gb442) (.slice Ao29 t450.length co29) t450) := ⟨by (with_reducible repeat (first | apply Kd.R_alloc | apply Kd.R_drewN | apply Kd.R_drew)); exact Kd.R_mono (fs2_ HO452.out BK454.out) (fun _ hk => ⟨hk.1.1.1.2, ⟨hk.1.1.2, hk.1.2⟩⟩)⟩
      have n3_ : Aside0 (((w24.setCell ⟨gb454, 0, none⟩ (.int .i64 t449)).setCell ⟨gb454, 1, none⟩ (.slice Ao29 t450.length co29)).heap[gb441]? = some (.cells #[.int .i64 t434, .slice Ao13 t435.length co13] 25 (0, 0))) := ⟨by (with_reducible repeat (first | refine blk_drewN ?_ _ | refine blk_drew ?_ | refine blk_alloc ?_ _)); refine blk_far ?_ NB441_454.out _; (with_reducible repeat (first | refine blk_drewN ?_ _ | refine blk_drew ?_ | refine blk_alloc ?_ _)); refine blk_far ?_ NB441_454.out _; (with_reducible repeat (first | refine blk_drewN ?_ _ | refine blk_drew ?_ | refine blk_alloc ?_ _)); exact BK441.out⟩
      have n4_ : Aside0 (((w24.setCell ⟨gb454, 0, none⟩ (.int .i64 t449)).setCell ⟨gb454, 1, none⟩ (.slice Ao29 t450.length co29)).heap[gb442]? = some (.cells #[.int .i64 t438, .int .i64 t439, .int .i64 t440] 27 (0, 0))) := ⟨by (with_reducible repeat (first | refine blk_drewN ?_ _ | refine blk_drew ?_ | refine blk_alloc ?_ _)); refine blk_far ?_ NB442_454.out _; (with_reducible repeat (first | refine blk_drewN ?_ _ | refine blk_drew ?_ | refine blk_alloc ?_ _)); refine blk_far ?_ NB442_454.out _; (with_reducible repeat (first | refine blk_drewN ?_ _ | refine blk_drew ?_ | refine blk_alloc ?_ _)); exact BK442.out⟩
      have n5_ : Aside0 (((w24.setCell ⟨gb454, 0, none⟩ (.int .i64 t449)).setCell ⟨gb454, 1, none⟩ (.slice Ao29 t450.length co29)).heap[gb448]? = some (.cells #[.int .i64 t443, .slice Ao20 t444.length co20] 25 (0, 0))) := ⟨by (with_reducible repeat (first | refine blk_drewN ?_ _ | refine blk_drew ?_ | refine blk_alloc ?_ _)); refine blk_far ?_ NB448_454.out _; (with_reducible repeat (first | refine blk_drewN ?_ _ | refine blk_drew ?_ | refine blk_alloc ?_ _)); refine blk_far ?_ NB448_454.out _; (with_reducible repeat (first | refine blk_drewN ?_ _ | refine blk_drew ?_ | refine blk_alloc ?_ _)); exact BK448.out⟩
      have n6_ : Aside0 (((w24.setCell ⟨gb454, 0, none⟩ (.int .i64 t449)).setCell ⟨gb454, 1, none⟩ (.slice Ao29 t450.length co29)).heap[gb454]? = some (.cells #[.int .i64 t449, .slice Ao29 t450.length co29] 25 (0, 0))) := ⟨by (with_reducible repeat (first | refine blk_drewN ?_ _ | refine blk_drew ?_ | refine blk_alloc ?_ _)); refine blk_put (cs := #[.int .i64 t449, .slice none 0 0]) ?_ 1 _ rfl; (with_reducible repeat (first | refine blk_drewN ?_ _ | refine blk_drew ?_ | refine blk_alloc ?_ _)); refine blk_put (cs := #[.int .i64 0, .slice none 0 0]) ?_ 0 _ rfl; (with_reducible repeat (first | refine blk_drewN ?_ _ | refine blk_drew ?_ | refine blk_alloc ?_ _)); exact BK454.out⟩
      have n7_ : Aside0 (Below w.heap.size w ((w24.setCell ⟨gb454, 0, none⟩ (.int .i64 t449)).setCell ⟨gb454, 1, none⟩ (.slice Ao29 t450.length co29))) := ⟨hB HB⟩
      (try clear HO437)
      (try clear HO446)
      (try clear HO452)
      (try clear BK441)
      (try clear BK442)
      (try clear BK448)
      (try clear BK454)
      (try clear HB)
      generalize ((w24.setCell ⟨gb454, 0, none⟩ (.int .i64 t449)).setCell ⟨gb454, 1, none⟩ (.slice Ao29 t450.length co29)) = w31 at n0_ n1_ n2_ n3_ n4_ n5_ n6_ n7_ ⊢
      have HO437 := n0_
      have HO446 := n1_
      have HO452 := n2_
      have BK441 := n3_
      have BK442 := n4_
      have BK448 := n5_
      have BK454 := n6_
      have HB := n7_
      clear n0_ n1_ n2_ n3_ n4_ n5_ n6_ n7_
      replace HO437 := rd_ HO437
      replace HO446 := rd_ HO446
      replace HO452 := rd_ HO452
      replace BK441 := bd_ BK441
      replace BK442 := bd_ BK442
      replace BK448 := bd_ BK448
      replace BK454 := bd_ BK454
      replace HB := Aside0.mk (below_drew1 HB.out)
      refine start_ (n := 16) (S := fun w' => True) (ds := []) (bs 16 0) (by kernel_rfl) rfl rfl trivial (fun hHeld => ?_); refine with_tabW laws_FnHits.tab6 laws_FnHits.bits6 (fun HT_ HW_ => ?_)
      generalize w31.drew = w32 at HO437 HO446 HO452 BK441 BK442 BK448 BK454 HB hHeld ⊢
      refine pu_ 0 65 (bs 16 1) HT_ ?_
      refine pu_ 1 66 (bs 16 3) HT_ ?_
      refine pu_ 2 67 (bs 16 7) HT_ ?_
      refine pu_ 3 68 (bs 16 15) HT_ ?_
      refine pn_ 4 69 (bs 16 31) HT_ ?_
      refine pn_ 5 70 (bs 16 63) HT_ ?_
      refine pn_ 6 71 (bs 16 127) HT_ ?_
      refine pn_ 7 72 (bs 16 255) HT_ ?_
      refine pu_ 8 73 (bs 16 511) HT_ ?_
      refine pu_ 9 74 (bs 16 1023) HT_ ?_
      refine pn_ 10 75 (bs 16 2047) HT_ ?_
      refine pn_ 11 76 (bs 16 4095) HT_ ?_
      refine pn_ 12 77 (bs 16 8191) HT_ ?_
      refine pn_ 13 78 (bs 16 16383) HT_ ?_
      refine pn_ 14 79 (bs 16 32767) HT_ ?_
      refine pu_ 15 80 (bs 16 65535) HT_ ?_
      refine done_ (done_of HT_.out (by kernel_rfl)) ?_
      try go_wp2
      go_meet
      case rel => exact ⟨_, (true), (by first | rfl | (simp; done) | (simp [*]; done)), H', ⟨by first | omega | exact Nat.le_refl _⟩, ⟨ra HO437.out⟩, ⟨ra HO446.out⟩, ⟨ra HO452.out⟩, ⟨by (with_reducible repeat (first | refine blk_drewN ?_ _ | refine blk_drew ?_ | refine blk_alloc ?_ _)); exact BK441.out⟩, ⟨by (with_reducible repeat (first | refine blk_drewN ?_ _ | refine blk_drew ?_ | refine blk_alloc ?_ _)); exact BK442.out⟩, ⟨by (with_reducible repeat (first | refine blk_drewN ?_ _ | refine blk_drew ?_ | refine blk_alloc ?_ _)); exact BK448.out⟩, ⟨by (with_reducible repeat (first | refine blk_drewN ?_ _ | refine blk_drew ?_ | refine blk_alloc ?_ _)); exact BK454.out⟩, ⟨hB HB⟩⟩
     rw [if_neg c30] at H
     have c30b0 : (t447 != t453) = false := by simpa using c30
     (try (have c30b1 : decide (t447 = t453) = true := by simpa using c30))
     (try (have c30b2 : (t447 == t453) = true := by simpa using c30))
     clear c30
     (first | rw [c30b0] | (simp only [i64_w, i32_w]; rw [c30b0]) | skip)
     replace H := Option.bind_eq_some_iff.mp H
     obtain ⟨t455, A330, H⟩ := H
     replace H : (if t455 = true then ((impl_GoodTable.f k t434 t435).bind fun t456 => ((spec_GoodTable.f k t434 t435).bind fun t457 => (laws_FnHits.j0 k l1 t447 (t456 != t457) t438 t439 t440 t443 t444))) else (laws_FnHits.j0 k l1 t447 true t438 t439 t440 t443 t444)) = some r := H
     have A33 := Aside0.mk A330
     clear A330
     by_cases c34 : t455 = true
     rotate_left
     ·replace c34 := Bool.eq_false_iff.mpr c34
      subst c34
      rw [if_neg (show ¬ (false = true) by decide)] at H
      have H' := Aside0.mk H
      clear H
      try go_wp2
      have n0_ : Aside0 (Kd.R k27 27 ((w24.setCell ⟨gb454, 0, none⟩ (.int .i64 t449)).setCell ⟨gb454, 1, none⟩ (.slice Ao29 t450.length co29)) w.heap.size (fun k_ => no_ (.slice Ao20 t444.length co20) k_ ∧ no_ (.slice Ao29 t450.length co29) k_ ∧ k_ ≠ gb442) (.slice Ao13 t435.length co13) t435) := ⟨by (with_reducible repeat (first | apply Kd.R_alloc | apply Kd.R_drewN | apply Kd.R_drew)); exact Kd.R_mono (fs2_ HO437.out BK454.out) (fun _ hk => ⟨hk.1.1.2, ⟨hk.1.2, hk.1.1.1.2⟩⟩)⟩
      have n1_ : Aside0 (Kd.R k27 27 ((w24.setCell ⟨gb454, 0, none⟩ (.int .i64 t449)).setCell ⟨gb454, 1, none⟩ (.slice Ao29 t450.length co29)) w.heap.size (fun k_ => no_ (.slice Ao13 t435.length co13) k_ ∧ no_ (.slice Ao29 t450.length co29) k_ ∧ k_ ≠ gb442) (.slice Ao20 t444.length co20) t444) := ⟨by (with_reducible repeat (first | apply Kd.R_alloc | apply Kd.R_drewN | apply Kd.R_drew)); exact Kd.R_mono (fs2_ HO446.out BK454.out) (fun _ hk => ⟨hk.1.1.1.2, ⟨hk.1.2, hk.1.1.2⟩⟩)⟩
      have n2_ : Aside0 (Kd.R k27 27 ((w24.setCell ⟨gb454, 0, none⟩ (.int .i64 t449)).setCell ⟨gb454, 1, none⟩ (.slice Ao29 t450.length co29)) w.heap.size (fun k_ => no_ (.slice Ao13 t435.length co13) k_ ∧ no_ (.slice Ao20 t444.length co20) k_ ∧ k_ ≠ gb442) (.slice Ao29 t450.length co29) t450) := ⟨by (with_reducible repeat (first | apply Kd.R_alloc | apply Kd.R_drewN | apply Kd.R_drew)); exact Kd.R_mono (fs2_ HO452.out BK454.out) (fun _ hk => ⟨hk.1.1.1.2, ⟨hk.1.1.2, hk.1.2⟩⟩)⟩
      have n3_ : Aside0 (((w24.setCell ⟨gb454, 0, none⟩ (.int .i64 t449)).setCell ⟨gb454, 1, none⟩ (.slice Ao29 t450.length co29)).heap[gb441]? = some (.cells #[.int .i64 t434, .slice Ao13 t435.length co13] 25 (0, 0))) := ⟨by (with_reducible repeat (first | refine blk_drewN ?_ _ | refine blk_drew ?_ | refine blk_alloc ?_ _)); refine blk_far ?_ NB441_454.out _; (with_reducible repeat (first | refine blk_drewN ?_ _ | refine blk_drew ?_ | refine blk_alloc ?_ _)); refine blk_far ?_ NB441_454.out _; (with_reducible repeat (first | refine blk_drewN ?_ _ | refine blk_drew ?_ | refine blk_alloc ?_ _)); exact BK441.out⟩
      have n4_ : Aside0 (((w24.setCell ⟨gb454, 0, none⟩ (.int .i64 t449)).setCell ⟨gb454, 1, none⟩ (.slice Ao29 t450.length co29)).heap[gb442]? = some (.cells #[.int .i64 t438, .int .i64 t439, .int .i64 t440] 27 (0, 0))) := ⟨by (with_reducible repeat (first | refine blk_drewN ?_ _ | refine blk_drew ?_ | refine blk_alloc ?_ _)); refine blk_far ?_ NB442_454.out _; (with_reducible repeat (first | refine blk_drewN ?_ _ | refine blk_drew ?_ | refine blk_alloc ?_ _)); refine blk_far ?_ NB442_454.out _; (with_reducible repeat (first | refine blk_drewN ?_ _ | refine blk_drew ?_ | refine blk_alloc ?_ _)); exact BK442.out⟩
      have n5_ : Aside0 (((w24.setCell ⟨gb454, 0, none⟩ (.int .i64 t449)).setCell ⟨gb454, 1, none⟩ (.slice Ao29 t450.length co29)).heap[gb448]? = some (.cells #[.int .i64 t443, .slice Ao20 t444.length co20] 25 (0, 0))) := ⟨by (with_reducible repeat (first | refine blk_drewN ?_ _ | refine blk_drew ?_ | refine blk_alloc ?_ _)); refine blk_far ?_ NB448_454.out _; (with_reducible repeat (first | refine blk_drewN ?_ _ | refine blk_drew ?_ | refine blk_alloc ?_ _)); refine blk_far ?_ NB448_454.out _; (with_reducible repeat (first | refine blk_drewN ?_ _ | refine blk_drew ?_ | refine blk_alloc ?_ _)); exact BK448.out⟩
      have n6_ : Aside0 (((w24.setCell ⟨gb454, 0, none⟩ (.int .i64 t449)).setCell ⟨gb454, 1, none⟩ (.slice Ao29 t450.length co29)).heap[gb454]? = some (.cells #[.int .i64 t449, .slice Ao29 t450.length co29] 25 (0, 0))) := ⟨by (with_reducible repeat (first | refine blk_drewN ?_ _ | refine blk_drew ?_ | refine blk_alloc ?_ _)); refine blk_put (cs := #[.int .i64 t449, .slice none 0 0]) ?_ 1 _ rfl; (with_reducible repeat (first | refine blk_drewN ?_ _ | refine blk_drew ?_ | refine blk_alloc ?_ _)); refine blk_put (cs := #[.int .i64 0, .slice none 0 0]) ?_ 0 _ rfl; (with_reducible repeat (first | refine blk_drewN ?_ _ | refine blk_drew ?_ | refine blk_alloc ?_ _)); exact BK454.out⟩
      have n7_ : Aside0 (Below w.heap.size w ((w24.setCell ⟨gb454, 0, none⟩ (.int .i64 t449)).setCell ⟨gb454, 1, none⟩ (.slice Ao29 t450.length co29))) := ⟨hB HB⟩
      (try clear HO437)
      (try clear HO446)
      (try clear HO452)
      (try clear BK441)
      (try clear BK442)
      (try clear BK448)
      (try clear BK454)
      (try clear HB)
      generalize ((w24.setCell ⟨gb454, 0, none⟩ (.int .i64 t449)).setCell ⟨gb454, 1, none⟩ (.slice Ao29 t450.length co29)) = w42 at n0_ n1_ n2_ n3_ n4_ n5_ n6_ n7_ ⊢
      have HO437 := n0_
      have HO446 := n1_
      have HO452 := n2_
      have BK441 := n3_
      have BK442 := n4_
      have BK448 := n5_
      have BK454 := n6_
      have HB := n7_
      clear n0_ n1_ n2_ n3_ n4_ n5_ n6_ n7_
      replace HO437 := rd_ HO437
      replace HO446 := rd_ HO446
      replace HO452 := rd_ HO452
      replace BK441 := bd_ BK441
      replace BK442 := bd_ BK442
      replace BK448 := bd_ BK448
      replace BK454 := bd_ BK454
      replace HB := Aside0.mk (below_drew1 HB.out)
      refine start_ (n := 16) (S := fun w' => w'.cell? ⟨gb448, 0, none⟩ = some (.int .i64 t443) ∧ w'.cell? ⟨gb448, 1, none⟩ = some (.slice Ao20 t444.length co20) ∧ w'.cell? ⟨gb454, 0, none⟩ = some (.int .i64 t449) ∧ w'.cell? ⟨gb454, 1, none⟩ = some (.slice Ao29 t450.length co29)) (ds := []) (bs 16 0) (by kernel_rfl) rfl rfl ⟨bc_ BK448 0, bc_ BK448 1, bc_ BK454 0, bc_ BK454 1⟩ (fun hHeld => ?_); refine with_tabW laws_FnHits.tab6 laws_FnHits.bits6 (fun HT_ HW_ => ?_)
      generalize w42.drew = w43 at HO437 HO446 HO452 BK441 BK442 BK448 BK454 HB hHeld ⊢
      refine pu_ 0 65 (bs 16 1) HT_ ?_
      refine pu_ 1 66 (bs 16 3) HT_ ?_
      refine pu_ 2 67 (bs 16 7) HT_ ?_
      refine pu_ 3 68 (bs 16 15) HT_ ?_
      refine tk_ 4 69 (bs 16 31) HT_ HW_ hHeld ?_
      refine tk_ 5 70 (bs 16 63) HT_ HW_ hHeld ?_
      refine on_ 6 (some 71) (bs 16 127) HT_ (fun K hK => ?_)
      refine goes_ Try.func7 (by kernel_rfl) rfl #[.agg #[.int .i64 t443, .slice Ao20 t444.length co20], .agg #[.int .i64 t449, .slice Ao29 t450.length co29]] (by rfl) rfl rfl tm_ ?_
      with_reducible refine (laws_sameTable.calls k t443 _ _ t444 t449 _ _ t450 false _ ?side1 ?side2 ?side3 ?side4 A33.out).mono ?_
      (case side1 => exact ca (Kd.R_reads' HO446.out).2.2)
      (case side2 => exact (Kd.R_reads' HO446.out).2.1)
      (case side3 => exact ca (Kd.R_reads' HO452.out).2.2)
      (case side4 => exact (Kd.R_reads' HO452.out).2.1)
      rintro e w44 ⟨rfl, hb⟩
      refine ⟨_, rfl, ?_⟩
      replace HO437 := rb_ HO437 hb
      replace HO446 := rb_ HO446 hb
      replace HO452 := rb_ HO452 hb
      replace BK441 := bb_ BK441 hb
      replace BK442 := bb_ BK442 hb
      replace BK448 := bb_ BK448 hb
      replace BK454 := bb_ BK454 hb
      replace HB := bst_ HB hb
      clear hb
      refine hK.out _ _ ⟨bc_ BK448 0, bc_ BK448 1, bc_ BK454 0, bc_ BK454 1⟩ (fun hHeld => ?_)
      clear hK K
      refine nm_ 71 ?_
      refine pu_ 7 72 (bs 16 255) HT_ ?_
      refine pu_ 8 73 (bs 16 511) HT_ ?_
      refine pu_ 9 74 (bs 16 1023) HT_ ?_
      refine pn_ 10 75 (bs 16 2047) HT_ ?_
      refine pn_ 11 76 (bs 16 4095) HT_ ?_
      refine pn_ 12 77 (bs 16 8191) HT_ ?_
      refine pn_ 13 78 (bs 16 16383) HT_ ?_
      refine pn_ 14 79 (bs 16 32767) HT_ ?_
      refine pu_ 15 80 (bs 16 65535) HT_ ?_
      refine done_ (done_of HT_.out (by kernel_rfl)) ?_
      try go_wp2
      go_meet
      case rel => exact ⟨_, (true), (by first | rfl | (simp; done) | (simp [*]; done)), H', ⟨by first | omega | exact Nat.le_refl _⟩, ⟨ra HO437.out⟩, ⟨ra HO446.out⟩, ⟨ra HO452.out⟩, ⟨by (with_reducible repeat (first | refine blk_drewN ?_ _ | refine blk_drew ?_ | refine blk_alloc ?_ _)); exact BK441.out⟩, ⟨by (with_reducible repeat (first | refine blk_drewN ?_ _ | refine blk_drew ?_ | refine blk_alloc ?_ _)); exact BK442.out⟩, ⟨by (with_reducible repeat (first | refine blk_drewN ?_ _ | refine blk_drew ?_ | refine blk_alloc ?_ _)); exact BK448.out⟩, ⟨by (with_reducible repeat (first | refine blk_drewN ?_ _ | refine blk_drew ?_ | refine blk_alloc ?_ _)); exact BK454.out⟩, ⟨hB HB⟩⟩
     subst c34
     rw [if_pos rfl] at H
     replace H := Option.bind_eq_some_iff.mp H
     obtain ⟨t456, A350, H⟩ := H
     replace H : ((spec_GoodTable.f k t434 t435).bind fun t457 => (laws_FnHits.j0 k l1 t447 (t456 != t457) t438 t439 t440 t443 t444)) = some r := H
     have A35 := Aside0.mk A350
     clear A350
     replace H := Option.bind_eq_some_iff.mp H
     obtain ⟨t457, A360, H⟩ := H
     replace H : (laws_FnHits.j0 k l1 t447 (t456 != t457) t438 t439 t440 t443 t444) = some r := H
     have A36 := Aside0.mk A360
     clear A360
     have H' := Aside0.mk H
     clear H
     try go_wp2
     have n0_ : Aside0 (Kd.R k27 27 ((w24.setCell ⟨gb454, 0, none⟩ (.int .i64 t449)).setCell ⟨gb454, 1, none⟩ (.slice Ao29 t450.length co29)) w.heap.size (fun k_ => no_ (.slice Ao20 t444.length co20) k_ ∧ no_ (.slice Ao29 t450.length co29) k_ ∧ k_ ≠ gb442) (.slice Ao13 t435.length co13) t435) := ⟨by (with_reducible repeat (first | apply Kd.R_alloc | apply Kd.R_drewN | apply Kd.R_drew)); exact Kd.R_mono (fs2_ HO437.out BK454.out) (fun _ hk => ⟨hk.1.1.2, ⟨hk.1.2, hk.1.1.1.2⟩⟩)⟩
     have n1_ : Aside0 (Kd.R k27 27 ((w24.setCell ⟨gb454, 0, none⟩ (.int .i64 t449)).setCell ⟨gb454, 1, none⟩ (.slice Ao29 t450.length co29)) w.heap.size (fun k_ => no_ (.slice Ao13 t435.length co13) k_ ∧ no_ (.slice Ao29 t450.length co29) k_ ∧ k_ ≠ gb442) (.slice Ao20 t444.length co20) t444) := ⟨by (with_reducible repeat (first | apply Kd.R_alloc | apply Kd.R_drewN | apply Kd.R_drew)); exact Kd.R_mono (fs2_ HO446.out BK454.out) (fun _ hk => ⟨hk.1.1.1.2, ⟨hk.1.2, hk.1.1.2⟩⟩)⟩
     have n2_ : Aside0 (Kd.R k27 27 ((w24.setCell ⟨gb454, 0, none⟩ (.int .i64 t449)).setCell ⟨gb454, 1, none⟩ (.slice Ao29 t450.length co29)) w.heap.size (fun k_ => no_ (.slice Ao13 t435.length co13) k_ ∧ no_ (.slice Ao20 t444.length co20) k_ ∧ k_ ≠ gb442) (.slice Ao29 t450.length co29) t450) := ⟨by (with_reducible repeat (first | apply Kd.R_alloc | apply Kd.R_drewN | apply Kd.R_drew)); exact Kd.R_mono (fs2_ HO452.out BK454.out) (fun _ hk => ⟨hk.1.1.1.2, ⟨hk.1.1.2, hk.1.2⟩⟩)⟩
     have n3_ : Aside0 (((w24.setCell ⟨gb454, 0, none⟩ (.int .i64 t449)).setCell ⟨gb454, 1, none⟩ (.slice Ao29 t450.length co29)).heap[gb441]? = some (.cells #[.int .i64 t434, .slice Ao13 t435.length co13] 25 (0, 0))) := ⟨by (with_reducible repeat (first | refine blk_drewN ?_ _ | refine blk_drew ?_ | refine blk_alloc ?_ _)); refine blk_far ?_ NB441_454.out _; (with_reducible repeat (first | refine blk_drewN ?_ _ | refine blk_drew ?_ | refine blk_alloc ?_ _)); refine blk_far ?_ NB441_454.out _; (with_reducible repeat (first | refine blk_drewN ?_ _ | refine blk_drew ?_ | refine blk_alloc ?_ _)); exact BK441.out⟩
     have n4_ : Aside0 (((w24.setCell ⟨gb454, 0, none⟩ (.int .i64 t449)).setCell ⟨gb454, 1, none⟩ (.slice Ao29 t450.length co29)).heap[gb442]? = some (.cells #[.int .i64 t438, .int .i64 t439, .int .i64 t440] 27 (0, 0))) := ⟨by (with_reducible repeat (first | refine blk_drewN ?_ _ | refine blk_drew ?_ | refine blk_alloc ?_ _)); refine blk_far ?_ NB442_454.out _; (with_reducible repeat (first | refine blk_drewN ?_ _ | refine blk_drew ?_ | refine blk_alloc ?_ _)); refine blk_far ?_ NB442_454.out _; (with_reducible repeat (first | refine blk_drewN ?_ _ | refine blk_drew ?_ | refine blk_alloc ?_ _)); exact BK442.out⟩
     have n5_ : Aside0 (((w24.setCell ⟨gb454, 0, none⟩ (.int .i64 t449)).setCell ⟨gb454, 1, none⟩ (.slice Ao29 t450.length co29)).heap[gb448]? = some (.cells #[.int .i64 t443, .slice Ao20 t444.length co20] 25 (0, 0))) := ⟨by (with_reducible repeat (first | refine blk_drewN ?_ _ | refine blk_drew ?_ | refine blk_alloc ?_ _)); refine blk_far ?_ NB448_454.out _; (with_reducible repeat (first | refine blk_drewN ?_ _ | refine blk_drew ?_ | refine blk_alloc ?_ _)); refine blk_far ?_ NB448_454.out _; (with_reducible repeat (first | refine blk_drewN ?_ _ | refine blk_drew ?_ | refine blk_alloc ?_ _)); exact BK448.out⟩
     have n6_ : Aside0 (((w24.setCell ⟨gb454, 0, none⟩ (.int .i64 t449)).setCell ⟨gb454, 1, none⟩ (.slice Ao29 t450.length co29)).heap[gb454]? = some (.cells #[.int .i64 t449, .slice Ao29 t450.length co29] 25 (0, 0))) := ⟨by (with_reducible repeat (first | refine blk_drewN ?_ _ | refine blk_drew ?_ | refine blk_alloc ?_ _)); refine blk_put (cs := #[.int .i64 t449, .slice none 0 0]) ?_ 1 _ rfl; (with_reducible repeat (first | refine blk_drewN ?_ _ | refine blk_drew ?_ | refine blk_alloc ?_ _)); refine blk_put (cs := #[.int .i64 0, .slice none 0 0]) ?_ 0 _ rfl; (with_reducible repeat (first | refine blk_drewN ?_ _ | refine blk_drew ?_ | refine blk_alloc ?_ _)); exact BK454.out⟩
     have n7_ : Aside0 (Below w.heap.size w ((w24.setCell ⟨gb454, 0, none⟩ (.int .i64 t449)).setCell ⟨gb454, 1, none⟩ (.slice Ao29 t450.length co29))) := ⟨hB HB⟩
     (try clear HO437)
     (try clear HO446)
     (try clear HO452)
     (try clear BK441)
     (try clear BK442)
     (try clear BK448)
     (try clear BK454)
     (try clear HB)
     generalize ((w24.setCell ⟨gb454, 0, none⟩ (.int .i64 t449)).setCell ⟨gb454, 1, none⟩ (.slice Ao29 t450.length co29)) = w37 at n0_ n1_ n2_ n3_ n4_ n5_ n6_ n7_ ⊢
     have HO437 := n0_
     have HO446 := n1_
     have HO452 := n2_
     have BK441 := n3_
     have BK442 := n4_
     have BK448 := n5_
     have BK454 := n6_
     have HB := n7_
     clear n0_ n1_ n2_ n3_ n4_ n5_ n6_ n7_
     replace HO437 := rd_ HO437
     replace HO446 := rd_ HO446
     replace HO452 := rd_ HO452
     replace BK441 := bd_ BK441
     replace BK442 := bd_ BK442
     replace BK448 := bd_ BK448
     replace BK454 := bd_ BK454
     replace HB := Aside0.mk (below_drew1 HB.out)
     refine start_ (n := 16) (S := fun w' => w'.cell? ⟨gb448, 0, none⟩ = some (.int .i64 t443) ∧ w'.cell? ⟨gb448, 1, none⟩ = some (.slice Ao20 t444.length co20) ∧ w'.cell? ⟨gb454, 0, none⟩ = some (.int .i64 t449) ∧ w'.cell? ⟨gb454, 1, none⟩ = some (.slice Ao29 t450.length co29) ∧ w'.cell? ⟨gb441, 0, none⟩ = some (.int .i64 t434) ∧ w'.cell? ⟨gb441, 1, none⟩ = some (.slice Ao13 t435.length co13)) (ds := []) (bs 16 0) (by kernel_rfl) rfl rfl ⟨bc_ BK448 0, bc_ BK448 1, bc_ BK454 0, bc_ BK454 1, bc_ BK441 0, bc_ BK441 1⟩ (fun hHeld => ?_); refine with_tabW laws_FnHits.tab6 laws_FnHits.bits6 (fun HT_ HW_ => ?_)
     generalize w37.drew = w38 at HO437 HO446 HO452 BK441 BK442 BK448 BK454 HB hHeld ⊢
     refine pu_ 0 65 (bs 16 1) HT_ ?_
     refine pu_ 1 66 (bs 16 3) HT_ ?_
     refine pu_ 2 67 (bs 16 7) HT_ ?_
     refine pu_ 3 68 (bs 16 15) HT_ ?_
     refine tk_ 4 69 (bs 16 31) HT_ HW_ hHeld ?_
     refine tk_ 5 70 (bs 16 63) HT_ HW_ hHeld ?_
     refine on_ 6 (some 71) (bs 16 127) HT_ (fun K hK => ?_)
     refine goes_ Try.func7 (by kernel_rfl) rfl #[.agg #[.int .i64 t443, .slice Ao20 t444.length co20], .agg #[.int .i64 t449, .slice Ao29 t450.length co29]] (by rfl) rfl rfl tm_ ?_
     with_reducible refine (laws_sameTable.calls k t443 _ _ t444 t449 _ _ t450 true _ ?side1 ?side2 ?side3 ?side4 A33.out).mono ?_
     (case side1 => exact ca (Kd.R_reads' HO446.out).2.2)
     (case side2 => exact (Kd.R_reads' HO446.out).2.1)
     (case side3 => exact ca (Kd.R_reads' HO452.out).2.2)
     (case side4 => exact (Kd.R_reads' HO452.out).2.1)
     rintro e w39 ⟨rfl, hb⟩
     refine ⟨_, rfl, ?_⟩
     replace HO437 := rb_ HO437 hb
     replace HO446 := rb_ HO446 hb
     replace HO452 := rb_ HO452 hb
     replace BK441 := bb_ BK441 hb
     replace BK442 := bb_ BK442 hb
     replace BK448 := bb_ BK448 hb
     replace BK454 := bb_ BK454 hb
     replace HB := bst_ HB hb
     clear hb
     refine hK.out _ _ ⟨bc_ BK448 0, bc_ BK448 1, bc_ BK454 0, bc_ BK454 1, bc_ BK441 0, bc_ BK441 1⟩ (fun hHeld => ?_)
     clear hK K
     refine nm_ 71 ?_
     refine pu_ 7 72 (bs 16 255) HT_ ?_
     refine pu_ 8 73 (bs 16 511) HT_ ?_
     refine pu_ 9 74 (bs 16 1023) HT_ ?_
     refine tk_ 10 75 (bs 16 2047) HT_ HW_ hHeld ?_
     refine tk_ 12 77 (bs 16 6143) HT_ HW_ hHeld ?_
     refine on_ 11 (some 76) (bs 16 8191) HT_ (fun K hK => ?_)
     refine goes_ Try.func8 (by kernel_rfl) rfl #[.agg #[.int .i64 t434, .slice Ao13 t435.length co13]] (by rfl) rfl rfl tm_ ?_
     with_reducible refine (impl_GoodTable.calls k t434 _ _ t435 t456 _ ?side1 ?side2 A35.out).mono ?_
     (case side1 => exact ca (Kd.R_reads' HO437.out).2.2)
     (case side2 => exact (Kd.R_reads' HO437.out).2.1)
     rintro e w40 ⟨rfl, hb⟩
     refine ⟨_, rfl, ?_⟩
     replace HO437 := rb_ HO437 hb
     replace HO446 := rb_ HO446 hb
     replace HO452 := rb_ HO452 hb
     replace BK441 := bb_ BK441 hb
     replace BK442 := bb_ BK442 hb
     replace BK448 := bb_ BK448 hb
     replace BK454 := bb_ BK454 hb
     replace HB := bst_ HB hb
     clear hb
     refine hK.out _ _ ⟨bc_ BK448 0, bc_ BK448 1, bc_ BK454 0, bc_ BK454 1, bc_ BK441 0, bc_ BK441 1⟩ (fun hHeld => ?_)
     clear hK K
     refine nm_ 76 ?_
     refine on_ 13 (some 78) (bs 16 16383) HT_ (fun K hK => ?_)
     refine goes_ Try.func9 (by kernel_rfl) rfl #[.agg #[.int .i64 t434, .slice Ao13 t435.length co13]] (by rfl) rfl rfl tm_ ?_
     with_reducible refine (spec_GoodTable.calls k t434 _ _ t435 t457 _ ?side1 ?side2 A36.out).mono ?_
     (case side1 => exact ca (Kd.R_reads' HO437.out).2.2)
     (case side2 => exact (Kd.R_reads' HO437.out).2.1)
     rintro e w41 ⟨rfl, hb⟩
     refine ⟨_, rfl, ?_⟩
     replace HO437 := rb_ HO437 hb
     replace HO446 := rb_ HO446 hb
     replace HO452 := rb_ HO452 hb
     replace BK441 := bb_ BK441 hb
     replace BK442 := bb_ BK442 hb
     replace BK448 := bb_ BK448 hb
     replace BK454 := bb_ BK454 hb
     replace HB := bst_ HB hb
     clear hb
     refine hK.out _ _ ⟨bc_ BK448 0, bc_ BK448 1, bc_ BK454 0, bc_ BK454 1, bc_ BK441 0, bc_ BK441 1⟩ (fun hHeld => ?_)
     clear hK K
     refine nm_ 78 ?_
     refine pu_ 14 79 (bs 16 32767) HT_ ?_
     refine pu_ 15 80 (bs 16 65535) HT_ ?_
     refine done_ (done_of HT_.out (by kernel_rfl)) ?_
     try go_wp2
     go_meet
     case rel => exact ⟨_, ((t456 != t457)), (by first | rfl | (simp; done) | (simp [*]; done)), H', ⟨by first | omega | exact Nat.le_refl _⟩, ⟨ra HO437.out⟩, ⟨ra HO446.out⟩, ⟨ra HO452.out⟩, ⟨by (with_reducible repeat (first | refine blk_drewN ?_ _ | refine blk_drew ?_ | refine blk_alloc ?_ _)); exact BK441.out⟩, ⟨by (with_reducible repeat (first | refine blk_drewN ?_ _ | refine blk_drew ?_ | refine blk_alloc ?_ _)); exact BK442.out⟩, ⟨by (with_reducible repeat (first | refine blk_drewN ?_ _ | refine blk_drew ?_ | refine blk_alloc ?_ _)); exact BK448.out⟩, ⟨by (with_reducible repeat (first | refine blk_drewN ?_ _ | refine blk_drew ?_ | refine blk_alloc ?_ _)); exact BK454.out⟩, ⟨hB HB⟩⟩
   case rest =>
    as_aux_lemma =>
     clear HC7
     try clear c3
     obtain ⟨kq, x80_6, rfl, HA, HJ6, HO_442001, HO_449001, HO_455001, BK441, BK442, BK448, BK454, HB⟩ := hcut
     cases kq with
     | zero => exact absurd HA.out (by simp [laws_FnHits.j0])
     | succ kj6 =>
      have H := HA.out
      clear HA
      simp only [laws_FnHits.j0] at H
      by_cases c45 : x80_6 = true
      ·subst c45
       rw [if_pos rfl] at H
       obtain rfl := Option.some.inj H
       go_wp2
       go_ret
       exact ⟨rt_, hB HB⟩
      replace c45 := Bool.eq_false_iff.mpr c45
      subst c45
      rw [if_neg (show ¬ (false = true) by decide)] at H
      have HC46 := Aside0.mk H
      clear H
      go_upto_if 81 with (fail)
      go_cut [] (fun wc => ∃ (kq : Nat), Aside0 (laws_FnHits.j3 kq l1 = some r) ∧ Aside0 (kq ≤ kj6) ∧ Aside0 (Kd.R k27 27 wc w.heap.size (fun k_ => no_ (.slice Ao20 t444.length co20) k_ ∧ no_ (.slice Ao29 t450.length co29) k_ ∧ k_ ≠ gb442) (.slice Ao13 t435.length co13) t435) ∧ Aside0 (Kd.R k27 27 wc w.heap.size (fun k_ => no_ (.slice Ao13 t435.length co13) k_ ∧ no_ (.slice Ao29 t450.length co29) k_ ∧ k_ ≠ gb442) (.slice Ao20 t444.length co20) t444) ∧ Aside0 (Kd.R k27 27 wc w.heap.size (fun k_ => no_ (.slice Ao13 t435.length co13) k_ ∧ no_ (.slice Ao20 t444.length co20) k_ ∧ k_ ≠ gb442) (.slice Ao29 t450.length co29) t450) ∧ Aside0 (wc.heap[gb441]? = some (.cells #[.int .i64 t434, (.slice Ao13 t435.length co13)] 25 (0, 0))) ∧ Aside0 (wc.heap[gb442]? = some (.cells #[.int .i64 t438, .int .i64 t439, .int .i64 t440] 27 (0, 0))) ∧ Aside0 (wc.heap[gb448]? = some (.cells #[.int .i64 t443, (.slice Ao20 t444.length co20)] 25 (0, 0))) ∧ Aside0 (wc.heap[gb454]? = some (.cells #[.int .i64 t449, (.slice Ao29 t450.length co29)] 25 (0, 0))) ∧ Aside0 (Below w.heap.size w wc))
      case first =>
       as_aux_lemma =>
        have H := HC46.out
        clear HC46
        by_cases c47 : t447 = true
        rotate_left
        ·replace c47 := Bool.eq_false_iff.mpr c47
         subst c47
         rw [if_neg (show ¬ (false = true) by decide)] at H
         have H' := Aside0.mk H
         clear H
         go_wp2
         go_meet
         case rel => exact ⟨_, H', ⟨by have := HJ6.out; first | omega | exact Nat.le_refl _⟩, ⟨ra HO_442001.out⟩, ⟨ra HO_449001.out⟩, ⟨ra HO_455001.out⟩, ⟨by (with_reducible repeat (first | refine blk_drewN ?_ _ | refine blk_drew ?_ | refine blk_alloc ?_ _)); exact BK441.out⟩, ⟨by (with_reducible repeat (first | refine blk_drewN ?_ _ | refine blk_drew ?_ | refine blk_alloc ?_ _)); exact BK442.out⟩, ⟨by (with_reducible repeat (first | refine blk_drewN ?_ _ | refine blk_drew ?_ | refine blk_alloc ?_ _)); exact BK448.out⟩, ⟨by (with_reducible repeat (first | refine blk_drewN ?_ _ | refine blk_drew ?_ | refine blk_alloc ?_ _)); exact BK454.out⟩, ⟨hB HB⟩⟩
        subst c47
        rw [if_pos rfl] at H
        replace H := Option.bind_eq_some_iff.mp H
        obtain ⟨⟨t458, t459⟩, A480, H⟩ := H
        replace H : ((impl_FlushPort.f kj6 t443 t444 t439).bind fun bt460 => ((impl_PortOf.f kj6 bt460.1 bt460.2.1 t438).bind fun bt466 => ((impl_DropOld.f kj6 t443 t444 t440 0).bind fun bt468 => ((impl_PortOf.f kj6 bt468.1 bt468.2.1 t438).bind fun bt474 => ((impl_GoodTable.f kj6 t443 t444).bind fun t476 => (if t476 = true then (if t459 = true then (if t458 = t439 then (if bt460.2.2 = true then (if bt466.2 = true then (laws_FnHits.j1 kj6 l1 true t438 t439 t440 bt468.1 bt468.2.1) else (if bt468.2.2 = true then (if bt474.2 = true then (laws_FnHits.j1 kj6 l1 (bt474.1 != t439) t438 t439 t440 bt468.1 bt468.2.1) else (laws_FnHits.j1 kj6 l1 true t438 t439 t440 bt468.1 bt468.2.1)) else (laws_FnHits.j1 kj6 l1 true t438 t439 t440 bt468.1 bt468.2.1))) else (laws_FnHits.j1 kj6 l1 true t438 t439 t440 bt468.1 bt468.2.1)) else (laws_FnHits.j1 kj6 l1 true t438 t439 t440 bt468.1 bt468.2.1)) else (laws_FnHits.j1 kj6 l1 true t438 t439 t440 bt468.1 bt468.2.1)) else (laws_FnHits.j1 kj6 l1 true t438 t439 t440 bt468.1 bt468.2.1))))))) = some r := H
        have A48 := Aside0.mk A480
        clear A480
        replace H := Option.bind_eq_some_iff.mp H
        obtain ⟨⟨t460, t461, t464⟩, A490, H⟩ := H
        replace H : ((impl_PortOf.f kj6 t460 t461 t438).bind fun bt466 => ((impl_DropOld.f kj6 t443 t444 t440 0).bind fun bt468 => ((impl_PortOf.f kj6 bt468.1 bt468.2.1 t438).bind fun bt474 => ((impl_GoodTable.f kj6 t443 t444).bind fun t476 => (if t476 = true then (if t459 = true then (if t458 = t439 then (if t464 = true then (if bt466.2 = true then (laws_FnHits.j1 kj6 l1 true t438 t439 t440 bt468.1 bt468.2.1) else (if bt468.2.2 = true then (if bt474.2 = true then (laws_FnHits.j1 kj6 l1 (bt474.1 != t439) t438 t439 t440 bt468.1 bt468.2.1) else (laws_FnHits.j1 kj6 l1 true t438 t439 t440 bt468.1 bt468.2.1)) else (laws_FnHits.j1 kj6 l1 true t438 t439 t440 bt468.1 bt468.2.1))) else (laws_FnHits.j1 kj6 l1 true t438 t439 t440 bt468.1 bt468.2.1)) else (laws_FnHits.j1 kj6 l1 true t438 t439 t440 bt468.1 bt468.2.1)) else (laws_FnHits.j1 kj6 l1 true t438 t439 t440 bt468.1 bt468.2.1)) else (laws_FnHits.j1 kj6 l1 true t438 t439 t440 bt468.1 bt468.2.1)))))) = some r := H
        have A49 := Aside0.mk A490
        clear A490
        replace H := Option.bind_eq_some_iff.mp H
        obtain ⟨⟨t466, t467⟩, A500, H⟩ := H
        replace H : ((impl_DropOld.f kj6 t443 t444 t440 0).bind fun bt468 => ((impl_PortOf.f kj6 bt468.1 bt468.2.1 t438).bind fun bt474 => ((impl_GoodTable.f kj6 t443 t444).bind fun t476 => (if t476 = true then (if t459 = true then (if t458 = t439 then (if t464 = true then (if t467 = true then (laws_FnHits.j1 kj6 l1 true t438 t439 t440 bt468.1 bt468.2.1) else (if bt468.2.2 = true then (if bt474.2 = true then (laws_FnHits.j1 kj6 l1 (bt474.1 != t439) t438 t439 t440 bt468.1 bt468.2.1) else (laws_FnHits.j1 kj6 l1 true t438 t439 t440 bt468.1 bt468.2.1)) else (laws_FnHits.j1 kj6 l1 true t438 t439 t440 bt468.1 bt468.2.1))) else (laws_FnHits.j1 kj6 l1 true t438 t439 t440 bt468.1 bt468.2.1)) else (laws_FnHits.j1 kj6 l1 true t438 t439 t440 bt468.1 bt468.2.1)) else (laws_FnHits.j1 kj6 l1 true t438 t439 t440 bt468.1 bt468.2.1)) else (laws_FnHits.j1 kj6 l1 true t438 t439 t440 bt468.1 bt468.2.1))))) = some r := H
        have A50 := Aside0.mk A500
        clear A500
        replace H := Option.bind_eq_some_iff.mp H
        obtain ⟨⟨t468, t469, t472⟩, A510, H⟩ := H
        replace H : ((impl_PortOf.f kj6 t468 t469 t438).bind fun bt474 => ((impl_GoodTable.f kj6 t443 t444).bind fun t476 => (if t476 = true then (if t459 = true then (if t458 = t439 then (if t464 = true then (if t467 = true then (laws_FnHits.j1 kj6 l1 true t438 t439 t440 t468 t469) else (if t472 = true then (if bt474.2 = true then (laws_FnHits.j1 kj6 l1 (bt474.1 != t439) t438 t439 t440 t468 t469) else (laws_FnHits.j1 kj6 l1 true t438 t439 t440 t468 t469)) else (laws_FnHits.j1 kj6 l1 true t438 t439 t440 t468 t469))) else (laws_FnHits.j1 kj6 l1 true t438 t439 t440 t468 t469)) else (laws_FnHits.j1 kj6 l1 true t438 t439 t440 t468 t469)) else (laws_FnHits.j1 kj6 l1 true t438 t439 t440 t468 t469)) else (laws_FnHits.j1 kj6 l1 true t438 t439 t440 t468 t469)))) = some r := H
        have A51 := Aside0.mk A510
        clear A510
        replace H := Option.bind_eq_some_iff.mp H
        obtain ⟨⟨t474, t475⟩, A520, H⟩ := H
        replace H : ((impl_GoodTable.f kj6 t443 t444).bind fun t476 => (if t476 = true then (if t459 = true then (if t458 = t439 then (if t464 = true then (if t467 = true then (laws_FnHits.j1 kj6 l1 true t438 t439 t440 t468 t469) else (if t472 = true then (if t475 = true then (laws_FnHits.j1 kj6 l1 (t474 != t439) t438 t439 t440 t468 t469) else (laws_FnHits.j1 kj6 l1 true t438 t439 t440 t468 t469)) else (laws_FnHits.j1 kj6 l1 true t438 t439 t440 t468 t469))) else (laws_FnHits.j1 kj6 l1 true t438 t439 t440 t468 t469)) else (laws_FnHits.j1 kj6 l1 true t438 t439 t440 t468 t469)) else (laws_FnHits.j1 kj6 l1 true t438 t439 t440 t468 t469)) else (laws_FnHits.j1 kj6 l1 true t438 t439 t440 t468 t469))) = some r := H
        have A52 := Aside0.mk A520
        clear A520
        have HC53 := Aside0.mk H
        clear H
        have hnb54 := NB448_441.out
        have hnc54 := NB441_448.out
        have hnb55 := NB448_442.out
        have hnc55 := NB442_448.out
        have hnb56 := NB448_454.out
        have hnc56 := NB454_448.out
        have hcz57_0 : wc.cell? ⟨gb448, 0, none⟩ = some (.int .i64 t443) := bc_ BK448 0
        have hcz57_1 : wc.cell? ⟨gb448, 1, none⟩ = some (.slice Ao20 t444.length co20) := bc_ BK448 1
        have hfz57_0 := blk_frozen BK448.out 0
        have hfz57_1 := blk_frozen BK448.out 1
        have hnb58 := NB442_441.out
        have hnc58 := NB441_442.out
        have hnb59 := NB442_454.out
        have hnc59 := NB454_442.out
        have hcz60_0 : wc.cell? ⟨gb442, 0, none⟩ = some (.int .i64 t438) := bc_ BK442 0
        have hcz60_1 : wc.cell? ⟨gb442, 1, none⟩ = some (.int .i64 t439) := bc_ BK442 1
        have hcz60_2 : wc.cell? ⟨gb442, 2, none⟩ = some (.int .i64 t440) := bc_ BK442 2
        have hfz60_0 := blk_frozen BK442.out 0
        have hfz60_1 := blk_frozen BK442.out 1
        have hfz60_2 := blk_frozen BK442.out 2
        as_aux_lemma =>
         go_upto_region 14 with (first | ((with_reducible refine gate_dst (N := 86) rfl ?_); refine goesL_ (some 86) rfl rfl Try.func10 (by kernel_rfl) rfl #[.agg #[.int .i64 t443, .slice Ao20 t444.length co20], .int .i64 t438] rfl tm_ ?_; (with_reducible refine (impl_PortOf.calls kj6 t443 _ _ t444 t438 t458 t459 _ ?side1 ?side2 A48.out).mono ?_); (case side1 => exact ca (Kd.R_reads' HO_449001.out).2.2); (case side2 => exact (Kd.R_reads' HO_449001.out).2.1); rintro e w61 ⟨rfl, hb⟩; refine ⟨_, rfl, ?_⟩; replace HO_442001 := rb_ HO_442001 hb; replace HO_449001 := rb_ HO_449001 hb; replace HO_455001 := rb_ HO_455001 hb; replace BK441 := bb_ BK441 hb; replace BK442 := bb_ BK442 hb; replace BK448 := bb_ BK448 hb; replace BK454 := bb_ BK454 hb; replace HB := bst_ HB hb; clear hb; obtain ⟨hcz62_0, hcz62_1⟩ := bcs2_ BK448; have hfz62_0 := blk_frozen BK448.out 0; have hfz62_1 := blk_frozen BK448.out 1; obtain ⟨hcz63_0, hcz63_1, hcz63_2⟩ := bcs3_ BK442; have hfz63_0 := blk_frozen BK442.out 0; have hfz63_1 := blk_frozen BK442.out 1; have hfz63_2 := blk_frozen BK442.out 2) | ((with_reducible refine gate_dst (N := 93) rfl ?_); refine goesL_ (some 93) rfl rfl Try.func11 (by kernel_rfl) rfl #[.agg #[.int .i64 t443, .slice Ao20 t444.length co20], .int .i64 t439] rfl tm_ ?_; (with_reducible refine (impl_FlushPort.calls kj6 t443 _ _ t444 t439 t460 t461 t464 _ ?side1 ?side2 A49.out).mono ?_); (case side1 => exact ca (Kd.R_reads' HO_449001.out).2.2); (case side2 => exact (Kd.R_reads' HO_449001.out).2.1); rintro e w64 ⟨v462, rfl, ho0, hb⟩; refine ⟨_, rfl, ?_⟩; have HO463 := Aside0.mk (Kd.R_lower (Kd.R_newB (Kd.R_new' (Kd.R_new' (Kd.R_new' ho0 (rl_ HO_442001)) (rl_ HO_449001)) (rl_ HO_455001)) (g := gb442) (o := .cells #[.int .i64 t438, .int .i64 t439, .int .i64 t440] 27 (0, 0)) (ba BK442.out)) (below_size (hB HB))); replace HO_442001 := re_ HO_442001 ho0 hb; replace HO_449001 := re_ HO_449001 ho0 hb; replace HO_455001 := re_ HO_455001 ho0 hb; replace BK441 := bb_ BK441 hb; replace BK442 := bb_ BK442 hb; replace BK448 := bb_ BK448 hb; replace BK454 := bb_ BK454 hb; replace HB := bst_ HB hb; clear hb ho0) | ((with_reducible refine gate_dst (N := 13) rfl ?_); refine box_event ?hg (N := 13) ?hd (cs := #[.int .i64 0, .slice none 0 0]) (t := 25) ?hr ?_; (case hd => rfl); (case hg => rfl); (case hr => first | (go_simp; done) | (go_simp; rfl)); intro gb465 hg w65 hbox hb; have BK465 := Aside0.mk (hbox); have GW465 := gw_ hg HB; have GE465 := gw_ hg HB; have NB441_465 := nl_ hg BK441; have NB465_441 := ng_ hg BK441; have NB442_465 := nl_ hg BK442; have NB465_442 := ng_ hg BK442; have NB448_465 := nl_ hg BK448; have NB465_448 := ng_ hg BK448; have NB454_465 := nl_ hg BK454; have NB465_454 := ng_ hg BK454; replace HO_442001 := rb_ HO_442001 hb; replace HO_449001 := rb_ HO_449001 hb; replace HO_455001 := rb_ HO_455001 hb; replace HO463 := rb_ HO463 hb; replace BK441 := bb_ BK441 hb; replace BK442 := bb_ BK442 hb; replace BK448 := bb_ BK448 hb; replace BK454 := bb_ BK454 hb; replace HB := bst_ HB hb; clear hb hbox hg; have hnb66 := NB465_441.out; have hnc66 := NB441_465.out; have hnb67 := NB465_442.out; have hnc67 := NB442_465.out; have hnb68 := NB465_448.out; have hnc68 := NB448_465.out; have hnb69 := NB465_454.out; have hnc69 := NB454_465.out; obtain ⟨hcz70_0, hcz70_1⟩ := bcs2_ BK465; have hfz70_0 := blk_frozen BK465.out 0; have hfz70_1 := blk_frozen BK465.out 1; obtain ⟨Ao71, co71, eo71⟩ := Kd.R_slice HO463.out; subst eo71; obtain ⟨hcz72_0, hcz72_1, hcz72_2⟩ := bcs3_ BK442; have hfz72_0 := blk_frozen BK442.out 0; have hfz72_1 := blk_frozen BK442.out 1; have hfz72_2 := blk_frozen BK442.out 2) | ((with_reducible refine gate_dst (N := 100) rfl ?_); refine goesL_ (some 100) rfl rfl Try.func10 (by kernel_rfl) rfl #[.agg #[.int .i64 t460, .slice Ao71 t461.length co71], .int .i64 t438] rfl tm_ ?_; (with_reducible refine (impl_PortOf.calls kj6 t460 _ _ t461 t438 t466 t467 _ ?side1 ?side2 A50.out).mono ?_); (case side1 => exact rr_ (fm2_ HO463 BK465)); (case side2 => exact (Kd.R_reads' HO463.out).2.1); rintro e w73 ⟨rfl, hb⟩; refine ⟨_, rfl, ?_⟩; replace HO_442001 := rb2_ HO_442001 BK465 hb; replace HO_449001 := rb2_ HO_449001 BK465 hb; replace HO_455001 := rb2_ HO_455001 BK465 hb; replace HO463 := rb2_ HO463 BK465 hb; replace BK441 := Aside0.mk (blk_below (bx BK441) hb); replace BK442 := Aside0.mk (blk_below (bx BK442) hb); replace BK448 := Aside0.mk (blk_below (bx BK448) hb); replace BK454 := Aside0.mk (blk_below (bx BK454) hb); replace BK465 := Aside0.mk (blk_below (g := gb465) (o := .cells #[.int .i64 t460, .slice Ao71 t461.length co71] 25 (0, 0)) (by (with_reducible repeat (first | refine blk_drewN ?_ _ | refine blk_drew ?_ | refine blk_alloc ?_ _)); refine blk_put (cs := #[.int .i64 t460, .slice none 0 0]) ?_ 1 _ rfl; (with_reducible repeat (first | refine blk_drewN ?_ _ | refine blk_drew ?_ | refine blk_alloc ?_ _)); refine blk_put (cs := #[.int .i64 0, .slice none 0 0]) ?_ 0 _ rfl; (with_reducible repeat (first | refine blk_drewN ?_ _ | refine blk_drew ?_ | refine blk_alloc ?_ _)); exact BK465.out) hb); replace HB := bst_ HB hb; clear hb; obtain ⟨hcz74_0, hcz74_1⟩ := bcs2_ BK448; have hfz74_0 := blk_frozen BK448.out 0; have hfz74_1 := blk_frozen BK448.out 1; obtain ⟨hcz75_0, hcz75_1, hcz75_2⟩ := bcs3_ BK442; have hfz75_0 := blk_frozen BK442.out 0; have hfz75_1 := blk_frozen BK442.out 1; have hfz75_2 := blk_frozen BK442.out 2) | ((with_reducible refine gate_dst (N := 107) rfl ?_); refine goesL_ (some 107) rfl rfl Try.func12 (by kernel_rfl) rfl #[.agg #[.int .i64 t443, .slice Ao20 t444.length co20], .int .i64 t440, .int .i64 0] rfl tm_ ?_; (with_reducible refine (impl_DropOld.calls kj6 t443 _ _ t444 t440 0 t468 t469 t472 _ ?side1 ?side2 A51.out).mono ?_); (case side1 => exact ca (Kd.R_reads' HO_449001.out).2.2); (case side2 => exact (Kd.R_reads' HO_449001.out).2.1); rintro e w76 ⟨v470, rfl, ho0, hb⟩; refine ⟨_, rfl, ?_⟩; have HO471 := Aside0.mk (Kd.R_lower (Kd.R_newB (Kd.R_new' (Kd.R_new' (Kd.R_new' (Kd.R_new' ho0 (rl_ HO_442001)) (rl_ HO_449001)) (rl_ HO_455001)) (rl_ HO463)) (g := gb442) (o := .cells #[.int .i64 t438, .int .i64 t439, .int .i64 t440] 27 (0, 0)) (ba BK442.out)) (below_size (hB HB))); replace HO_442001 := re_ HO_442001 ho0 hb; replace HO_449001 := re_ HO_449001 ho0 hb; replace HO_455001 := re_ HO_455001 ho0 hb; replace HO463 := re_ HO463 ho0 hb; replace BK441 := bb_ BK441 hb; replace BK442 := bb_ BK442 hb; replace BK448 := bb_ BK448 hb; replace BK454 := bb_ BK454 hb; replace BK465 := bb_ BK465 hb; replace HB := bst_ HB hb; clear hb ho0) | ((with_reducible refine gate_dst (N := 17) rfl ?_); refine box_event ?hg (N := 17) ?hd (cs := #[.int .i64 0, .slice none 0 0]) (t := 25) ?hr ?_; (case hd => rfl); (case hg => rfl); (case hr => first | (go_simp; done) | (go_simp; rfl)); intro gb473 hg w77 hbox hb; have BK473 := Aside0.mk (hbox); have GW473 := gw_ hg HB; have GE473 := gw_ hg HB; have NB441_473 := nl_ hg BK441; have NB473_441 := ng_ hg BK441; have NB442_473 := nl_ hg BK442; have NB473_442 := ng_ hg BK442; have NB448_473 := nl_ hg BK448; have NB473_448 := ng_ hg BK448; have NB454_473 := nl_ hg BK454; have NB473_454 := ng_ hg BK454; have NB465_473 := nl_ hg BK465; have NB473_465 := ng_ hg BK465; replace HO_442001 := rb_ HO_442001 hb; replace HO_449001 := rb_ HO_449001 hb; replace HO_455001 := rb_ HO_455001 hb; replace HO463 := rb_ HO463 hb; replace HO471 := rb_ HO471 hb; replace BK441 := bb_ BK441 hb; replace BK442 := bb_ BK442 hb; replace BK448 := bb_ BK448 hb; replace BK454 := bb_ BK454 hb; replace BK465 := bb_ BK465 hb; replace HB := bst_ HB hb; clear hb hbox hg; have hnb78 := NB473_441.out; have hnc78 := NB441_473.out; have hnb79 := NB473_442.out; have hnc79 := NB442_473.out; have hnb80 := NB473_448.out; have hnc80 := NB448_473.out; have hnb81 := NB473_454.out; have hnc81 := NB454_473.out; have hnb82 := NB473_465.out; have hnc82 := NB465_473.out; obtain ⟨hcz83_0, hcz83_1⟩ := bcs2_ BK473; have hfz83_0 := blk_frozen BK473.out 0; have hfz83_1 := blk_frozen BK473.out 1; obtain ⟨Ao84, co84, eo84⟩ := Kd.R_slice HO471.out; subst eo84; obtain ⟨hcz85_0, hcz85_1, hcz85_2⟩ := bcs3_ BK442; have hfz85_0 := blk_frozen BK442.out 0; have hfz85_1 := blk_frozen BK442.out 1; have hfz85_2 := blk_frozen BK442.out 2) | ((with_reducible refine gate_dst (N := 114) rfl ?_); refine goesL_ (some 114) rfl rfl Try.func10 (by kernel_rfl) rfl #[.agg #[.int .i64 t468, .slice Ao84 t469.length co84], .int .i64 t438] rfl tm_ ?_; (with_reducible refine (impl_PortOf.calls kj6 t468 _ _ t469 t438 t474 t475 _ ?side1 ?side2 A52.out).mono ?_); (case side1 => exact rr_ (fm2_ HO471 BK473)); (case side2 => exact (Kd.R_reads' HO471.out).2.1); rintro e w86 ⟨rfl, hb⟩; refine ⟨_, rfl, ?_⟩; replace HO_442001 := rb2_ HO_442001 BK473 hb; replace HO_449001 := rb2_ HO_449001 BK473 hb; replace HO_455001 := rb2_ HO_455001 BK473 hb; replace HO463 := rb2_ HO463 BK473 hb; replace HO471 := rb2_ HO471 BK473 hb; replace BK441 := Aside0.mk (blk_below (bx BK441) hb); replace BK442 := Aside0.mk (blk_below (bx BK442) hb); replace BK448 := Aside0.mk (blk_below (bx BK448) hb); replace BK454 := Aside0.mk (blk_below (bx BK454) hb); replace BK465 := Aside0.mk (blk_below (bx BK465) hb); replace BK473 := Aside0.mk (blk_below (g := gb473) (o := .cells #[.int .i64 t468, .slice Ao84 t469.length co84] 25 (0, 0)) (by (with_reducible repeat (first | refine blk_drewN ?_ _ | refine blk_drew ?_ | refine blk_alloc ?_ _)); refine blk_put (cs := #[.int .i64 t468, .slice none 0 0]) ?_ 1 _ rfl; (with_reducible repeat (first | refine blk_drewN ?_ _ | refine blk_drew ?_ | refine blk_alloc ?_ _)); refine blk_put (cs := #[.int .i64 0, .slice none 0 0]) ?_ 0 _ rfl; (with_reducible repeat (first | refine blk_drewN ?_ _ | refine blk_drew ?_ | refine blk_alloc ?_ _)); exact BK473.out) hb); replace HB := bst_ HB hb; clear hb))
         (try simp only [Act.put, List.setIfInBounds_toArray, List.set_cons_zero, List.set_cons_succ])
         go_cut [150] (fun v150 wc => ∃ (kq : Nat) (x150_52 : Bool), v150 = .bool x150_52 ∧ Aside0 (laws_FnHits.j1 kq l1 x150_52 t438 t439 t440 t468 t469 = some r) ∧ Aside0 (kq ≤ kj6) ∧ Aside0 (Kd.R k27 27 wc w.heap.size (fun k_ => no_ (.slice Ao20 t444.length co20) k_ ∧ no_ (.slice Ao29 t450.length co29) k_ ∧ no_ (.slice Ao71 t461.length co71) k_ ∧ no_ (.slice Ao84 t469.length co84) k_ ∧ k_ ≠ gb442) (.slice Ao13 t435.length co13) t435) ∧ Aside0 (Kd.R k27 27 wc w.heap.size (fun k_ => no_ (.slice Ao13 t435.length co13) k_ ∧ no_ (.slice Ao29 t450.length co29) k_ ∧ no_ (.slice Ao71 t461.length co71) k_ ∧ no_ (.slice Ao84 t469.length co84) k_ ∧ k_ ≠ gb442) (.slice Ao20 t444.length co20) t444) ∧ Aside0 (Kd.R k27 27 wc w.heap.size (fun k_ => no_ (.slice Ao13 t435.length co13) k_ ∧ no_ (.slice Ao20 t444.length co20) k_ ∧ no_ (.slice Ao71 t461.length co71) k_ ∧ no_ (.slice Ao84 t469.length co84) k_ ∧ k_ ≠ gb442) (.slice Ao29 t450.length co29) t450) ∧ Aside0 (Kd.R k27 27 wc w.heap.size (fun k_ => no_ (.slice Ao13 t435.length co13) k_ ∧ no_ (.slice Ao20 t444.length co20) k_ ∧ no_ (.slice Ao29 t450.length co29) k_ ∧ no_ (.slice Ao84 t469.length co84) k_ ∧ k_ ≠ gb442) (.slice Ao71 t461.length co71) t461) ∧ Aside0 (Kd.R k27 27 wc w.heap.size (fun k_ => no_ (.slice Ao13 t435.length co13) k_ ∧ no_ (.slice Ao20 t444.length co20) k_ ∧ no_ (.slice Ao29 t450.length co29) k_ ∧ no_ (.slice Ao71 t461.length co71) k_ ∧ k_ ≠ gb442) (.slice Ao84 t469.length co84) t469) ∧ Aside0 (wc.heap[gb441]? = some (.cells #[.int .i64 t434, (.slice Ao13 t435.length co13)] 25 (0, 0))) ∧ Aside0 (wc.heap[gb442]? = some (.cells #[.int .i64 t438, .int .i64 t439, .int .i64 t440] 27 (0, 0))) ∧ Aside0 (wc.heap[gb448]? = some (.cells #[.int .i64 t443, (.slice Ao20 t444.length co20)] 25 (0, 0))) ∧ Aside0 (wc.heap[gb454]? = some (.cells #[.int .i64 t449, (.slice Ao29 t450.length co29)] 25 (0, 0))) ∧ Aside0 (wc.heap[gb465]? = some (.cells #[.int .i64 t460, (.slice Ao71 t461.length co71)] 25 (0, 0))) ∧ Aside0 (wc.heap[gb473]? = some (.cells #[.int .i64 t468, (.slice Ao84 t469.length co84)] 25 (0, 0))) ∧ Aside0 (Below w.heap.size w wc))
         case first =>
          as_aux_lemma =>
           have H := HC53.out
           clear HC53
           replace H := Option.bind_eq_some_iff.mp H
           obtain ⟨t476, A870, H⟩ := H
           replace H : (if t476 = true then (if t459 = true then (if t458 = t439 then (if t464 = true then (if t467 = true then (laws_FnHits.j1 kj6 l1 true t438 t439 t440 t468 t469) else (if t472 = true then (if t475 = true then (laws_FnHits.j1 kj6 l1 (t474 != t439) t438 t439 t440 t468 t469) else (laws_FnHits.j1 kj6 l1 true t438 t439 t440 t468 t469)) else (laws_FnHits.j1 kj6 l1 true t438 t439 t440 t468 t469))) else (laws_FnHits.j1 kj6 l1 true t438 t439 t440 t468 t469)) else (laws_FnHits.j1 kj6 l1 true t438 t439 t440 t468 t469)) else (laws_FnHits.j1 kj6 l1 true t438 t439 t440 t468 t469)) else (laws_FnHits.j1 kj6 l1 true t438 t439 t440 t468 t469)) = some r := H
           have A87 := Aside0.mk A870
           clear A870
           by_cases c88 : t476 = true
           rotate_left
           ·replace c88 := Bool.eq_false_iff.mpr c88
            subst c88
            rw [if_neg (show ¬ (false = true) by decide)] at H
            have H' := Aside0.mk H
            clear H
            have hnb174 := NB448_441.out
            have hnc174 := NB441_448.out
            have hnb175 := NB448_442.out
            have hnc175 := NB442_448.out
            have hnb176 := NB448_454.out
            have hnc176 := NB454_448.out
            have hnb177 := NB448_465.out
            have hnc177 := NB465_448.out
            have hnb178 := NB448_473.out
            have hnc178 := NB473_448.out
            have hcz179_0 : w86.cell? ⟨gb448, 0, none⟩ = some (.int .i64 t443) := bc_ BK448 0
            have hcz179_1 : w86.cell? ⟨gb448, 1, none⟩ = some (.slice Ao20 t444.length co20) := bc_ BK448 1
            have hfz179_0 := blk_frozen BK448.out 0
            have hfz179_1 := blk_frozen BK448.out 1
            as_aux_lemma =>
             go_wp2_with (first | ((with_reducible refine gate_dst (N := 118) rfl ?_); refine goesL_ (some 118) rfl rfl Try.func8 (by kernel_rfl) rfl #[.agg #[.int .i64 t443, .slice Ao20 t444.length co20]] rfl tm_ ?_; (with_reducible refine (impl_GoodTable.calls kj6 t443 _ _ t444 false _ ?side1 ?side2 A87.out).mono ?_); (case side1 => exact ca (Kd.R_reads' HO_449001.out).2.2); (case side2 => exact (Kd.R_reads' HO_449001.out).2.1); rintro e w180 ⟨rfl, hb⟩; refine ⟨_, rfl, ?_⟩; replace HO_442001 := rb_ HO_442001 hb; replace HO_449001 := rb_ HO_449001 hb; replace HO_455001 := rb_ HO_455001 hb; replace HO463 := rb_ HO463 hb; replace HO471 := rb_ HO471 hb; replace BK441 := bb_ BK441 hb; replace BK442 := bb_ BK442 hb; replace BK448 := bb_ BK448 hb; replace BK454 := bb_ BK454 hb; replace BK465 := bb_ BK465 hb; replace BK473 := bb_ BK473 hb; replace HB := bst_ HB hb; clear hb))
             go_meet
             case rel => exact ⟨_, (true), (by first | rfl | (simp; done) | (simp [*]; done)), H', ⟨by have := HJ6.out; first | omega | exact Nat.le_refl _⟩, rm_ HO_442001 (fun _ hk => ⟨hk.1.1.1, ⟨hk.1.1.2.1, ⟨hk.1.2, ⟨hk.2, hk.1.1.2.2⟩⟩⟩⟩), rm_ HO_449001 (fun _ hk => ⟨hk.1.1.1, ⟨hk.1.1.2.1, ⟨hk.1.2, ⟨hk.2, hk.1.1.2.2⟩⟩⟩⟩), rm_ HO_455001 (fun _ hk => ⟨hk.1.1.1, ⟨hk.1.1.2.1, ⟨hk.1.2, ⟨hk.2, hk.1.1.2.2⟩⟩⟩⟩), rm_ HO463 (fun _ hk => ⟨hk.1.1.1.1.2, ⟨hk.1.1.1.2, ⟨hk.1.1.2, ⟨hk.2, hk.1.2⟩⟩⟩⟩), rm_ HO471 (fun _ hk => ⟨hk.1.1.1.1.2, ⟨hk.1.1.1.2, ⟨hk.1.1.2, ⟨hk.1.2, hk.2⟩⟩⟩⟩), ⟨by (with_reducible repeat (first | refine blk_drewN ?_ _ | refine blk_drew ?_ | refine blk_alloc ?_ _)); exact BK441.out⟩, ⟨by (with_reducible repeat (first | refine blk_drewN ?_ _ | refine blk_drew ?_ | refine blk_alloc ?_ _)); exact BK442.out⟩, ⟨by (with_reducible repeat (first | refine blk_drewN ?_ _ | refine blk_drew ?_ | refine blk_alloc ?_ _)); exact BK448.out⟩, ⟨by (with_reducible repeat (first | refine blk_drewN ?_ _ | refine blk_drew ?_ | refine blk_alloc ?_ _)); exact BK454.out⟩, ⟨by (with_reducible repeat (first | refine blk_drewN ?_ _ | refine blk_drew ?_ | refine blk_alloc ?_ _)); exact BK465.out⟩, ⟨by (with_reducible repeat (first | refine blk_drewN ?_ _ | refine blk_drew ?_ | refine blk_alloc ?_ _)); exact BK473.out⟩, ⟨hB HB⟩⟩
           subst c88
           rw [if_pos rfl] at H
           by_cases c89 : t459 = true
           rotate_left
           ·replace c89 := Bool.eq_false_iff.mpr c89
            subst c89
            rw [if_neg (show ¬ (false = true) by decide)] at H
            have H' := Aside0.mk H
            clear H
            have hnb167 := NB448_441.out
            have hnc167 := NB441_448.out
            have hnb168 := NB448_442.out
            have hnc168 := NB442_448.out
            have hnb169 := NB448_454.out
            have hnc169 := NB454_448.out
            have hnb170 := NB448_465.out
            have hnc170 := NB465_448.out
            have hnb171 := NB448_473.out
            have hnc171 := NB473_448.out
            have hcz172_0 : w86.cell? ⟨gb448, 0, none⟩ = some (.int .i64 t443) := bc_ BK448 0
            have hcz172_1 : w86.cell? ⟨gb448, 1, none⟩ = some (.slice Ao20 t444.length co20) := bc_ BK448 1
            have hfz172_0 := blk_frozen BK448.out 0
            have hfz172_1 := blk_frozen BK448.out 1
            as_aux_lemma =>
             go_wp2_with (first | ((with_reducible refine gate_dst (N := 118) rfl ?_); refine goesL_ (some 118) rfl rfl Try.func8 (by kernel_rfl) rfl #[.agg #[.int .i64 t443, .slice Ao20 t444.length co20]] rfl tm_ ?_; (with_reducible refine (impl_GoodTable.calls kj6 t443 _ _ t444 true _ ?side1 ?side2 A87.out).mono ?_); (case side1 => exact ca (Kd.R_reads' HO_449001.out).2.2); (case side2 => exact (Kd.R_reads' HO_449001.out).2.1); rintro e w173 ⟨rfl, hb⟩; refine ⟨_, rfl, ?_⟩; replace HO_442001 := rb_ HO_442001 hb; replace HO_449001 := rb_ HO_449001 hb; replace HO_455001 := rb_ HO_455001 hb; replace HO463 := rb_ HO463 hb; replace HO471 := rb_ HO471 hb; replace BK441 := bb_ BK441 hb; replace BK442 := bb_ BK442 hb; replace BK448 := bb_ BK448 hb; replace BK454 := bb_ BK454 hb; replace BK465 := bb_ BK465 hb; replace BK473 := bb_ BK473 hb; replace HB := bst_ HB hb; clear hb))
             go_meet
             case rel => exact ⟨_, (true), (by first | rfl | (simp; done) | (simp [*]; done)), H', ⟨by have := HJ6.out; first | omega | exact Nat.le_refl _⟩, rm_ HO_442001 (fun _ hk => ⟨hk.1.1.1, ⟨hk.1.1.2.1, ⟨hk.1.2, ⟨hk.2, hk.1.1.2.2⟩⟩⟩⟩), rm_ HO_449001 (fun _ hk => ⟨hk.1.1.1, ⟨hk.1.1.2.1, ⟨hk.1.2, ⟨hk.2, hk.1.1.2.2⟩⟩⟩⟩), rm_ HO_455001 (fun _ hk => ⟨hk.1.1.1, ⟨hk.1.1.2.1, ⟨hk.1.2, ⟨hk.2, hk.1.1.2.2⟩⟩⟩⟩), rm_ HO463 (fun _ hk => ⟨hk.1.1.1.1.2, ⟨hk.1.1.1.2, ⟨hk.1.1.2, ⟨hk.2, hk.1.2⟩⟩⟩⟩), rm_ HO471 (fun _ hk => ⟨hk.1.1.1.1.2, ⟨hk.1.1.1.2, ⟨hk.1.1.2, ⟨hk.1.2, hk.2⟩⟩⟩⟩), ⟨by (with_reducible repeat (first | refine blk_drewN ?_ _ | refine blk_drew ?_ | refine blk_alloc ?_ _)); exact BK441.out⟩, ⟨by (with_reducible repeat (first | refine blk_drewN ?_ _ | refine blk_drew ?_ | refine blk_alloc ?_ _)); exact BK442.out⟩, ⟨by (with_reducible repeat (first | refine blk_drewN ?_ _ | refine blk_drew ?_ | refine blk_alloc ?_ _)); exact BK448.out⟩, ⟨by (with_reducible repeat (first | refine blk_drewN ?_ _ | refine blk_drew ?_ | refine blk_alloc ?_ _)); exact BK454.out⟩, ⟨by (with_reducible repeat (first | refine blk_drewN ?_ _ | refine blk_drew ?_ | refine blk_alloc ?_ _)); exact BK465.out⟩, ⟨by (with_reducible repeat (first | refine blk_drewN ?_ _ | refine blk_drew ?_ | refine blk_alloc ?_ _)); exact BK473.out⟩, ⟨hB HB⟩⟩
           subst c89
           rw [if_pos rfl] at H
           by_cases c90 : t458 = t439
           rotate_left
           ·rw [if_neg c90] at H
            have c90b0 : (t458 == t439) = false := beq_eq_false_iff_ne.mpr c90
            have c90b1 : (t458 != t439) = true := bne_iff_ne.mpr c90
            (first | rw [c90b0] | (simp only [i64_w, i32_w]; rw [c90b0]) | skip)
            have H' := Aside0.mk H
            clear H
            have hnb155 := NB448_441.out
            have hnc155 := NB441_448.out
            have hnb156 := NB448_442.out
            have hnc156 := NB442_448.out
            have hnb157 := NB448_454.out
            have hnc157 := NB454_448.out
            have hnb158 := NB448_465.out
            have hnc158 := NB465_448.out
            have hnb159 := NB448_473.out
            have hnc159 := NB473_448.out
            have hcz160_0 : w86.cell? ⟨gb448, 0, none⟩ = some (.int .i64 t443) := bc_ BK448 0
            have hcz160_1 : w86.cell? ⟨gb448, 1, none⟩ = some (.slice Ao20 t444.length co20) := bc_ BK448 1
            have hfz160_0 := blk_frozen BK448.out 0
            have hfz160_1 := blk_frozen BK448.out 1
            as_aux_lemma =>
             go_wp2_with (first | ((with_reducible refine gate_dst (N := 118) rfl ?_); refine goesL_ (some 118) rfl rfl Try.func8 (by kernel_rfl) rfl #[.agg #[.int .i64 t443, .slice Ao20 t444.length co20]] rfl tm_ ?_; (with_reducible refine (impl_GoodTable.calls kj6 t443 _ _ t444 true _ ?side1 ?side2 A87.out).mono ?_); (case side1 => exact ca (Kd.R_reads' HO_449001.out).2.2); (case side2 => exact (Kd.R_reads' HO_449001.out).2.1); rintro e w161 ⟨rfl, hb⟩; refine ⟨_, rfl, ?_⟩; replace HO_442001 := rb_ HO_442001 hb; replace HO_449001 := rb_ HO_449001 hb; replace HO_455001 := rb_ HO_455001 hb; replace HO463 := rb_ HO463 hb; replace HO471 := rb_ HO471 hb; replace BK441 := bb_ BK441 hb; replace BK442 := bb_ BK442 hb; replace BK448 := bb_ BK448 hb; replace BK454 := bb_ BK454 hb; replace BK465 := bb_ BK465 hb; replace BK473 := bb_ BK473 hb; replace HB := bst_ HB hb; clear hb; have hnb162 := NB442_441.out; have hnc162 := NB441_442.out; have hnb163 := NB442_454.out; have hnc163 := NB454_442.out; have hnb164 := NB442_465.out; have hnc164 := NB465_442.out; have hnb165 := NB442_473.out; have hnc165 := NB473_442.out; obtain ⟨hcz166_0, hcz166_1, hcz166_2⟩ := bcs3_ BK442; have hfz166_0 := blk_frozen BK442.out 0; have hfz166_1 := blk_frozen BK442.out 1; have hfz166_2 := blk_frozen BK442.out 2))
             go_meet
             case rel => exact ⟨_, (true), (by first | rfl | (simp; done) | (simp [*]; done)), H', ⟨by have := HJ6.out; first | omega | exact Nat.le_refl _⟩, rm_ HO_442001 (fun _ hk => ⟨hk.1.1.1, ⟨hk.1.1.2.1, ⟨hk.1.2, ⟨hk.2, hk.1.1.2.2⟩⟩⟩⟩), rm_ HO_449001 (fun _ hk => ⟨hk.1.1.1, ⟨hk.1.1.2.1, ⟨hk.1.2, ⟨hk.2, hk.1.1.2.2⟩⟩⟩⟩), rm_ HO_455001 (fun _ hk => ⟨hk.1.1.1, ⟨hk.1.1.2.1, ⟨hk.1.2, ⟨hk.2, hk.1.1.2.2⟩⟩⟩⟩), rm_ HO463 (fun _ hk => ⟨hk.1.1.1.1.2, ⟨hk.1.1.1.2, ⟨hk.1.1.2, ⟨hk.2, hk.1.2⟩⟩⟩⟩), rm_ HO471 (fun _ hk => ⟨hk.1.1.1.1.2, ⟨hk.1.1.1.2, ⟨hk.1.1.2, ⟨hk.1.2, hk.2⟩⟩⟩⟩), ⟨by (with_reducible repeat (first | refine blk_drewN ?_ _ | refine blk_drew ?_ | refine blk_alloc ?_ _)); exact BK441.out⟩, ⟨by (with_reducible repeat (first | refine blk_drewN ?_ _ | refine blk_drew ?_ | refine blk_alloc ?_ _)); exact BK442.out⟩, ⟨by (with_reducible repeat (first | refine blk_drewN ?_ _ | refine blk_drew ?_ | refine blk_alloc ?_ _)); exact BK448.out⟩, ⟨by (with_reducible repeat (first | refine blk_drewN ?_ _ | refine blk_drew ?_ | refine blk_alloc ?_ _)); exact BK454.out⟩, ⟨by (with_reducible repeat (first | refine blk_drewN ?_ _ | refine blk_drew ?_ | refine blk_alloc ?_ _)); exact BK465.out⟩, ⟨by (with_reducible repeat (first | refine blk_drewN ?_ _ | refine blk_drew ?_ | refine blk_alloc ?_ _)); exact BK473.out⟩, ⟨hB HB⟩⟩
           rw [if_pos c90] at H
           have c90b0 : (t458 == t439) = true := beq_iff_eq.mpr c90
           have c90b1 : (t458 != t439) = false := bne_eq_false_iff_eq.mpr c90
           clear c90
           (first | rw [c90b0] | (simp only [i64_w, i32_w]; rw [c90b0]) | skip)
           by_cases c91 : t464 = true
           rotate_left
           ·replace c91 := Bool.eq_false_iff.mpr c91
            subst c91
            rw [if_neg (show ¬ (false = true) by decide)] at H
            have H' := Aside0.mk H
            clear H
            have hnb143 := NB448_441.out
            have hnc143 := NB441_448.out
            have hnb144 := NB448_442.out
            have hnc144 := NB442_448.out
            have hnb145 := NB448_454.out
            have hnc145 := NB454_448.out
            have hnb146 := NB448_465.out
            have hnc146 := NB465_448.out
            have hnb147 := NB448_473.out
            have hnc147 := NB473_448.out
            have hcz148_0 : w86.cell? ⟨gb448, 0, none⟩ = some (.int .i64 t443) := bc_ BK448 0
            have hcz148_1 : w86.cell? ⟨gb448, 1, none⟩ = some (.slice Ao20 t444.length co20) := bc_ BK448 1
            have hfz148_0 := blk_frozen BK448.out 0
            have hfz148_1 := blk_frozen BK448.out 1
            as_aux_lemma =>
             go_wp2_with (first | ((with_reducible refine gate_dst (N := 118) rfl ?_); refine goesL_ (some 118) rfl rfl Try.func8 (by kernel_rfl) rfl #[.agg #[.int .i64 t443, .slice Ao20 t444.length co20]] rfl tm_ ?_; (with_reducible refine (impl_GoodTable.calls kj6 t443 _ _ t444 true _ ?side1 ?side2 A87.out).mono ?_); (case side1 => exact ca (Kd.R_reads' HO_449001.out).2.2); (case side2 => exact (Kd.R_reads' HO_449001.out).2.1); rintro e w149 ⟨rfl, hb⟩; refine ⟨_, rfl, ?_⟩; replace HO_442001 := rb_ HO_442001 hb; replace HO_449001 := rb_ HO_449001 hb; replace HO_455001 := rb_ HO_455001 hb; replace HO463 := rb_ HO463 hb; replace HO471 := rb_ HO471 hb; replace BK441 := bb_ BK441 hb; replace BK442 := bb_ BK442 hb; replace BK448 := bb_ BK448 hb; replace BK454 := bb_ BK454 hb; replace BK465 := bb_ BK465 hb; replace BK473 := bb_ BK473 hb; replace HB := bst_ HB hb; clear hb; have hnb150 := NB442_441.out; have hnc150 := NB441_442.out; have hnb151 := NB442_454.out; have hnc151 := NB454_442.out; have hnb152 := NB442_465.out; have hnc152 := NB465_442.out; have hnb153 := NB442_473.out; have hnc153 := NB473_442.out; obtain ⟨hcz154_0, hcz154_1, hcz154_2⟩ := bcs3_ BK442; have hfz154_0 := blk_frozen BK442.out 0; have hfz154_1 := blk_frozen BK442.out 1; have hfz154_2 := blk_frozen BK442.out 2))
             go_meet
             case rel => exact ⟨_, (true), (by first | rfl | (simp; done) | (simp [*]; done)), H', ⟨by have := HJ6.out; first | omega | exact Nat.le_refl _⟩, rm_ HO_442001 (fun _ hk => ⟨hk.1.1.1, ⟨hk.1.1.2.1, ⟨hk.1.2, ⟨hk.2, hk.1.1.2.2⟩⟩⟩⟩), rm_ HO_449001 (fun _ hk => ⟨hk.1.1.1, ⟨hk.1.1.2.1, ⟨hk.1.2, ⟨hk.2, hk.1.1.2.2⟩⟩⟩⟩), rm_ HO_455001 (fun _ hk => ⟨hk.1.1.1, ⟨hk.1.1.2.1, ⟨hk.1.2, ⟨hk.2, hk.1.1.2.2⟩⟩⟩⟩), rm_ HO463 (fun _ hk => ⟨hk.1.1.1.1.2, ⟨hk.1.1.1.2, ⟨hk.1.1.2, ⟨hk.2, hk.1.2⟩⟩⟩⟩), rm_ HO471 (fun _ hk => ⟨hk.1.1.1.1.2, ⟨hk.1.1.1.2, ⟨hk.1.1.2, ⟨hk.1.2, hk.2⟩⟩⟩⟩), ⟨by (with_reducible repeat (first | refine blk_drewN ?_ _ | refine blk_drew ?_ | refine blk_alloc ?_ _)); exact BK441.out⟩, ⟨by (with_reducible repeat (first | refine blk_drewN ?_ _ | refine blk_drew ?_ | refine blk_alloc ?_ _)); exact BK442.out⟩, ⟨by (with_reducible repeat (first | refine blk_drewN ?_ _ | refine blk_drew ?_ | refine blk_alloc ?_ _)); exact BK448.out⟩, ⟨by (with_reducible repeat (first | refine blk_drewN ?_ _ | refine blk_drew ?_ | refine blk_alloc ?_ _)); exact BK454.out⟩, ⟨by (with_reducible repeat (first | refine blk_drewN ?_ _ | refine blk_drew ?_ | refine blk_alloc ?_ _)); exact BK465.out⟩, ⟨by (with_reducible repeat (first | refine blk_drewN ?_ _ | refine blk_drew ?_ | refine blk_alloc ?_ _)); exact BK473.out⟩, ⟨hB HB⟩⟩
           subst c91
           rw [if_pos rfl] at H
           by_cases c92 : t467 = true
           ·subst c92
            rw [if_pos rfl] at H
            have H' := Aside0.mk H
            clear H
            have hnb93 := NB448_441.out
            have hnc93 := NB441_448.out
            have hnb94 := NB448_442.out
            have hnc94 := NB442_448.out
            have hnb95 := NB448_454.out
            have hnc95 := NB454_448.out
            have hnb96 := NB448_465.out
            have hnc96 := NB465_448.out
            have hnb97 := NB448_473.out
            have hnc97 := NB473_448.out
            have hcz98_0 : w86.cell? ⟨gb448, 0, none⟩ = some (.int .i64 t443) := bc_ BK448 0
            have hcz98_1 : w86.cell? ⟨gb448, 1, none⟩ = some (.slice Ao20 t444.length co20) := bc_ BK448 1
            have hfz98_0 := blk_frozen BK448.out 0
            have hfz98_1 := blk_frozen BK448.out 1
            as_aux_lemma =>
             go_wp2_with (first | ((with_reducible refine gate_dst (N := 118) rfl ?_); refine goesL_ (some 118) rfl rfl Try.func8 (by kernel_rfl) rfl #[.agg #[.int .i64 t443, .slice Ao20 t444.length co20]] rfl tm_ ?_; (with_reducible refine (impl_GoodTable.calls kj6 t443 _ _ t444 true _ ?side1 ?side2 A87.out).mono ?_); (case side1 => exact ca (Kd.R_reads' HO_449001.out).2.2); (case side2 => exact (Kd.R_reads' HO_449001.out).2.1); rintro e w99 ⟨rfl, hb⟩; refine ⟨_, rfl, ?_⟩; replace HO_442001 := rb_ HO_442001 hb; replace HO_449001 := rb_ HO_449001 hb; replace HO_455001 := rb_ HO_455001 hb; replace HO463 := rb_ HO463 hb; replace HO471 := rb_ HO471 hb; replace BK441 := bb_ BK441 hb; replace BK442 := bb_ BK442 hb; replace BK448 := bb_ BK448 hb; replace BK454 := bb_ BK454 hb; replace BK465 := bb_ BK465 hb; replace BK473 := bb_ BK473 hb; replace HB := bst_ HB hb; clear hb; have hnb100 := NB442_441.out; have hnc100 := NB441_442.out; have hnb101 := NB442_454.out; have hnc101 := NB454_442.out; have hnb102 := NB442_465.out; have hnc102 := NB465_442.out; have hnb103 := NB442_473.out; have hnc103 := NB473_442.out; obtain ⟨hcz104_0, hcz104_1, hcz104_2⟩ := bcs3_ BK442; have hfz104_0 := blk_frozen BK442.out 0; have hfz104_1 := blk_frozen BK442.out 1; have hfz104_2 := blk_frozen BK442.out 2))
             go_meet
             case rel => exact ⟨_, (true), (by first | rfl | (simp; done) | (simp [*]; done)), H', ⟨by have := HJ6.out; first | omega | exact Nat.le_refl _⟩, rm_ HO_442001 (fun _ hk => ⟨hk.1.1.1, ⟨hk.1.1.2.1, ⟨hk.1.2, ⟨hk.2, hk.1.1.2.2⟩⟩⟩⟩), rm_ HO_449001 (fun _ hk => ⟨hk.1.1.1, ⟨hk.1.1.2.1, ⟨hk.1.2, ⟨hk.2, hk.1.1.2.2⟩⟩⟩⟩), rm_ HO_455001 (fun _ hk => ⟨hk.1.1.1, ⟨hk.1.1.2.1, ⟨hk.1.2, ⟨hk.2, hk.1.1.2.2⟩⟩⟩⟩), rm_ HO463 (fun _ hk => ⟨hk.1.1.1.1.2, ⟨hk.1.1.1.2, ⟨hk.1.1.2, ⟨hk.2, hk.1.2⟩⟩⟩⟩), rm_ HO471 (fun _ hk => ⟨hk.1.1.1.1.2, ⟨hk.1.1.1.2, ⟨hk.1.1.2, ⟨hk.1.2, hk.2⟩⟩⟩⟩), ⟨by (with_reducible repeat (first | refine blk_drewN ?_ _ | refine blk_drew ?_ | refine blk_alloc ?_ _)); exact BK441.out⟩, ⟨by (with_reducible repeat (first | refine blk_drewN ?_ _ | refine blk_drew ?_ | refine blk_alloc ?_ _)); exact BK442.out⟩, ⟨by (with_reducible repeat (first | refine blk_drewN ?_ _ | refine blk_drew ?_ | refine blk_alloc ?_ _)); exact BK448.out⟩, ⟨by (with_reducible repeat (first | refine blk_drewN ?_ _ | refine blk_drew ?_ | refine blk_alloc ?_ _)); exact BK454.out⟩, ⟨by (with_reducible repeat (first | refine blk_drewN ?_ _ | refine blk_drew ?_ | refine blk_alloc ?_ _)); exact BK465.out⟩, ⟨by (with_reducible repeat (first | refine blk_drewN ?_ _ | refine blk_drew ?_ | refine blk_alloc ?_ _)); exact BK473.out⟩, ⟨hB HB⟩⟩
           replace c92 := Bool.eq_false_iff.mpr c92
           subst c92
           rw [if_neg (show ¬ (false = true) by decide)] at H
           by_cases c105 : t472 = true
           rotate_left
           ·replace c105 := Bool.eq_false_iff.mpr c105
            subst c105
            rw [if_neg (show ¬ (false = true) by decide)] at H
            have H' := Aside0.mk H
            clear H
            have hnb131 := NB448_441.out
            have hnc131 := NB441_448.out
            have hnb132 := NB448_442.out
            have hnc132 := NB442_448.out
            have hnb133 := NB448_454.out
            have hnc133 := NB454_448.out
            have hnb134 := NB448_465.out
            have hnc134 := NB465_448.out
            have hnb135 := NB448_473.out
            have hnc135 := NB473_448.out
            have hcz136_0 : w86.cell? ⟨gb448, 0, none⟩ = some (.int .i64 t443) := bc_ BK448 0
            have hcz136_1 : w86.cell? ⟨gb448, 1, none⟩ = some (.slice Ao20 t444.length co20) := bc_ BK448 1
            have hfz136_0 := blk_frozen BK448.out 0
            have hfz136_1 := blk_frozen BK448.out 1
            as_aux_lemma =>
             go_wp2_with (first | ((with_reducible refine gate_dst (N := 118) rfl ?_); refine goesL_ (some 118) rfl rfl Try.func8 (by kernel_rfl) rfl #[.agg #[.int .i64 t443, .slice Ao20 t444.length co20]] rfl tm_ ?_; (with_reducible refine (impl_GoodTable.calls kj6 t443 _ _ t444 true _ ?side1 ?side2 A87.out).mono ?_); (case side1 => exact ca (Kd.R_reads' HO_449001.out).2.2); (case side2 => exact (Kd.R_reads' HO_449001.out).2.1); rintro e w137 ⟨rfl, hb⟩; refine ⟨_, rfl, ?_⟩; replace HO_442001 := rb_ HO_442001 hb; replace HO_449001 := rb_ HO_449001 hb; replace HO_455001 := rb_ HO_455001 hb; replace HO463 := rb_ HO463 hb; replace HO471 := rb_ HO471 hb; replace BK441 := bb_ BK441 hb; replace BK442 := bb_ BK442 hb; replace BK448 := bb_ BK448 hb; replace BK454 := bb_ BK454 hb; replace BK465 := bb_ BK465 hb; replace BK473 := bb_ BK473 hb; replace HB := bst_ HB hb; clear hb; have hnb138 := NB442_441.out; have hnc138 := NB441_442.out; have hnb139 := NB442_454.out; have hnc139 := NB454_442.out; have hnb140 := NB442_465.out; have hnc140 := NB465_442.out; have hnb141 := NB442_473.out; have hnc141 := NB473_442.out; obtain ⟨hcz142_0, hcz142_1, hcz142_2⟩ := bcs3_ BK442; have hfz142_0 := blk_frozen BK442.out 0; have hfz142_1 := blk_frozen BK442.out 1; have hfz142_2 := blk_frozen BK442.out 2))
             go_meet
             case rel => exact ⟨_, (true), (by first | rfl | (simp; done) | (simp [*]; done)), H', ⟨by have := HJ6.out; first | omega | exact Nat.le_refl _⟩, rm_ HO_442001 (fun _ hk => ⟨hk.1.1.1, ⟨hk.1.1.2.1, ⟨hk.1.2, ⟨hk.2, hk.1.1.2.2⟩⟩⟩⟩), rm_ HO_449001 (fun _ hk => ⟨hk.1.1.1, ⟨hk.1.1.2.1, ⟨hk.1.2, ⟨hk.2, hk.1.1.2.2⟩⟩⟩⟩), rm_ HO_455001 (fun _ hk => ⟨hk.1.1.1, ⟨hk.1.1.2.1, ⟨hk.1.2, ⟨hk.2, hk.1.1.2.2⟩⟩⟩⟩), rm_ HO463 (fun _ hk => ⟨hk.1.1.1.1.2, ⟨hk.1.1.1.2, ⟨hk.1.1.2, ⟨hk.2, hk.1.2⟩⟩⟩⟩), rm_ HO471 (fun _ hk => ⟨hk.1.1.1.1.2, ⟨hk.1.1.1.2, ⟨hk.1.1.2, ⟨hk.1.2, hk.2⟩⟩⟩⟩), ⟨by (with_reducible repeat (first | refine blk_drewN ?_ _ | refine blk_drew ?_ | refine blk_alloc ?_ _)); exact BK441.out⟩, ⟨by (with_reducible repeat (first | refine blk_drewN ?_ _ | refine blk_drew ?_ | refine blk_alloc ?_ _)); exact BK442.out⟩, ⟨by (with_reducible repeat (first | refine blk_drewN ?_ _ | refine blk_drew ?_ | refine blk_alloc ?_ _)); exact BK448.out⟩, ⟨by (with_reducible repeat (first | refine blk_drewN ?_ _ | refine blk_drew ?_ | refine blk_alloc ?_ _)); exact BK454.out⟩, ⟨by (with_reducible repeat (first | refine blk_drewN ?_ _ | refine blk_drew ?_ | refine blk_alloc ?_ _)); exact BK465.out⟩, ⟨by (with_reducible repeat (first | refine blk_drewN ?_ _ | refine blk_drew ?_ | refine blk_alloc ?_ _)); exact BK473.out⟩, ⟨hB HB⟩⟩
           subst c105
           rw [if_pos rfl] at H
           by_cases c106 : t475 = true
           ·subst c106
            rw [if_pos rfl] at H
            have H' := Aside0.mk H
            clear H
            have hnb107 := NB448_441.out
            have hnc107 := NB441_448.out
            have hnb108 := NB448_442.out
            have hnc108 := NB442_448.out
            have hnb109 := NB448_454.out
            have hnc109 := NB454_448.out
            have hnb110 := NB448_465.out
            have hnc110 := NB465_448.out
            have hnb111 := NB448_473.out
            have hnc111 := NB473_448.out
            have hcz112_0 : w86.cell? ⟨gb448, 0, none⟩ = some (.int .i64 t443) := bc_ BK448 0
            have hcz112_1 : w86.cell? ⟨gb448, 1, none⟩ = some (.slice Ao20 t444.length co20) := bc_ BK448 1
            have hfz112_0 := blk_frozen BK448.out 0
            have hfz112_1 := blk_frozen BK448.out 1
            as_aux_lemma =>
             go_wp2_with (first | ((with_reducible refine gate_dst (N := 118) rfl ?_); refine goesL_ (some 118) rfl rfl Try.func8 (by kernel_rfl) rfl #[.agg #[.int .i64 t443, .slice Ao20 t444.length co20]] rfl tm_ ?_; (with_reducible refine (impl_GoodTable.calls kj6 t443 _ _ t444 true _ ?side1 ?side2 A87.out).mono ?_); (case side1 => exact ca (Kd.R_reads' HO_449001.out).2.2); (case side2 => exact (Kd.R_reads' HO_449001.out).2.1); rintro e w113 ⟨rfl, hb⟩; refine ⟨_, rfl, ?_⟩; replace HO_442001 := rb_ HO_442001 hb; replace HO_449001 := rb_ HO_449001 hb; replace HO_455001 := rb_ HO_455001 hb; replace HO463 := rb_ HO463 hb; replace HO471 := rb_ HO471 hb; replace BK441 := bb_ BK441 hb; replace BK442 := bb_ BK442 hb; replace BK448 := bb_ BK448 hb; replace BK454 := bb_ BK454 hb; replace BK465 := bb_ BK465 hb; replace BK473 := bb_ BK473 hb; replace HB := bst_ HB hb; clear hb; have hnb114 := NB442_441.out; have hnc114 := NB441_442.out; have hnb115 := NB442_454.out; have hnc115 := NB454_442.out; have hnb116 := NB442_465.out; have hnc116 := NB465_442.out; have hnb117 := NB442_473.out; have hnc117 := NB473_442.out; obtain ⟨hcz118_0, hcz118_1, hcz118_2⟩ := bcs3_ BK442; have hfz118_0 := blk_frozen BK442.out 0; have hfz118_1 := blk_frozen BK442.out 1; have hfz118_2 := blk_frozen BK442.out 2))
             go_meet
             case rel => exact ⟨_, ((t474 != t439)), (by first | rfl | (simp; done) | (simp [*]; done)), H', ⟨by have := HJ6.out; first | omega | exact Nat.le_refl _⟩, rm_ HO_442001 (fun _ hk => ⟨hk.1.1.1, ⟨hk.1.1.2.1, ⟨hk.1.2, ⟨hk.2, hk.1.1.2.2⟩⟩⟩⟩), rm_ HO_449001 (fun _ hk => ⟨hk.1.1.1, ⟨hk.1.1.2.1, ⟨hk.1.2, ⟨hk.2, hk.1.1.2.2⟩⟩⟩⟩), rm_ HO_455001 (fun _ hk => ⟨hk.1.1.1, ⟨hk.1.1.2.1, ⟨hk.1.2, ⟨hk.2, hk.1.1.2.2⟩⟩⟩⟩), rm_ HO463 (fun _ hk => ⟨hk.1.1.1.1.2, ⟨hk.1.1.1.2, ⟨hk.1.1.2, ⟨hk.2, hk.1.2⟩⟩⟩⟩), rm_ HO471 (fun _ hk => ⟨hk.1.1.1.1.2, ⟨hk.1.1.1.2, ⟨hk.1.1.2, ⟨hk.1.2, hk.2⟩⟩⟩⟩), ⟨by (with_reducible repeat (first | refine blk_drewN ?_ _ | refine blk_drew ?_ | refine blk_alloc ?_ _)); exact BK441.out⟩, ⟨by (with_reducible repeat (first | refine blk_drewN ?_ _ | refine blk_drew ?_ | refine blk_alloc ?_ _)); exact BK442.out⟩, ⟨by (with_reducible repeat (first | refine blk_drewN ?_ _ | refine blk_drew ?_ | refine blk_alloc ?_ _)); exact BK448.out⟩, ⟨by (with_reducible repeat (first | refine blk_drewN ?_ _ | refine blk_drew ?_ | refine blk_alloc ?_ _)); exact BK454.out⟩, ⟨by (with_reducible repeat (first | refine blk_drewN ?_ _ | refine blk_drew ?_ | refine blk_alloc ?_ _)); exact BK465.out⟩, ⟨by (with_reducible repeat (first | refine blk_drewN ?_ _ | refine blk_drew ?_ | refine blk_alloc ?_ _)); exact BK473.out⟩, ⟨hB HB⟩⟩
           replace c106 := Bool.eq_false_iff.mpr c106
           subst c106
           rw [if_neg (show ¬ (false = true) by decide)] at H
           have H' := Aside0.mk H
           clear H
           have hnb119 := NB448_441.out
           have hnc119 := NB441_448.out
           have hnb120 := NB448_442.out
           have hnc120 := NB442_448.out
           have hnb121 := NB448_454.out
           have hnc121 := NB454_448.out
           have hnb122 := NB448_465.out
           have hnc122 := NB465_448.out
           have hnb123 := NB448_473.out
           have hnc123 := NB473_448.out
           have hcz124_0 : w86.cell? ⟨gb448, 0, none⟩ = some (.int .i64 t443) := bc_ BK448 0
           have hcz124_1 : w86.cell? ⟨gb448, 1, none⟩ = some (.slice Ao20 t444.length co20) := bc_ BK448 1
           have hfz124_0 := blk_frozen BK448.out 0
           have hfz124_1 := blk_frozen BK448.out 1
           as_aux_lemma =>
            go_wp2_with (first | ((with_reducible refine gate_dst (N := 118) rfl ?_); refine goesL_ (some 118) rfl rfl Try.func8 (by kernel_rfl) rfl #[.agg #[.int .i64 t443, .slice Ao20 t444.length co20]] rfl tm_ ?_; (with_reducible refine (impl_GoodTable.calls kj6 t443 _ _ t444 true _ ?side1 ?side2 A87.out).mono ?_); (case side1 => exact ca (Kd.R_reads' HO_449001.out).2.2); (case side2 => exact (Kd.R_reads' HO_449001.out).2.1); rintro e w125 ⟨rfl, hb⟩; refine ⟨_, rfl, ?_⟩; replace HO_442001 := rb_ HO_442001 hb; replace HO_449001 := rb_ HO_449001 hb; replace HO_455001 := rb_ HO_455001 hb; replace HO463 := rb_ HO463 hb; replace HO471 := rb_ HO471 hb; replace BK441 := bb_ BK441 hb; replace BK442 := bb_ BK442 hb; replace BK448 := bb_ BK448 hb; replace BK454 := bb_ BK454 hb; replace BK465 := bb_ BK465 hb; replace BK473 := bb_ BK473 hb; replace HB := bst_ HB hb; clear hb; have hnb126 := NB442_441.out; have hnc126 := NB441_442.out; have hnb127 := NB442_454.out; have hnc127 := NB454_442.out; have hnb128 := NB442_465.out; have hnc128 := NB465_442.out; have hnb129 := NB442_473.out; have hnc129 := NB473_442.out; obtain ⟨hcz130_0, hcz130_1, hcz130_2⟩ := bcs3_ BK442; have hfz130_0 := blk_frozen BK442.out 0; have hfz130_1 := blk_frozen BK442.out 1; have hfz130_2 := blk_frozen BK442.out 2))
            go_meet
            case rel => exact ⟨_, (true), (by first | rfl | (simp; done) | (simp [*]; done)), H', ⟨by have := HJ6.out; first | omega | exact Nat.le_refl _⟩, rm_ HO_442001 (fun _ hk => ⟨hk.1.1.1, ⟨hk.1.1.2.1, ⟨hk.1.2, ⟨hk.2, hk.1.1.2.2⟩⟩⟩⟩), rm_ HO_449001 (fun _ hk => ⟨hk.1.1.1, ⟨hk.1.1.2.1, ⟨hk.1.2, ⟨hk.2, hk.1.1.2.2⟩⟩⟩⟩), rm_ HO_455001 (fun _ hk => ⟨hk.1.1.1, ⟨hk.1.1.2.1, ⟨hk.1.2, ⟨hk.2, hk.1.1.2.2⟩⟩⟩⟩), rm_ HO463 (fun _ hk => ⟨hk.1.1.1.1.2, ⟨hk.1.1.1.2, ⟨hk.1.1.2, ⟨hk.2, hk.1.2⟩⟩⟩⟩), rm_ HO471 (fun _ hk => ⟨hk.1.1.1.1.2, ⟨hk.1.1.1.2, ⟨hk.1.1.2, ⟨hk.1.2, hk.2⟩⟩⟩⟩), ⟨by (with_reducible repeat (first | refine blk_drewN ?_ _ | refine blk_drew ?_ | refine blk_alloc ?_ _)); exact BK441.out⟩, ⟨by (with_reducible repeat (first | refine blk_drewN ?_ _ | refine blk_drew ?_ | refine blk_alloc ?_ _)); exact BK442.out⟩, ⟨by (with_reducible repeat (first | refine blk_drewN ?_ _ | refine blk_drew ?_ | refine blk_alloc ?_ _)); exact BK448.out⟩, ⟨by (with_reducible repeat (first | refine blk_drewN ?_ _ | refine blk_drew ?_ | refine blk_alloc ?_ _)); exact BK454.out⟩, ⟨by (with_reducible repeat (first | refine blk_drewN ?_ _ | refine blk_drew ?_ | refine blk_alloc ?_ _)); exact BK465.out⟩, ⟨by (with_reducible repeat (first | refine blk_drewN ?_ _ | refine blk_drew ?_ | refine blk_alloc ?_ _)); exact BK473.out⟩, ⟨hB HB⟩⟩
         case rest =>
          as_aux_lemma =>
           clear HC53
           try clear c1
           try clear c3
           try clear c45
           try clear c47
           try clear hcz57_0
           try clear hcz57_1
           try clear hcz60_0
           try clear hcz60_1
           try clear hcz60_2
           try clear hcz62_0
           try clear hcz62_1
           try clear hcz63_0
           try clear hcz63_1
           try clear hcz63_2
           try clear hcz70_0
           try clear hcz70_1
           try clear hcz72_0
           try clear hcz72_1
           try clear hcz72_2
           try clear hcz74_0
           try clear hcz74_1
           try clear hcz75_0
           try clear hcz75_1
           try clear hcz75_2
           try clear hcz83_0
           try clear hcz83_1
           try clear hcz85_0
           try clear hcz85_1
           try clear hcz85_2
           try clear hfz57_0
           try clear hfz57_1
           try clear hfz60_0
           try clear hfz60_1
           try clear hfz60_2
           try clear hfz62_0
           try clear hfz62_1
           try clear hfz63_0
           try clear hfz63_1
           try clear hfz63_2
           try clear hfz70_0
           try clear hfz70_1
           try clear hfz72_0
           try clear hfz72_1
           try clear hfz72_2
           try clear hfz74_0
           try clear hfz74_1
           try clear hfz75_0
           try clear hfz75_1
           try clear hfz75_2
           try clear hfz83_0
           try clear hfz83_1
           try clear hfz85_0
           try clear hfz85_1
           try clear hfz85_2
           obtain ⟨kq, x150_52, rfl, HA, HJ52, HO_442001, HO_449001, HO_455001, HO_466001, HO_474001, BK441, BK442, BK448, BK454, BK465, BK473, HB⟩ := hcut
           cases kq with
           | zero => exact absurd HA.out (by simp [laws_FnHits.j1])
           | succ kj52 =>
            have H := HA.out
            clear HA
            simp only [laws_FnHits.j1] at H
            by_cases c181 : x150_52 = true
            ·subst c181
             rw [if_pos rfl] at H
             obtain rfl := Option.some.inj H
             go_wp2
             go_ret
             exact ⟨rt_, hB HB⟩
            replace c181 := Bool.eq_false_iff.mpr c181
            subst c181
            rw [if_neg (show ¬ (false = true) by decide)] at H
            have H' := Aside0.mk H
            clear H
            have hnb182 := NB473_441.out
            have hnc182 := NB441_473.out
            have hnb183 := NB473_442.out
            have hnc183 := NB442_473.out
            have hnb184 := NB473_448.out
            have hnc184 := NB448_473.out
            have hnb185 := NB473_454.out
            have hnc185 := NB454_473.out
            have hnb186 := NB473_465.out
            have hnc186 := NB465_473.out
            have hcz187_0 : wc.cell? ⟨gb473, 0, none⟩ = some (.int .i64 t468) := bc_ BK473 0
            have hcz187_1 : wc.cell? ⟨gb473, 1, none⟩ = some (.slice Ao84 t469.length co84) := bc_ BK473 1
            have hfz187_0 := blk_frozen BK473.out 0
            have hfz187_1 := blk_frozen BK473.out 1
            go_wp2
            go_loopg [154] kj52 (fun kq v154 w' => ∃ (x154_3 : Int), v154 = .int .i64 x154_3 ∧ Aside0 (laws_FnHits.l0 kq l1 t469 (t469.length : Int) x154_3 t438 t439 t440 = some r) ∧ Aside0 (kq ≤ kj52) ∧ Aside0 (Kd.R k27 27 w' w.heap.size (fun k_ => no_ (.slice Ao13 t435.length co13) k_ ∧ no_ (.slice Ao20 t444.length co20) k_ ∧ no_ (.slice Ao29 t450.length co29) k_ ∧ no_ (.slice Ao71 t461.length co71) k_ ∧ k_ ≠ gb442) (.slice Ao84 t469.length co84) t469) ∧ Aside0 (Kd.R k27 27 w' w.heap.size (fun k_ => no_ (.slice Ao84 t469.length co84) k_ ∧ no_ (.slice Ao20 t444.length co20) k_ ∧ no_ (.slice Ao29 t450.length co29) k_ ∧ no_ (.slice Ao71 t461.length co71) k_ ∧ no_ (.slice Ao84 t469.length co84) k_ ∧ k_ ≠ gb442) (.slice Ao13 t435.length co13) t435) ∧ Aside0 (Kd.R k27 27 w' w.heap.size (fun k_ => no_ (.slice Ao84 t469.length co84) k_ ∧ no_ (.slice Ao13 t435.length co13) k_ ∧ no_ (.slice Ao29 t450.length co29) k_ ∧ no_ (.slice Ao71 t461.length co71) k_ ∧ no_ (.slice Ao84 t469.length co84) k_ ∧ k_ ≠ gb442) (.slice Ao20 t444.length co20) t444) ∧ Aside0 (Kd.R k27 27 w' w.heap.size (fun k_ => no_ (.slice Ao84 t469.length co84) k_ ∧ no_ (.slice Ao13 t435.length co13) k_ ∧ no_ (.slice Ao20 t444.length co20) k_ ∧ no_ (.slice Ao71 t461.length co71) k_ ∧ no_ (.slice Ao84 t469.length co84) k_ ∧ k_ ≠ gb442) (.slice Ao29 t450.length co29) t450) ∧ Aside0 (Kd.R k27 27 w' w.heap.size (fun k_ => no_ (.slice Ao84 t469.length co84) k_ ∧ no_ (.slice Ao13 t435.length co13) k_ ∧ no_ (.slice Ao20 t444.length co20) k_ ∧ no_ (.slice Ao29 t450.length co29) k_ ∧ no_ (.slice Ao84 t469.length co84) k_ ∧ k_ ≠ gb442) (.slice Ao71 t461.length co71) t461) ∧ Aside0 (Kd.R k27 27 w' w.heap.size (fun k_ => no_ (.slice Ao13 t435.length co13) k_ ∧ no_ (.slice Ao20 t444.length co20) k_ ∧ no_ (.slice Ao29 t450.length co29) k_ ∧ no_ (.slice Ao71 t461.length co71) k_ ∧ k_ ≠ gb442) (.slice Ao84 t469.length co84) t469) ∧ Aside0 (w'.heap[gb441]? = some (.cells #[.int .i64 t434, (.slice Ao13 t435.length co13)] 25 (0, 0))) ∧ Aside0 (w'.heap[gb442]? = some (.cells #[.int .i64 t438, .int .i64 t439, .int .i64 t440] 27 (0, 0))) ∧ Aside0 (w'.heap[gb448]? = some (.cells #[.int .i64 t443, (.slice Ao20 t444.length co20)] 25 (0, 0))) ∧ Aside0 (w'.heap[gb454]? = some (.cells #[.int .i64 t449, (.slice Ao29 t450.length co29)] 25 (0, 0))) ∧ Aside0 (w'.heap[gb465]? = some (.cells #[.int .i64 t460, (.slice Ao71 t461.length co71)] 25 (0, 0))) ∧ Aside0 (w'.heap[gb473]? = some (.cells #[.int .i64 t468, (.slice Ao84 t469.length co84)] 25 (0, 0))) ∧ Aside0 (Below w.heap.size w w'))
            case atStart => exact ⟨(0), (by first | rfl | (simp; done) | (simp [*]; done)), H', ⟨Nat.le_refl _⟩, ⟨ra HO_474001.out⟩, rm_ HO_442001 (fun _ hk => ⟨hk.2.2.2.1, hk⟩), rm_ HO_449001 (fun _ hk => ⟨hk.2.2.2.1, hk⟩), rm_ HO_455001 (fun _ hk => ⟨hk.2.2.2.1, hk⟩), rm_ HO_466001 (fun _ hk => ⟨hk.2.2.2.1, hk⟩), ⟨ra HO_474001.out⟩, ⟨by (with_reducible repeat (first | refine blk_drewN ?_ _ | refine blk_drew ?_ | refine blk_alloc ?_ _)); exact BK441.out⟩, ⟨by (with_reducible repeat (first | refine blk_drewN ?_ _ | refine blk_drew ?_ | refine blk_alloc ?_ _)); exact BK442.out⟩, ⟨by (with_reducible repeat (first | refine blk_drewN ?_ _ | refine blk_drew ?_ | refine blk_alloc ?_ _)); exact BK448.out⟩, ⟨by (with_reducible repeat (first | refine blk_drewN ?_ _ | refine blk_drew ?_ | refine blk_alloc ?_ _)); exact BK454.out⟩, ⟨by (with_reducible repeat (first | refine blk_drewN ?_ _ | refine blk_drew ?_ | refine blk_alloc ?_ _)); exact BK465.out⟩, ⟨by (with_reducible repeat (first | refine blk_drewN ?_ _ | refine blk_drew ?_ | refine blk_alloc ?_ _)); exact BK473.out⟩, ⟨hB HB⟩⟩
            case round =>
             as_aux_lemma =>
              clear H'
              try clear c1
              try clear c3
              try clear c45
              try clear c47
              try clear c181
              try clear hcz187_0
              try clear hcz187_1
              try clear hcz57_0
              try clear hcz57_1
              try clear hcz60_0
              try clear hcz60_1
              try clear hcz60_2
              try clear hcz62_0
              try clear hcz62_1
              try clear hcz63_0
              try clear hcz63_1
              try clear hcz63_2
              try clear hcz70_0
              try clear hcz70_1
              try clear hcz72_0
              try clear hcz72_1
              try clear hcz72_2
              try clear hcz74_0
              try clear hcz74_1
              try clear hcz75_0
              try clear hcz75_1
              try clear hcz75_2
              try clear hcz83_0
              try clear hcz83_1
              try clear hcz85_0
              try clear hcz85_1
              try clear hcz85_2
              try clear hfz187_0
              try clear hfz187_1
              try clear hfz57_0
              try clear hfz57_1
              try clear hfz60_0
              try clear hfz60_1
              try clear hfz60_2
              try clear hfz62_0
              try clear hfz62_1
              try clear hfz63_0
              try clear hfz63_1
              try clear hfz63_2
              try clear hfz70_0
              try clear hfz70_1
              try clear hfz72_0
              try clear hfz72_1
              try clear hfz72_2
              try clear hfz74_0
              try clear hfz74_1
              try clear hfz75_0
              try clear hfz75_1
              try clear hfz75_2
              try clear hfz83_0
              try clear hfz83_1
              try clear hfz85_0
              try clear hfz85_1
              try clear hfz85_2
              obtain ⟨x154_3, rfl, HA, HK3, HO_152, HO_442001, HO_449001, HO_455001, HO_466001, HO_474001, BK441, BK442, BK448, BK454, BK465, BK473, HB⟩ := hrel
              cases gk with
              | zero => exact absurd HA.out (by simp [laws_FnHits.l0])
              | succ k3 =>
               have H := HA.out
               clear HA
               simp only [laws_FnHits.l0] at H
               by_cases c188 : x154_3 < (t469.length : Int)
               rotate_left
               ·rw [if_neg c188] at H
                have c188b0 : decide (x154_3 < (t469.length : Int)) = false := decide_eq_false c188
                clear c188
                have H' := Aside0.mk H
                clear H
                go_wp2
                go_meet
                case rel => exact ⟨_, H', ⟨by have := HJ6.out; have := HJ52.out; have := HK3.out; first | omega | exact Nat.le_refl _⟩, rm_ HO_442001 (fun _ hk => ⟨hk.2.1, ⟨hk.2.2.1, hk.2.2.2.2.2⟩⟩), rm_ HO_449001 (fun _ hk => ⟨hk.2.1, ⟨hk.2.2.1, hk.2.2.2.2.2⟩⟩), rm_ HO_455001 (fun _ hk => ⟨hk.2.1, ⟨hk.2.2.1, hk.2.2.2.2.2⟩⟩), ⟨by (with_reducible repeat (first | refine blk_drewN ?_ _ | refine blk_drew ?_ | refine blk_alloc ?_ _)); exact BK441.out⟩, ⟨by (with_reducible repeat (first | refine blk_drewN ?_ _ | refine blk_drew ?_ | refine blk_alloc ?_ _)); exact BK442.out⟩, ⟨by (with_reducible repeat (first | refine blk_drewN ?_ _ | refine blk_drew ?_ | refine blk_alloc ?_ _)); exact BK448.out⟩, ⟨by (with_reducible repeat (first | refine blk_drewN ?_ _ | refine blk_drew ?_ | refine blk_alloc ?_ _)); exact BK454.out⟩, ⟨hB HB⟩⟩
               rw [if_pos c188] at H
               have c188b0 : decide (x154_3 < (t469.length : Int)) = true := decide_eq_true c188
               clear c188
               by_cases c189 : 0 ≤ x154_3
               rotate_left
               ·rw [if_neg c189] at H
                exact absurd H (by simp)
               rw [if_pos c189] at H
               have c189b0 : decide (0 ≤ x154_3) = true := decide_eq_true c189
               clear c189
               by_cases c190 : x154_3 < (t469.length : Int)
               rotate_left
               ·rw [if_neg c190] at H
                exact absurd H (by simp)
               rw [if_pos c190] at H
               have c190b0 : decide (x154_3 < (t469.length : Int)) = true := decide_eq_true c190
               clear c190
               by_cases c191 : ((rd_T27 t469 x154_3).f2) < t440
               ·rw [if_pos c191] at H
                have c191b0 : decide (((rd_T27 t469 x154_3).f2) < t440) = true := decide_eq_true c191
                clear c191
                obtain rfl := Option.some.inj H
                have p477 : 0 ≤ (x154_3 : Int) := od_
                have q477 : x154_3 < (t469.length : Int) := od_
                obtain ⟨ad477, e477, hx477_0, hx477_1, hx477_2⟩ := at_T27 (Kd.R_reads' HO_152.out).2.2 x154_3 p477 q477
                cases e477
                replace p477 := eq_true p477
                replace q477 := eq_true q477
                as_aux_lemma =>
                 go_wp2_with (first | ((with_reducible refine gate_dst (N := 22) rfl ?_); refine box_event ?hg (N := 22) ?hd (cs := #[.int .i64 0, .int .i64 0, .int .i64 0]) (t := 27) ?hr ?_; (case hd => rfl); (case hg => rfl); (case hr => first | (go_simp; done) | (go_simp; rfl)); intro gb478 hg w192 hbox hb; have BK478 := Aside0.mk (hbox); have GW478 := gw_ hg HB; have GE478 := gw_ hg HB; have NB441_478 := nl_ hg BK441; have NB478_441 := ng_ hg BK441; have NB442_478 := nl_ hg BK442; have NB478_442 := ng_ hg BK442; have NB448_478 := nl_ hg BK448; have NB478_448 := ng_ hg BK448; have NB454_478 := nl_ hg BK454; have NB478_454 := ng_ hg BK454; have NB465_478 := nl_ hg BK465; have NB478_465 := ng_ hg BK465; have NB473_478 := nl_ hg BK473; have NB478_473 := ng_ hg BK473; replace HO_152 := Aside0.mk (Kd.R_below (Kd.R_elderB (ra HO_152.out) gb478 (Nat.le_of_eq hg.symm)) hb); replace HO_442001 := Aside0.mk (Kd.R_below (Kd.R_elderB (ra HO_442001.out) gb478 (Nat.le_of_eq hg.symm)) hb); replace HO_449001 := Aside0.mk (Kd.R_below (Kd.R_elderB (ra HO_449001.out) gb478 (Nat.le_of_eq hg.symm)) hb); replace HO_455001 := Aside0.mk (Kd.R_below (Kd.R_elderB (ra HO_455001.out) gb478 (Nat.le_of_eq hg.symm)) hb); replace HO_466001 := Aside0.mk (Kd.R_below (Kd.R_elderB (ra HO_466001.out) gb478 (Nat.le_of_eq hg.symm)) hb); replace HO_474001 := Aside0.mk (Kd.R_below (Kd.R_elderB (ra HO_474001.out) gb478 (Nat.le_of_eq hg.symm)) hb); replace BK441 := bb_ BK441 hb; replace BK442 := bb_ BK442 hb; replace BK448 := bb_ BK448 hb; replace BK454 := bb_ BK454 hb; replace BK465 := bb_ BK465 hb; replace BK473 := bb_ BK473 hb; replace HB := bst_ HB hb; clear hb hbox hg; have hnb193 := NB478_441.out; have hnc193 := NB441_478.out; have hnb194 := NB478_442.out; have hnc194 := NB442_478.out; have hnb195 := NB478_448.out; have hnc195 := NB448_478.out; have hnb196 := NB478_454.out; have hnc196 := NB454_478.out; have hnb197 := NB478_465.out; have hnc197 := NB465_478.out; have hnb198 := NB478_473.out; have hnc198 := NB473_478.out; obtain ⟨hcz199_0, hcz199_1, hcz199_2⟩ := bcs3_ BK478; have hfz199_0 := blk_frozen BK478.out 0; have hfz199_1 := blk_frozen BK478.out 1; have hfz199_2 := blk_frozen BK478.out 2; have hnb200 := NB442_441.out; have hnc200 := NB441_442.out; have hnb201 := NB442_448.out; have hnc201 := NB448_442.out; have hnb202 := NB442_454.out; have hnc202 := NB454_442.out; have hnb203 := NB442_465.out; have hnc203 := NB465_442.out; have hnb204 := NB442_473.out; have hnc204 := NB473_442.out; obtain ⟨hcz205_0, hcz205_1, hcz205_2⟩ := bcs3_ BK442; have hfz205_0 := blk_frozen BK442.out 0; have hfz205_1 := blk_frozen BK442.out 1; have hfz205_2 := blk_frozen BK442.out 2))
                 go_ret
                 exact ⟨rt_, hB HB⟩
               rw [if_neg c191] at H
               have c191b0 : decide (((rd_T27 t469 x154_3).f2) < t440) = false := decide_eq_false c191
               clear c191
               have H' := Aside0.mk H
               clear H
               have p477 : 0 ≤ (x154_3 : Int) := od_
               have q477 : x154_3 < (t469.length : Int) := od_
               obtain ⟨ad477, e477, hx477_0, hx477_1, hx477_2⟩ := at_T27 (Kd.R_reads' HO_152.out).2.2 x154_3 p477 q477
               cases e477
               replace p477 := eq_true p477
               replace q477 := eq_true q477
               as_aux_lemma =>
                go_wp2_with (first | ((with_reducible refine gate_dst (N := 22) rfl ?_); refine box_event ?hg (N := 22) ?hd (cs := #[.int .i64 0, .int .i64 0, .int .i64 0]) (t := 27) ?hr ?_; (case hd => rfl); (case hg => rfl); (case hr => first | (go_simp; done) | (go_simp; rfl)); intro gb478 hg w206 hbox hb; have BK478 := Aside0.mk (hbox); have GW478 := gw_ hg HB; have GE478 := gw_ hg HB; have NB441_478 := nl_ hg BK441; have NB478_441 := ng_ hg BK441; have NB442_478 := nl_ hg BK442; have NB478_442 := ng_ hg BK442; have NB448_478 := nl_ hg BK448; have NB478_448 := ng_ hg BK448; have NB454_478 := nl_ hg BK454; have NB478_454 := ng_ hg BK454; have NB465_478 := nl_ hg BK465; have NB478_465 := ng_ hg BK465; have NB473_478 := nl_ hg BK473; have NB478_473 := ng_ hg BK473; replace HO_152 := Aside0.mk (Kd.R_below (Kd.R_elderB (ra HO_152.out) gb478 (Nat.le_of_eq hg.symm)) hb); replace HO_442001 := Aside0.mk (Kd.R_below (Kd.R_elderB (ra HO_442001.out) gb478 (Nat.le_of_eq hg.symm)) hb); replace HO_449001 := Aside0.mk (Kd.R_below (Kd.R_elderB (ra HO_449001.out) gb478 (Nat.le_of_eq hg.symm)) hb); replace HO_455001 := Aside0.mk (Kd.R_below (Kd.R_elderB (ra HO_455001.out) gb478 (Nat.le_of_eq hg.symm)) hb); replace HO_466001 := Aside0.mk (Kd.R_below (Kd.R_elderB (ra HO_466001.out) gb478 (Nat.le_of_eq hg.symm)) hb); replace HO_474001 := Aside0.mk (Kd.R_below (Kd.R_elderB (ra HO_474001.out) gb478 (Nat.le_of_eq hg.symm)) hb); replace BK441 := bb_ BK441 hb; replace BK442 := bb_ BK442 hb; replace BK448 := bb_ BK448 hb; replace BK454 := bb_ BK454 hb; replace BK465 := bb_ BK465 hb; replace BK473 := bb_ BK473 hb; replace HB := bst_ HB hb; clear hb hbox hg; have hnb207 := NB478_441.out; have hnc207 := NB441_478.out; have hnb208 := NB478_442.out; have hnc208 := NB442_478.out; have hnb209 := NB478_448.out; have hnc209 := NB448_478.out; have hnb210 := NB478_454.out; have hnc210 := NB454_478.out; have hnb211 := NB478_465.out; have hnc211 := NB465_478.out; have hnb212 := NB478_473.out; have hnc212 := NB473_478.out; obtain ⟨hcz213_0, hcz213_1, hcz213_2⟩ := bcs3_ BK478; have hfz213_0 := blk_frozen BK478.out 0; have hfz213_1 := blk_frozen BK478.out 1; have hfz213_2 := blk_frozen BK478.out 2; have hnb214 := NB442_441.out; have hnc214 := NB441_442.out; have hnb215 := NB442_448.out; have hnc215 := NB448_442.out; have hnb216 := NB442_454.out; have hnc216 := NB454_442.out; have hnb217 := NB442_465.out; have hnc217 := NB465_442.out; have hnb218 := NB442_473.out; have hnc218 := NB473_442.out; obtain ⟨hcz219_0, hcz219_1, hcz219_2⟩ := bcs3_ BK442; have hfz219_0 := blk_frozen BK442.out 0; have hfz219_1 := blk_frozen BK442.out 1; have hfz219_2 := blk_frozen BK442.out 2))
                go_roundg k3
                case measure => have := HJ6.out; have := HJ52.out; have := HK3.out; omega
                case rel => exact ⟨(wrap64 (x154_3 + 1)), (by first | rfl | (simp; done) | (simp [*]; done)), H', ⟨by have := HJ6.out; have := HJ52.out; have := HK3.out; omega⟩, ⟨by (with_reducible repeat (first | apply Kd.R_alloc | apply Kd.R_drewN | apply Kd.R_drew)); exact Kd.R_mono (Kd.R_far (p := ⟨gb478, 2, none⟩) (Kd.R_far (p := ⟨gb478, 1, none⟩) (Kd.R_far (p := ⟨gb478, 0, none⟩) (Kd.R_mono HO_152.out (fun k_ hk => (⟨hk, hk.2⟩ : _ ∧ k_ ≠ gb478))) (fun _ hk => hk.2) (.int .i64 ((rd_T27 t469 x154_3).f0))) (fun _ hk => hk.2) (.int .i64 ((rd_T27 t469 x154_3).f1))) (fun _ hk => hk.2) (.int .i64 ((rd_T27 t469 x154_3).f2))) (fun _ hk => hk.1.1)⟩, ⟨by (with_reducible repeat (first | apply Kd.R_alloc | apply Kd.R_drewN | apply Kd.R_drew)); exact Kd.R_mono (Kd.R_far (p := ⟨gb478, 2, none⟩) (Kd.R_far (p := ⟨gb478, 1, none⟩) (Kd.R_far (p := ⟨gb478, 0, none⟩) (Kd.R_mono HO_442001.out (fun k_ hk => (⟨hk, hk.2⟩ : _ ∧ k_ ≠ gb478))) (fun _ hk => hk.2) (.int .i64 ((rd_T27 t469 x154_3).f0))) (fun _ hk => hk.2) (.int .i64 ((rd_T27 t469 x154_3).f1))) (fun _ hk => hk.2) (.int .i64 ((rd_T27 t469 x154_3).f2))) (fun _ hk => hk.1.1)⟩, ⟨by (with_reducible repeat (first | apply Kd.R_alloc | apply Kd.R_drewN | apply Kd.R_drew)); exact Kd.R_mono (Kd.R_far (p := ⟨gb478, 2, none⟩) (Kd.R_far (p := ⟨gb478, 1, none⟩) (Kd.R_far (p := ⟨gb478, 0, none⟩) (Kd.R_mono HO_449001.out (fun k_ hk => (⟨hk, hk.2⟩ : _ ∧ k_ ≠ gb478))) (fun _ hk => hk.2) (.int .i64 ((rd_T27 t469 x154_3).f0))) (fun _ hk => hk.2) (.int .i64 ((rd_T27 t469 x154_3).f1))) (fun _ hk => hk.2) (.int .i64 ((rd_T27 t469 x154_3).f2))) (fun _ hk => hk.1.1)⟩, ⟨by (with_reducible repeat (first | apply Kd.R_alloc | apply Kd.R_drewN | apply Kd.R_drew)); exact Kd.R_mono (Kd.R_far (p := ⟨gb478, 2, none⟩) (Kd.R_far (p := ⟨gb478, 1, none⟩) (Kd.R_far (p := ⟨gb478, 0, none⟩) (Kd.R_mono HO_455001.out (fun k_ hk => (⟨hk, hk.2⟩ : _ ∧ k_ ≠ gb478))) (fun _ hk => hk.2) (.int .i64 ((rd_T27 t469 x154_3).f0))) (fun _ hk => hk.2) (.int .i64 ((rd_T27 t469 x154_3).f1))) (fun _ hk => hk.2) (.int .i64 ((rd_T27 t469 x154_3).f2))) (fun _ hk => hk.1.1)⟩, ⟨by (with_reducible repeat (first | apply Kd.R_alloc | apply Kd.R_drewN | apply Kd.R_drew)); exact Kd.R_mono (Kd.R_far (p := ⟨gb478, 2, none⟩) (Kd.R_far (p := ⟨gb478, 1, none⟩) (Kd.R_far (p := ⟨gb478, 0, none⟩) (Kd.R_mono HO_466001.out (fun k_ hk => (⟨hk, hk.2⟩ : _ ∧ k_ ≠ gb478))) (fun _ hk => hk.2) (.int .i64 ((rd_T27 t469 x154_3).f0))) (fun _ hk => hk.2) (.int .i64 ((rd_T27 t469 x154_3).f1))) (fun _ hk => hk.2) (.int .i64 ((rd_T27 t469 x154_3).f2))) (fun _ hk => hk.1.1)⟩, ⟨by (with_reducible repeat (first | apply Kd.R_alloc | apply Kd.R_drewN | apply Kd.R_drew)); exact Kd.R_mono (Kd.R_far (p := ⟨gb478, 2, none⟩) (Kd.R_far (p := ⟨gb478, 1, none⟩) (Kd.R_far (p := ⟨gb478, 0, none⟩) (Kd.R_mono HO_474001.out (fun k_ hk => (⟨hk, hk.2⟩ : _ ∧ k_ ≠ gb478))) (fun _ hk => hk.2) (.int .i64 ((rd_T27 t469 x154_3).f0))) (fun _ hk => hk.2) (.int .i64 ((rd_T27 t469 x154_3).f1))) (fun _ hk => hk.2) (.int .i64 ((rd_T27 t469 x154_3).f2))) (fun _ hk => hk.1.1)⟩, ⟨by (with_reducible repeat (first | refine blk_drewN ?_ _ | refine blk_drew ?_ | refine blk_alloc ?_ _)); refine blk_far ?_ NB441_478.out _; (with_reducible repeat (first | refine blk_drewN ?_ _ | refine blk_drew ?_ | refine blk_alloc ?_ _)); refine blk_far ?_ NB441_478.out _; (with_reducible repeat (first | refine blk_drewN ?_ _ | refine blk_drew ?_ | refine blk_alloc ?_ _)); refine blk_far ?_ NB441_478.out _; (with_reducible repeat (first | refine blk_drewN ?_ _ | refine blk_drew ?_ | refine blk_alloc ?_ _)); exact BK441.out⟩, ⟨by (with_reducible repeat (first | refine blk_drewN ?_ _ | refine blk_drew ?_ | refine blk_alloc ?_ _)); refine blk_far ?_ NB442_478.out _; (with_reducible repeat (first | refine blk_drewN ?_ _ | refine blk_drew ?_ | refine blk_alloc ?_ _)); refine blk_far ?_ NB442_478.out _; (with_reducible repeat (first | refine blk_drewN ?_ _ | refine blk_drew ?_ | refine blk_alloc ?_ _)); refine blk_far ?_ NB442_478.out _; (with_reducible repeat (first | refine blk_drewN ?_ _ | refine blk_drew ?_ | refine blk_alloc ?_ _)); exact BK442.out⟩, ⟨by (with_reducible repeat (first | refine blk_drewN ?_ _ | refine blk_drew ?_ | refine blk_alloc ?_ _)); refine blk_far ?_ NB448_478.out _; (with_reducible repeat (first | refine blk_drewN ?_ _ | refine blk_drew ?_ | refine blk_alloc ?_ _)); refine blk_far ?_ NB448_478.out _; (with_reducible repeat (first | refine blk_drewN ?_ _ | refine blk_drew ?_ | refine blk_alloc ?_ _)); refine blk_far ?_ NB448_478.out _; (with_reducible repeat (first | refine blk_drewN ?_ _ | refine blk_drew ?_ | refine blk_alloc ?_ _)); exact BK448.out⟩, ⟨by (with_reducible repeat (first | refine blk_drewN ?_ _ | refine blk_drew ?_ | refine blk_alloc ?_ _)); refine blk_far ?_ NB454_478.out _; (with_reducible repeat (first | refine blk_drewN ?_ _ | refine blk_drew ?_ | refine blk_alloc ?_ _)); refine blk_far ?_ NB454_478.out _; (with_reducible repeat (first | refine blk_drewN ?_ _ | refine blk_drew ?_ | refine blk_alloc ?_ _)); refine blk_far ?_ NB454_478.out _; (with_reducible repeat (first | refine blk_drewN ?_ _ | refine blk_drew ?_ | refine blk_alloc ?_ _)); exact BK454.out⟩, ⟨by (with_reducible repeat (first | refine blk_drewN ?_ _ | refine blk_drew ?_ | refine blk_alloc ?_ _)); refine blk_far ?_ NB465_478.out _; (with_reducible repeat (first | refine blk_drewN ?_ _ | refine blk_drew ?_ | refine blk_alloc ?_ _)); refine blk_far ?_ NB465_478.out _; (with_reducible repeat (first | refine blk_drewN ?_ _ | refine blk_drew ?_ | refine blk_alloc ?_ _)); refine blk_far ?_ NB465_478.out _; (with_reducible repeat (first | refine blk_drewN ?_ _ | refine blk_drew ?_ | refine blk_alloc ?_ _)); exact BK465.out⟩, ⟨by (with_reducible repeat (first | refine blk_drewN ?_ _ | refine blk_drew ?_ | refine blk_alloc ?_ _)); refine blk_far ?_ NB473_478.out _; (with_reducible repeat (first | refine blk_drewN ?_ _ | refine blk_drew ?_ | refine blk_alloc ?_ _)); refine blk_far ?_ NB473_478.out _; (with_reducible repeat (first | refine blk_drewN ?_ _ | refine blk_drew ?_ | refine blk_alloc ?_ _)); refine blk_far ?_ NB473_478.out _; (with_reducible repeat (first | refine blk_drewN ?_ _ | refine blk_drew ?_ | refine blk_alloc ?_ _)); exact BK473.out⟩, ⟨hB HB⟩⟩
      case rest =>
       as_aux_lemma =>
        clear HC46
        try clear c1
        try clear c3
        try clear c45
        obtain ⟨kq, HA, HJ45, HO_442001, HO_449001, HO_455001, BK441, BK442, BK448, BK454, HB⟩ := hcut
        cases kq with
        | zero => exact absurd HA.out (by simp [laws_FnHits.j3])
        | succ kj45 =>
         have H := HA.out
         clear HA
         simp only [laws_FnHits.j3] at H
         replace H := Option.bind_eq_some_iff.mp H
         obtain ⟨⟨t479, t480, t483⟩, A2200, H⟩ := H
         replace H : ((impl_PortOf.f kj45 t479 t480 t483).bind fun bt485 => ((spec_PortOf.f kj45 t479 t480 t483).bind fun bt487 => ((spec_DrawDropOld.f kj45 l1).bind fun bt489 => ((impl_DropOld.f kj45 bt489.1 bt489.2.1 bt489.2.2.1 bt489.2.2.2).bind fun bt496 => ((spec_DropOld.f kj45 bt489.1 bt489.2.1 bt489.2.2.1 bt489.2.2.2).bind fun bt502 => ((spec_DrawFlushPort.f kj45 l1).bind fun bt508 => ((impl_FlushPort.f kj45 bt508.1 bt508.2.1 bt508.2.2).bind fun bt514 => ((spec_FlushPort.f kj45 bt508.1 bt508.2.1 bt508.2.2).bind fun bt520 => (if (bt485.2 == bt487.2) = true then (if bt485.1 = bt487.1 then (if (bt496.2.2 == bt502.2.2) = true then ((laws_sameTable.f kj45 bt496.1 bt496.2.1 bt502.1 bt502.2.1).bind fun t526 => (if t526 = true then (if (bt514.2.2 == bt520.2.2) = true then ((laws_sameTable.f kj45 bt514.1 bt514.2.1 bt520.1 bt520.2.1).bind fun t527 => (some t527)) else (some false)) else (some false))) else (some false)) else (some false)) else (some false)))))))))) = some r := H
         have A220 := Aside0.mk A2200
         clear A2200
         replace H := Option.bind_eq_some_iff.mp H
         obtain ⟨⟨t485, t486⟩, A2210, H⟩ := H
         replace H : ((spec_PortOf.f kj45 t479 t480 t483).bind fun bt487 => ((spec_DrawDropOld.f kj45 l1).bind fun bt489 => ((impl_DropOld.f kj45 bt489.1 bt489.2.1 bt489.2.2.1 bt489.2.2.2).bind fun bt496 => ((spec_DropOld.f kj45 bt489.1 bt489.2.1 bt489.2.2.1 bt489.2.2.2).bind fun bt502 => ((spec_DrawFlushPort.f kj45 l1).bind fun bt508 => ((impl_FlushPort.f kj45 bt508.1 bt508.2.1 bt508.2.2).bind fun bt514 => ((spec_FlushPort.f kj45 bt508.1 bt508.2.1 bt508.2.2).bind fun bt520 => (if (t486 == bt487.2) = true then (if t485 = bt487.1 then (if (bt496.2.2 == bt502.2.2) = true then ((laws_sameTable.f kj45 bt496.1 bt496.2.1 bt502.1 bt502.2.1).bind fun t526 => (if t526 = true then (if (bt514.2.2 == bt520.2.2) = true then ((laws_sameTable.f kj45 bt514.1 bt514.2.1 bt520.1 bt520.2.1).bind fun t527 => (some t527)) else (some false)) else (some false))) else (some false)) else (some false)) else (some false))))))))) = some r := H
         have A221 := Aside0.mk A2210
         clear A2210
         replace H := Option.bind_eq_some_iff.mp H
         obtain ⟨⟨t487, t488⟩, A2220, H⟩ := H
         replace H : ((spec_DrawDropOld.f kj45 l1).bind fun bt489 => ((impl_DropOld.f kj45 bt489.1 bt489.2.1 bt489.2.2.1 bt489.2.2.2).bind fun bt496 => ((spec_DropOld.f kj45 bt489.1 bt489.2.1 bt489.2.2.1 bt489.2.2.2).bind fun bt502 => ((spec_DrawFlushPort.f kj45 l1).bind fun bt508 => ((impl_FlushPort.f kj45 bt508.1 bt508.2.1 bt508.2.2).bind fun bt514 => ((spec_FlushPort.f kj45 bt508.1 bt508.2.1 bt508.2.2).bind fun bt520 => (if (t486 == t488) = true then (if t485 = t487 then (if (bt496.2.2 == bt502.2.2) = true then ((laws_sameTable.f kj45 bt496.1 bt496.2.1 bt502.1 bt502.2.1).bind fun t526 => (if t526 = true then (if (bt514.2.2 == bt520.2.2) = true then ((laws_sameTable.f kj45 bt514.1 bt514.2.1 bt520.1 bt520.2.1).bind fun t527 => (some t527)) else (some false)) else (some false))) else (some false)) else (some false)) else (some false)))))))) = some r := H
         have A222 := Aside0.mk A2220
         clear A2220
         replace H := Option.bind_eq_some_iff.mp H
         obtain ⟨⟨t489, t490, t493, t494⟩, A2230, H⟩ := H
         replace H : ((impl_DropOld.f kj45 t489 t490 t493 t494).bind fun bt496 => ((spec_DropOld.f kj45 t489 t490 t493 t494).bind fun bt502 => ((spec_DrawFlushPort.f kj45 l1).bind fun bt508 => ((impl_FlushPort.f kj45 bt508.1 bt508.2.1 bt508.2.2).bind fun bt514 => ((spec_FlushPort.f kj45 bt508.1 bt508.2.1 bt508.2.2).bind fun bt520 => (if (t486 == t488) = true then (if t485 = t487 then (if (bt496.2.2 == bt502.2.2) = true then ((laws_sameTable.f kj45 bt496.1 bt496.2.1 bt502.1 bt502.2.1).bind fun t526 => (if t526 = true then (if (bt514.2.2 == bt520.2.2) = true then ((laws_sameTable.f kj45 bt514.1 bt514.2.1 bt520.1 bt520.2.1).bind fun t527 => (some t527)) else (some false)) else (some false))) else (some false)) else (some false)) else (some false))))))) = some r := H
         have A223 := Aside0.mk A2230
         clear A2230
         replace H := Option.bind_eq_some_iff.mp H
         obtain ⟨⟨t496, t497, t500⟩, A2240, H⟩ := H
         replace H : ((spec_DropOld.f kj45 t489 t490 t493 t494).bind fun bt502 => ((spec_DrawFlushPort.f kj45 l1).bind fun bt508 => ((impl_FlushPort.f kj45 bt508.1 bt508.2.1 bt508.2.2).bind fun bt514 => ((spec_FlushPort.f kj45 bt508.1 bt508.2.1 bt508.2.2).bind fun bt520 => (if (t486 == t488) = true then (if t485 = t487 then (if (t500 == bt502.2.2) = true then ((laws_sameTable.f kj45 t496 t497 bt502.1 bt502.2.1).bind fun t526 => (if t526 = true then (if (bt514.2.2 == bt520.2.2) = true then ((laws_sameTable.f kj45 bt514.1 bt514.2.1 bt520.1 bt520.2.1).bind fun t527 => (some t527)) else (some false)) else (some false))) else (some false)) else (some false)) else (some false)))))) = some r := H
         have A224 := Aside0.mk A2240
         clear A2240
         replace H := Option.bind_eq_some_iff.mp H
         obtain ⟨⟨t502, t503, t506⟩, A2250, H⟩ := H
         replace H : ((spec_DrawFlushPort.f kj45 l1).bind fun bt508 => ((impl_FlushPort.f kj45 bt508.1 bt508.2.1 bt508.2.2).bind fun bt514 => ((spec_FlushPort.f kj45 bt508.1 bt508.2.1 bt508.2.2).bind fun bt520 => (if (t486 == t488) = true then (if t485 = t487 then (if (t500 == t506) = true then ((laws_sameTable.f kj45 t496 t497 t502 t503).bind fun t526 => (if t526 = true then (if (bt514.2.2 == bt520.2.2) = true then ((laws_sameTable.f kj45 bt514.1 bt514.2.1 bt520.1 bt520.2.1).bind fun t527 => (some t527)) else (some false)) else (some false))) else (some false)) else (some false)) else (some false))))) = some r := H
         have A225 := Aside0.mk A2250
         clear A2250
         replace H := Option.bind_eq_some_iff.mp H
         obtain ⟨⟨t508, t509, t512⟩, A2260, H⟩ := H
         replace H : ((impl_FlushPort.f kj45 t508 t509 t512).bind fun bt514 => ((spec_FlushPort.f kj45 t508 t509 t512).bind fun bt520 => (if (t486 == t488) = true then (if t485 = t487 then (if (t500 == t506) = true then ((laws_sameTable.f kj45 t496 t497 t502 t503).bind fun t526 => (if t526 = true then (if (bt514.2.2 == bt520.2.2) = true then ((laws_sameTable.f kj45 bt514.1 bt514.2.1 bt520.1 bt520.2.1).bind fun t527 => (some t527)) else (some false)) else (some false))) else (some false)) else (some false)) else (some false)))) = some r := H
         have A226 := Aside0.mk A2260
         clear A2260
         replace H := Option.bind_eq_some_iff.mp H
         obtain ⟨⟨t514, t515, t518⟩, A2270, H⟩ := H
         replace H : ((spec_FlushPort.f kj45 t508 t509 t512).bind fun bt520 => (if (t486 == t488) = true then (if t485 = t487 then (if (t500 == t506) = true then ((laws_sameTable.f kj45 t496 t497 t502 t503).bind fun t526 => (if t526 = true then (if (t518 == bt520.2.2) = true then ((laws_sameTable.f kj45 t514 t515 bt520.1 bt520.2.1).bind fun t527 => (some t527)) else (some false)) else (some false))) else (some false)) else (some false)) else (some false))) = some r := H
         have A227 := Aside0.mk A2270
         clear A2270
         replace H := Option.bind_eq_some_iff.mp H
         obtain ⟨⟨t520, t521, t524⟩, A2280, H⟩ := H
         replace H : (if (t486 == t488) = true then (if t485 = t487 then (if (t500 == t506) = true then ((laws_sameTable.f kj45 t496 t497 t502 t503).bind fun t526 => (if t526 = true then (if (t518 == t524) = true then ((laws_sameTable.f kj45 t514 t515 t520 t521).bind fun t527 => (some t527)) else (some false)) else (some false))) else (some false)) else (some false)) else (some false)) = some r := H
         have A228 := Aside0.mk A2280
         clear A2280
         as_aux_lemma =>
          go_upto_region 31 with (first | ((with_reducible refine gate_dst (N := 166) rfl ?_); refine goesL_ (some 166) rfl rfl Try.func13 (by kernel_rfl) rfl #[.slice A1 l1.length c1] rfl tm_ ?_; (with_reducible refine (spec_DrawPortOf.calls kj45 _ _ l1 t479 t480 t483 _ ?side1 ?side2 A220.out).mono ?_); (case side1 => exact cb_ HR1 HB); (case side2 => exact HC1.out); rintro e w236 ⟨v481, rfl, ho0, hb⟩; refine ⟨_, rfl, ?_⟩; have HO482 := Aside0.mk (Kd.R_lower (Kd.R_newB (Kd.R_new' (Kd.R_new' (Kd.R_new' ho0 (rl_ HO_442001)) (rl_ HO_449001)) (rl_ HO_455001)) (g := gb442) (o := .cells #[.int .i64 t438, .int .i64 t439, .int .i64 t440] 27 (0, 0)) (ba BK442.out)) (below_size (hB HB))); replace HO_442001 := re_ HO_442001 ho0 hb; replace HO_449001 := re_ HO_449001 ho0 hb; replace HO_455001 := re_ HO_455001 ho0 hb; replace BK441 := bb_ BK441 hb; replace BK442 := bb_ BK442 hb; replace BK448 := bb_ BK448 hb; replace BK454 := bb_ BK454 hb; replace HB := bst_ HB hb; clear hb ho0) | ((with_reducible refine gate_dst (N := 23) rfl ?_); refine box_event ?hg (N := 23) ?hd (cs := #[.int .i64 0, .slice none 0 0]) (t := 25) ?hr ?_; (case hd => rfl); (case hg => rfl); (case hr => first | (go_simp; done) | (go_simp; rfl)); intro gb484 hg w237 hbox hb; have BK484 := Aside0.mk (hbox); have GW484 := gw_ hg HB; have GE484 := gw_ hg HB; have NB441_484 := nl_ hg BK441; have NB484_441 := ng_ hg BK441; have NB442_484 := nl_ hg BK442; have NB484_442 := ng_ hg BK442; have NB448_484 := nl_ hg BK448; have NB484_448 := ng_ hg BK448; have NB454_484 := nl_ hg BK454; have NB484_454 := ng_ hg BK454; replace HO_442001 := rb_ HO_442001 hb; replace HO_449001 := rb_ HO_449001 hb; replace HO_455001 := rb_ HO_455001 hb; replace HO482 := rb_ HO482 hb; replace BK441 := bb_ BK441 hb; replace BK442 := bb_ BK442 hb; replace BK448 := bb_ BK448 hb; replace BK454 := bb_ BK454 hb; replace HB := bst_ HB hb; clear hb hbox hg; have hnb238 := NB484_441.out; have hnc238 := NB441_484.out; have hnb239 := NB484_442.out; have hnc239 := NB442_484.out; have hnb240 := NB484_448.out; have hnc240 := NB448_484.out; have hnb241 := NB484_454.out; have hnc241 := NB454_484.out; obtain ⟨hcz242_0, hcz242_1⟩ := bcs2_ BK484; have hfz242_0 := blk_frozen BK484.out 0; have hfz242_1 := blk_frozen BK484.out 1; obtain ⟨Ao243, co243, eo243⟩ := Kd.R_slice HO482.out; subst eo243) | ((with_reducible refine gate_dst (N := 172) rfl ?_); refine goesL_ (some 172) rfl rfl Try.func10 (by kernel_rfl) rfl #[.agg #[.int .i64 t479, .slice Ao243 t480.length co243], .int .i64 t483] rfl tm_ ?_; (with_reducible refine (impl_PortOf.calls kj45 t479 _ _ t480 t483 t485 t486 _ ?side1 ?side2 A221.out).mono ?_); (case side1 => exact rr_ (fm2_ HO482 BK484)); (case side2 => exact (Kd.R_reads' HO482.out).2.1); rintro e w244 ⟨rfl, hb⟩; refine ⟨_, rfl, ?_⟩; replace HO_442001 := rb2_ HO_442001 BK484 hb; replace HO_449001 := rb2_ HO_449001 BK484 hb; replace HO_455001 := rb2_ HO_455001 BK484 hb; replace HO482 := rb2_ HO482 BK484 hb; replace BK441 := Aside0.mk (blk_below (bx BK441) hb); replace BK442 := Aside0.mk (blk_below (bx BK442) hb); replace BK448 := Aside0.mk (blk_below (bx BK448) hb); replace BK454 := Aside0.mk (blk_below (bx BK454) hb); replace BK484 := Aside0.mk (blk_below (g := gb484) (o := .cells #[.int .i64 t479, .slice Ao243 t480.length co243] 25 (0, 0)) (by (with_reducible repeat (first | refine blk_drewN ?_ _ | refine blk_drew ?_ | refine blk_alloc ?_ _)); refine blk_put (cs := #[.int .i64 t479, .slice none 0 0]) ?_ 1 _ rfl; (with_reducible repeat (first | refine blk_drewN ?_ _ | refine blk_drew ?_ | refine blk_alloc ?_ _)); refine blk_put (cs := #[.int .i64 0, .slice none 0 0]) ?_ 0 _ rfl; (with_reducible repeat (first | refine blk_drewN ?_ _ | refine blk_drew ?_ | refine blk_alloc ?_ _)); exact BK484.out) hb); replace HB := bst_ HB hb; clear hb; obtain ⟨hcz245_0, hcz245_1⟩ := bcs2_ BK484; have hfz245_0 := blk_frozen BK484.out 0; have hfz245_1 := blk_frozen BK484.out 1) | ((with_reducible refine gate_dst (N := 178) rfl ?_); refine goesL_ (some 178) rfl rfl Try.func14 (by kernel_rfl) rfl #[.agg #[.int .i64 t479, .slice Ao243 t480.length co243], .int .i64 t483] rfl tm_ ?_; (with_reducible refine (spec_PortOf.calls kj45 t479 _ _ t480 t483 t487 t488 _ ?side1 ?side2 A222.out).mono ?_); (case side1 => exact ca (Kd.R_reads' HO482.out).2.2); (case side2 => exact (Kd.R_reads' HO482.out).2.1); rintro e w246 ⟨rfl, hb⟩; refine ⟨_, rfl, ?_⟩; replace HO_442001 := rb_ HO_442001 hb; replace HO_449001 := rb_ HO_449001 hb; replace HO_455001 := rb_ HO_455001 hb; replace HO482 := rb_ HO482 hb; replace BK441 := bb_ BK441 hb; replace BK442 := bb_ BK442 hb; replace BK448 := bb_ BK448 hb; replace BK454 := bb_ BK454 hb; replace BK484 := bb_ BK484 hb; replace HB := bst_ HB hb; clear hb) | ((with_reducible refine gate_dst (N := 183) rfl ?_); refine goesL_ (some 183) rfl rfl Try.func15 (by kernel_rfl) rfl #[.slice A1 l1.length c1] rfl tm_ ?_; (with_reducible refine (spec_DrawDropOld.calls kj45 _ _ l1 t489 t490 t493 t494 _ ?side1 ?side2 A223.out).mono ?_); (case side1 => exact cb_ HR1 HB); (case side2 => exact HC1.out); rintro e w247 ⟨v491, rfl, ho0, hb⟩; refine ⟨_, rfl, ?_⟩; have HO492 := Aside0.mk (Kd.R_lower (Kd.R_newB (Kd.R_new' (Kd.R_new' (Kd.R_new' (Kd.R_new' ho0 (rl_ HO_442001)) (rl_ HO_449001)) (rl_ HO_455001)) (rl_ HO482)) (g := gb442) (o := .cells #[.int .i64 t438, .int .i64 t439, .int .i64 t440] 27 (0, 0)) (ba BK442.out)) (below_size (hB HB))); replace HO_442001 := re_ HO_442001 ho0 hb; replace HO_449001 := re_ HO_449001 ho0 hb; replace HO_455001 := re_ HO_455001 ho0 hb; replace HO482 := re_ HO482 ho0 hb; replace BK441 := bb_ BK441 hb; replace BK442 := bb_ BK442 hb; replace BK448 := bb_ BK448 hb; replace BK454 := bb_ BK454 hb; replace BK484 := bb_ BK484 hb; replace HB := bst_ HB hb; clear hb ho0) | ((with_reducible refine gate_dst (N := 29) rfl ?_); refine box_event ?hg (N := 29) ?hd (cs := #[.int .i64 0, .slice none 0 0]) (t := 25) ?hr ?_; (case hd => rfl); (case hg => rfl); (case hr => first | (go_simp; done) | (go_simp; rfl)); intro gb495 hg w248 hbox hb; have BK495 := Aside0.mk (hbox); have GW495 := gw_ hg HB; have GE495 := gw_ hg HB; have NB441_495 := nl_ hg BK441; have NB495_441 := ng_ hg BK441; have NB442_495 := nl_ hg BK442; have NB495_442 := ng_ hg BK442; have NB448_495 := nl_ hg BK448; have NB495_448 := ng_ hg BK448; have NB454_495 := nl_ hg BK454; have NB495_454 := ng_ hg BK454; have NB484_495 := nl_ hg BK484; have NB495_484 := ng_ hg BK484; replace HO_442001 := rb_ HO_442001 hb; replace HO_449001 := rb_ HO_449001 hb; replace HO_455001 := rb_ HO_455001 hb; replace HO482 := rb_ HO482 hb; replace HO492 := rb_ HO492 hb; replace BK441 := bb_ BK441 hb; replace BK442 := bb_ BK442 hb; replace BK448 := bb_ BK448 hb; replace BK454 := bb_ BK454 hb; replace BK484 := bb_ BK484 hb; replace HB := bst_ HB hb; clear hb hbox hg; have hnb249 := NB495_441.out; have hnc249 := NB441_495.out; have hnb250 := NB495_442.out; have hnc250 := NB442_495.out; have hnb251 := NB495_448.out; have hnc251 := NB448_495.out; have hnb252 := NB495_454.out; have hnc252 := NB454_495.out; have hnb253 := NB495_484.out; have hnc253 := NB484_495.out; obtain ⟨hcz254_0, hcz254_1⟩ := bcs2_ BK495; have hfz254_0 := blk_frozen BK495.out 0; have hfz254_1 := blk_frozen BK495.out 1; obtain ⟨Ao255, co255, eo255⟩ := Kd.R_slice HO492.out; subst eo255) | ((with_reducible refine gate_dst (N := 191) rfl ?_); refine goesL_ (some 191) rfl rfl Try.func12 (by kernel_rfl) rfl #[.agg #[.int .i64 t489, .slice Ao255 t490.length co255], .int .i64 t493, .int .i64 t494] rfl tm_ ?_; (with_reducible refine (impl_DropOld.calls kj45 t489 _ _ t490 t493 t494 t496 t497 t500 _ ?side1 ?side2 A224.out).mono ?_); (case side1 => exact rr_ (fm2_ HO492 BK495)); (case side2 => exact (Kd.R_reads' HO492.out).2.1); rintro e w256 ⟨v498, rfl, ho0, hb⟩; refine ⟨_, rfl, ?_⟩; have HO499 := Aside0.mk (Kd.R_lower (Kd.R_newB (Kd.R_new' (Kd.R_new' (Kd.R_new' (Kd.R_new' (Kd.R_new' ho0 (Kd.R_lt (ra (fm2_ HO_442001 BK495)))) (Kd.R_lt (ra (fm2_ HO_449001 BK495)))) (Kd.R_lt (ra (fm2_ HO_455001 BK495)))) (Kd.R_lt (ra (fm2_ HO482 BK495)))) (Kd.R_lt (ra (fm2_ HO492 BK495)))) (g := gb442) (o := .cells #[.int .i64 t438, .int .i64 t439, .int .i64 t440] 27 (0, 0)) (bx BK442)) (below_size (hB HB))); replace HO_442001 := Aside0.mk (Kd.R_elder' (ra (fm2_ HO_442001 BK495)) (Kd.R_base ho0) hb); replace HO_449001 := Aside0.mk (Kd.R_elder' (ra (fm2_ HO_449001 BK495)) (Kd.R_base ho0) hb); replace HO_455001 := Aside0.mk (Kd.R_elder' (ra (fm2_ HO_455001 BK495)) (Kd.R_base ho0) hb); replace HO482 := Aside0.mk (Kd.R_elder' (ra (fm2_ HO482 BK495)) (Kd.R_base ho0) hb); replace HO492 := Aside0.mk (Kd.R_elder' (ra (fm2_ HO492 BK495)) (Kd.R_base ho0) hb); replace BK441 := Aside0.mk (blk_below (bx BK441) hb); replace BK442 := Aside0.mk (blk_below (bx BK442) hb); replace BK448 := Aside0.mk (blk_below (bx BK448) hb); replace BK454 := Aside0.mk (blk_below (bx BK454) hb); replace BK484 := Aside0.mk (blk_below (bx BK484) hb); replace BK495 := Aside0.mk (blk_below (g := gb495) (o := .cells #[.int .i64 t489, .slice Ao255 t490.length co255] 25 (0, 0)) (by (with_reducible repeat (first | refine blk_drewN ?_ _ | refine blk_drew ?_ | refine blk_alloc ?_ _)); refine blk_put (cs := #[.int .i64 t489, .slice none 0 0]) ?_ 1 _ rfl; (with_reducible repeat (first | refine blk_drewN ?_ _ | refine blk_drew ?_ | refine blk_alloc ?_ _)); refine blk_put (cs := #[.int .i64 0, .slice none 0 0]) ?_ 0 _ rfl; (with_reducible repeat (first | refine blk_drewN ?_ _ | refine blk_drew ?_ | refine blk_alloc ?_ _)); exact BK495.out) hb); replace HB := bst_ HB hb; clear hb ho0) | ((with_reducible refine gate_dst (N := 32) rfl ?_); refine box_event ?hg (N := 32) ?hd (cs := #[.int .i64 0, .slice none 0 0]) (t := 25) ?hr ?_; (case hd => rfl); (case hg => rfl); (case hr => first | (go_simp; done) | (go_simp; rfl)); intro gb501 hg w257 hbox hb; have BK501 := Aside0.mk (hbox); have GW501 := gw_ hg HB; have GE501 := gw_ hg HB; have NB441_501 := nl_ hg BK441; have NB501_441 := ng_ hg BK441; have NB442_501 := nl_ hg BK442; have NB501_442 := ng_ hg BK442; have NB448_501 := nl_ hg BK448; have NB501_448 := ng_ hg BK448; have NB454_501 := nl_ hg BK454; have NB501_454 := ng_ hg BK454; have NB484_501 := nl_ hg BK484; have NB501_484 := ng_ hg BK484; have NB495_501 := nl_ hg BK495; have NB501_495 := ng_ hg BK495; replace HO_442001 := rb_ HO_442001 hb; replace HO_449001 := rb_ HO_449001 hb; replace HO_455001 := rb_ HO_455001 hb; replace HO482 := rb_ HO482 hb; replace HO492 := rb_ HO492 hb; replace HO499 := rb_ HO499 hb; replace BK441 := bb_ BK441 hb; replace BK442 := bb_ BK442 hb; replace BK448 := bb_ BK448 hb; replace BK454 := bb_ BK454 hb; replace BK484 := bb_ BK484 hb; replace BK495 := bb_ BK495 hb; replace HB := bst_ HB hb; clear hb hbox hg; have hnb258 := NB501_441.out; have hnc258 := NB441_501.out; have hnb259 := NB501_442.out; have hnc259 := NB442_501.out; have hnb260 := NB501_448.out; have hnc260 := NB448_501.out; have hnb261 := NB501_454.out; have hnc261 := NB454_501.out; have hnb262 := NB501_484.out; have hnc262 := NB484_501.out; have hnb263 := NB501_495.out; have hnc263 := NB495_501.out; obtain ⟨hcz264_0, hcz264_1⟩ := bcs2_ BK501; have hfz264_0 := blk_frozen BK501.out 0; have hfz264_1 := blk_frozen BK501.out 1; obtain ⟨Ao265, co265, eo265⟩ := Kd.R_slice HO499.out; subst eo265; obtain ⟨hcz266_0, hcz266_1⟩ := bcs2_ BK495; have hfz266_0 := blk_frozen BK495.out 0; have hfz266_1 := blk_frozen BK495.out 1) | ((with_reducible refine gate_dst (N := 198) rfl ?_); refine goesL_ (some 198) rfl rfl Try.func16 (by kernel_rfl) rfl #[.agg #[.int .i64 t489, .slice Ao255 t490.length co255], .int .i64 t493, .int .i64 t494] rfl tm_ ?_; (with_reducible refine (spec_DropOld.calls kj45 t489 _ _ t490 t493 t494 t502 t503 t506 _ ?side1 ?side2 A225.out).mono ?_); (case side1 => exact rr_ (fm2_ HO492 BK501)); (case side2 => exact (Kd.R_reads' HO492.out).2.1); rintro e w267 ⟨v504, rfl, ho0, hb⟩; refine ⟨_, rfl, ?_⟩; have HO505 := Aside0.mk (Kd.R_lower (Kd.R_newB (Kd.R_new' (Kd.R_new' (Kd.R_new' (Kd.R_new' (Kd.R_new' (Kd.R_new' ho0 (Kd.R_lt (ra (fm2_ HO_442001 BK501)))) (Kd.R_lt (ra (fm2_ HO_449001 BK501)))) (Kd.R_lt (ra (fm2_ HO_455001 BK501)))) (Kd.R_lt (ra (fm2_ HO482 BK501)))) (Kd.R_lt (ra (fm2_ HO492 BK501)))) (Kd.R_lt (ra (fm2_ HO499 BK501)))) (g := gb442) (o := .cells #[.int .i64 t438, .int .i64 t439, .int .i64 t440] 27 (0, 0)) (bx BK442)) (below_size (hB HB))); replace HO_442001 := Aside0.mk (Kd.R_elder' (ra (fm2_ HO_442001 BK501)) (Kd.R_base ho0) hb); replace HO_449001 := Aside0.mk (Kd.R_elder' (ra (fm2_ HO_449001 BK501)) (Kd.R_base ho0) hb); replace HO_455001 := Aside0.mk (Kd.R_elder' (ra (fm2_ HO_455001 BK501)) (Kd.R_base ho0) hb); replace HO482 := Aside0.mk (Kd.R_elder' (ra (fm2_ HO482 BK501)) (Kd.R_base ho0) hb); replace HO492 := Aside0.mk (Kd.R_elder' (ra (fm2_ HO492 BK501)) (Kd.R_base ho0) hb); replace HO499 := Aside0.mk (Kd.R_elder' (ra (fm2_ HO499 BK501)) (Kd.R_base ho0) hb); replace BK441 := Aside0.mk (blk_below (bx BK441) hb); replace BK442 := Aside0.mk (blk_below (bx BK442) hb); replace BK448 := Aside0.mk (blk_below (bx BK448) hb); replace BK454 := Aside0.mk (blk_below (bx BK454) hb); replace BK484 := Aside0.mk (blk_below (bx BK484) hb); replace BK495 := Aside0.mk (blk_below (bx BK495) hb); replace BK501 := Aside0.mk (blk_below (g := gb501) (o := .cells #[.int .i64 t496, .slice Ao265 t497.length co265] 25 (0, 0)) (by (with_reducible repeat (first | refine blk_drewN ?_ _ | refine blk_drew ?_ | refine blk_alloc ?_ _)); refine blk_put (cs := #[.int .i64 t496, .slice none 0 0]) ?_ 1 _ rfl; (with_reducible repeat (first | refine blk_drewN ?_ _ | refine blk_drew ?_ | refine blk_alloc ?_ _)); refine blk_put (cs := #[.int .i64 0, .slice none 0 0]) ?_ 0 _ rfl; (with_reducible repeat (first | refine blk_drewN ?_ _ | refine blk_drew ?_ | refine blk_alloc ?_ _)); exact BK501.out) hb); replace HB := bst_ HB hb; clear hb ho0) | ((with_reducible refine gate_dst (N := 34) rfl ?_); refine box_event ?hg (N := 34) ?hd (cs := #[.int .i64 0, .slice none 0 0]) (t := 25) ?hr ?_; (case hd => rfl); (case hg => rfl); (case hr => first | (go_simp; done) | (go_simp; rfl)); intro gb507 hg w268 hbox hb; have BK507 := Aside0.mk (hbox); have GW507 := gw_ hg HB; have GE507 := gw_ hg HB; have NB441_507 := nl_ hg BK441; have NB507_441 := ng_ hg BK441; have NB442_507 := nl_ hg BK442; have NB507_442 := ng_ hg BK442; have NB448_507 := nl_ hg BK448; have NB507_448 := ng_ hg BK448; have NB454_507 := nl_ hg BK454; have NB507_454 := ng_ hg BK454; have NB484_507 := nl_ hg BK484; have NB507_484 := ng_ hg BK484; have NB495_507 := nl_ hg BK495; have NB507_495 := ng_ hg BK495; have NB501_507 := nl_ hg BK501; have NB507_501 := ng_ hg BK501; replace HO_442001 := rb_ HO_442001 hb; replace HO_449001 := rb_ HO_449001 hb; replace HO_455001 := rb_ HO_455001 hb; replace HO482 := rb_ HO482 hb; replace HO492 := rb_ HO492 hb; replace HO499 := rb_ HO499 hb; replace HO505 := rb_ HO505 hb; replace BK441 := bb_ BK441 hb; replace BK442 := bb_ BK442 hb; replace BK448 := bb_ BK448 hb; replace BK454 := bb_ BK454 hb; replace BK484 := bb_ BK484 hb; replace BK495 := bb_ BK495 hb; replace BK501 := bb_ BK501 hb; replace HB := bst_ HB hb; clear hb hbox hg; have hnb269 := NB507_441.out; have hnc269 := NB441_507.out; have hnb270 := NB507_442.out; have hnc270 := NB442_507.out; have hnb271 := NB507_448.out; have hnc271 := NB448_507.out; have hnb272 := NB507_454.out; have hnc272 := NB454_507.out; have hnb273 := NB507_484.out; have hnc273 := NB484_507.out; have hnb274 := NB507_495.out; have hnc274 := NB495_507.out; have hnb275 := NB507_501.out; have hnc275 := NB501_507.out; obtain ⟨hcz276_0, hcz276_1⟩ := bcs2_ BK507; have hfz276_0 := blk_frozen BK507.out 0; have hfz276_1 := blk_frozen BK507.out 1; obtain ⟨Ao277, co277, eo277⟩ := Kd.R_slice HO505.out; subst eo277) | ((with_reducible refine gate_dst (N := 203) rfl ?_); refine goesL_ (some 203) rfl rfl Try.func17 (by kernel_rfl) rfl #[.slice A1 l1.length c1] rfl tm_ ?_; (with_reducible refine (spec_DrawFlushPort.calls kj45 _ _ l1 t508 t509 t512 _ ?side1 ?side2 A226.out).mono ?_); (case side1 => exact Kd.C_below HR1.out (hB HB)); (case side2 => exact HC1.out); rintro e w278 ⟨v510, rfl, ho0, hb⟩; refine ⟨_, rfl, ?_⟩; have HO511 := Aside0.mk (Kd.R_lower (Kd.R_newB (Kd.R_new' (Kd.R_new' (Kd.R_new' (Kd.R_new' (Kd.R_new' (Kd.R_new' (Kd.R_new' ho0 (Kd.R_lt (ra (fm2_ HO_442001 BK507)))) (Kd.R_lt (ra (fm2_ HO_449001 BK507)))) (Kd.R_lt (ra (fm2_ HO_455001 BK507)))) (Kd.R_lt (ra (fm2_ HO482 BK507)))) (Kd.R_lt (ra (fm2_ HO492 BK507)))) (Kd.R_lt (ra (fm2_ HO499 BK507)))) (Kd.R_lt (ra (fm2_ HO505 BK507)))) (g := gb442) (o := .cells #[.int .i64 t438, .int .i64 t439, .int .i64 t440] 27 (0, 0)) (bx BK442)) (below_size (hB HB))); replace HO_442001 := Aside0.mk (Kd.R_elder' (ra (fm2_ HO_442001 BK507)) (Kd.R_base ho0) hb); replace HO_449001 := Aside0.mk (Kd.R_elder' (ra (fm2_ HO_449001 BK507)) (Kd.R_base ho0) hb); replace HO_455001 := Aside0.mk (Kd.R_elder' (ra (fm2_ HO_455001 BK507)) (Kd.R_base ho0) hb); replace HO482 := Aside0.mk (Kd.R_elder' (ra (fm2_ HO482 BK507)) (Kd.R_base ho0) hb); replace HO492 := Aside0.mk (Kd.R_elder' (ra (fm2_ HO492 BK507)) (Kd.R_base ho0) hb); replace HO499 := Aside0.mk (Kd.R_elder' (ra (fm2_ HO499 BK507)) (Kd.R_base ho0) hb); replace HO505 := Aside0.mk (Kd.R_elder' (ra (fm2_ HO505 BK507)) (Kd.R_base ho0) hb); replace BK441 := Aside0.mk (blk_below (bx BK441) hb); replace BK442 := Aside0.mk (blk_below (bx BK442) hb); replace BK448 := Aside0.mk (blk_below (bx BK448) hb); replace BK454 := Aside0.mk (blk_below (bx BK454) hb); replace BK484 := Aside0.mk (blk_below (bx BK484) hb); replace BK495 := Aside0.mk (blk_below (bx BK495) hb); replace BK501 := Aside0.mk (blk_below (bx BK501) hb); replace BK507 := Aside0.mk (blk_below (g := gb507) (o := .cells #[.int .i64 t502, .slice Ao277 t503.length co277] 25 (0, 0)) (by (with_reducible repeat (first | refine blk_drewN ?_ _ | refine blk_drew ?_ | refine blk_alloc ?_ _)); refine blk_put (cs := #[.int .i64 t502, .slice none 0 0]) ?_ 1 _ rfl; (with_reducible repeat (first | refine blk_drewN ?_ _ | refine blk_drew ?_ | refine blk_alloc ?_ _)); refine blk_put (cs := #[.int .i64 0, .slice none 0 0]) ?_ 0 _ rfl; (with_reducible repeat (first | refine blk_drewN ?_ _ | refine blk_drew ?_ | refine blk_alloc ?_ _)); exact BK507.out) hb); replace HB := bst_ HB hb; clear hb ho0) | ((with_reducible refine gate_dst (N := 36) rfl ?_); refine box_event ?hg (N := 36) ?hd (cs := #[.int .i64 0, .slice none 0 0]) (t := 25) ?hr ?_; (case hd => rfl); (case hg => rfl); (case hr => first | (go_simp; done) | (go_simp; rfl)); intro gb513 hg w279 hbox hb; have BK513 := Aside0.mk (hbox); have GW513 := gw_ hg HB; have GE513 := gw_ hg HB; have NB441_513 := nl_ hg BK441; have NB513_441 := ng_ hg BK441; have NB442_513 := nl_ hg BK442; have NB513_442 := ng_ hg BK442; have NB448_513 := nl_ hg BK448; have NB513_448 := ng_ hg BK448; have NB454_513 := nl_ hg BK454; have NB513_454 := ng_ hg BK454; have NB484_513 := nl_ hg BK484; have NB513_484 := ng_ hg BK484; have NB495_513 := nl_ hg BK495; have NB513_495 := ng_ hg BK495; have NB501_513 := nl_ hg BK501; have NB513_501 := ng_ hg BK501; have NB507_513 := nl_ hg BK507; have NB513_507 := ng_ hg BK507; replace HO_442001 := rb_ HO_442001 hb; replace HO_449001 := rb_ HO_449001 hb; replace HO_455001 := rb_ HO_455001 hb; replace HO482 := rb_ HO482 hb; replace HO492 := rb_ HO492 hb; replace HO499 := rb_ HO499 hb; replace HO505 := rb_ HO505 hb; replace HO511 := rb_ HO511 hb; replace BK441 := bb_ BK441 hb; replace BK442 := bb_ BK442 hb; replace BK448 := bb_ BK448 hb; replace BK454 := bb_ BK454 hb; replace BK484 := bb_ BK484 hb; replace BK495 := bb_ BK495 hb; replace BK501 := bb_ BK501 hb; replace BK507 := bb_ BK507 hb; replace HB := bst_ HB hb; clear hb hbox hg; have hnb280 := NB513_441.out; have hnc280 := NB441_513.out; have hnb281 := NB513_442.out; have hnc281 := NB442_513.out; have hnb282 := NB513_448.out; have hnc282 := NB448_513.out; have hnb283 := NB513_454.out; have hnc283 := NB454_513.out; have hnb284 := NB513_484.out; have hnc284 := NB484_513.out; have hnb285 := NB513_495.out; have hnc285 := NB495_513.out; have hnb286 := NB513_501.out; have hnc286 := NB501_513.out; have hnb287 := NB513_507.out; have hnc287 := NB507_513.out; obtain ⟨hcz288_0, hcz288_1⟩ := bcs2_ BK513; have hfz288_0 := blk_frozen BK513.out 0; have hfz288_1 := blk_frozen BK513.out 1; obtain ⟨Ao289, co289, eo289⟩ := Kd.R_slice HO511.out; subst eo289) | ((with_reducible refine gate_dst (N := 209) rfl ?_); refine goesL_ (some 209) rfl rfl Try.func11 (by kernel_rfl) rfl #[.agg #[.int .i64 t508, .slice Ao289 t509.length co289], .int .i64 t512] rfl tm_ ?_; (with_reducible refine (impl_FlushPort.calls kj45 t508 _ _ t509 t512 t514 t515 t518 _ ?side1 ?side2 A227.out).mono ?_); (case side1 => exact rr_ (fm2_ HO511 BK513)); (case side2 => exact (Kd.R_reads' HO511.out).2.1); rintro e w290 ⟨v516, rfl, ho0, hb⟩; refine ⟨_, rfl, ?_⟩; have HO517 := Aside0.mk (Kd.R_lower (Kd.R_newB (Kd.R_new' (Kd.R_new' (Kd.R_new' (Kd.R_new' (Kd.R_new' (Kd.R_new' (Kd.R_new' (Kd.R_new' ho0 (Kd.R_lt (ra (fm2_ HO_442001 BK513)))) (Kd.R_lt (ra (fm2_ HO_449001 BK513)))) (Kd.R_lt (ra (fm2_ HO_455001 BK513)))) (Kd.R_lt (ra (fm2_ HO482 BK513)))) (Kd.R_lt (ra (fm2_ HO492 BK513)))) (Kd.R_lt (ra (fm2_ HO499 BK513)))) (Kd.R_lt (ra (fm2_ HO505 BK513)))) (Kd.R_lt (ra (fm2_ HO511 BK513)))) (g := gb442) (o := .cells #[.int .i64 t438, .int .i64 t439, .int .i64 t440] 27 (0, 0)) (bx BK442)) (below_size (hB HB))); replace HO_442001 := Aside0.mk (Kd.R_elder' (ra (fm2_ HO_442001 BK513)) (Kd.R_base ho0) hb); replace HO_449001 := Aside0.mk (Kd.R_elder' (ra (fm2_ HO_449001 BK513)) (Kd.R_base ho0) hb); replace HO_455001 := Aside0.mk (Kd.R_elder' (ra (fm2_ HO_455001 BK513)) (Kd.R_base ho0) hb); replace HO482 := Aside0.mk (Kd.R_elder' (ra (fm2_ HO482 BK513)) (Kd.R_base ho0) hb); replace HO492 := Aside0.mk (Kd.R_elder' (ra (fm2_ HO492 BK513)) (Kd.R_base ho0) hb); replace HO499 := Aside0.mk (Kd.R_elder' (ra (fm2_ HO499 BK513)) (Kd.R_base ho0) hb); replace HO505 := Aside0.mk (Kd.R_elder' (ra (fm2_ HO505 BK513)) (Kd.R_base ho0) hb); replace HO511 := Aside0.mk (Kd.R_elder' (ra (fm2_ HO511 BK513)) (Kd.R_base ho0) hb); replace BK441 := Aside0.mk (blk_below (bx BK441) hb); replace BK442 := Aside0.mk (blk_below (bx BK442) hb); replace BK448 := Aside0.mk (blk_below (bx BK448) hb); replace BK454 := Aside0.mk (blk_below (bx BK454) hb); replace BK484 := Aside0.mk (blk_below (bx BK484) hb); replace BK495 := Aside0.mk (blk_below (bx BK495) hb); replace BK501 := Aside0.mk (blk_below (bx BK501) hb); replace BK507 := Aside0.mk (blk_below (bx BK507) hb); replace BK513 := Aside0.mk (blk_below (g := gb513) (o := .cells #[.int .i64 t508, .slice Ao289 t509.length co289] 25 (0, 0)) (by (with_reducible repeat (first | refine blk_drewN ?_ _ | refine blk_drew ?_ | refine blk_alloc ?_ _)); refine blk_put (cs := #[.int .i64 t508, .slice none 0 0]) ?_ 1 _ rfl; (with_reducible repeat (first | refine blk_drewN ?_ _ | refine blk_drew ?_ | refine blk_alloc ?_ _)); refine blk_put (cs := #[.int .i64 0, .slice none 0 0]) ?_ 0 _ rfl; (with_reducible repeat (first | refine blk_drewN ?_ _ | refine blk_drew ?_ | refine blk_alloc ?_ _)); exact BK513.out) hb); replace HB := bst_ HB hb; clear hb ho0) | ((with_reducible refine gate_dst (N := 38) rfl ?_); refine box_event ?hg (N := 38) ?hd (cs := #[.int .i64 0, .slice none 0 0]) (t := 25) ?hr ?_; (case hd => rfl); (case hg => rfl); (case hr => first | (go_simp; done) | (go_simp; rfl)); intro gb519 hg w291 hbox hb; have BK519 := Aside0.mk (hbox); have GW519 := gw_ hg HB; have GE519 := gw_ hg HB; have NB441_519 := nl_ hg BK441; have NB519_441 := ng_ hg BK441; have NB442_519 := nl_ hg BK442; have NB519_442 := ng_ hg BK442; have NB448_519 := nl_ hg BK448; have NB519_448 := ng_ hg BK448; have NB454_519 := nl_ hg BK454; have NB519_454 := ng_ hg BK454; have NB484_519 := nl_ hg BK484; have NB519_484 := ng_ hg BK484; have NB495_519 := nl_ hg BK495; have NB519_495 := ng_ hg BK495; have NB501_519 := nl_ hg BK501; have NB519_501 := ng_ hg BK501; have NB507_519 := nl_ hg BK507; have NB519_507 := ng_ hg BK507; have NB513_519 := nl_ hg BK513; have NB519_513 := ng_ hg BK513; replace HO_442001 := rb_ HO_442001 hb; replace HO_449001 := rb_ HO_449001 hb; replace HO_455001 := rb_ HO_455001 hb; replace HO482 := rb_ HO482 hb; replace HO492 := rb_ HO492 hb; replace HO499 := rb_ HO499 hb; replace HO505 := rb_ HO505 hb; replace HO511 := rb_ HO511 hb; replace HO517 := rb_ HO517 hb; replace BK441 := bb_ BK441 hb; replace BK442 := bb_ BK442 hb; replace BK448 := bb_ BK448 hb; replace BK454 := bb_ BK454 hb; replace BK484 := bb_ BK484 hb; replace BK495 := bb_ BK495 hb; replace BK501 := bb_ BK501 hb; replace BK507 := bb_ BK507 hb; replace BK513 := bb_ BK513 hb; replace HB := bst_ HB hb; clear hb hbox hg; have hnb292 := NB519_441.out; have hnc292 := NB441_519.out; have hnb293 := NB519_442.out; have hnc293 := NB442_519.out; have hnb294 := NB519_448.out; have hnc294 := NB448_519.out; have hnb295 := NB519_454.out; have hnc295 := NB454_519.out; have hnb296 := NB519_484.out; have hnc296 := NB484_519.out; have hnb297 := NB519_495.out; have hnc297 := NB495_519.out; have hnb298 := NB519_501.out; have hnc298 := NB501_519.out; have hnb299 := NB519_507.out; have hnc299 := NB507_519.out; have hnb300 := NB519_513.out; have hnc300 := NB513_519.out; obtain ⟨hcz301_0, hcz301_1⟩ := bcs2_ BK519; have hfz301_0 := blk_frozen BK519.out 0; have hfz301_1 := blk_frozen BK519.out 1; obtain ⟨Ao302, co302, eo302⟩ := Kd.R_slice HO517.out; subst eo302; obtain ⟨hcz303_0, hcz303_1⟩ := bcs2_ BK513; have hfz303_0 := blk_frozen BK513.out 0; have hfz303_1 := blk_frozen BK513.out 1) | ((with_reducible refine gate_dst (N := 215) rfl ?_); refine goesL_ (some 215) rfl rfl Try.func18 (by kernel_rfl) rfl #[.agg #[.int .i64 t508, .slice Ao289 t509.length co289], .int .i64 t512] rfl tm_ ?_; (with_reducible refine (spec_FlushPort.calls kj45 t508 _ _ t509 t512 t520 t521 t524 _ ?side1 ?side2 A228.out).mono ?_); (case side1 => exact rr_ (fm2_ HO511 BK519)); (case side2 => exact (Kd.R_reads' HO511.out).2.1); rintro e w304 ⟨v522, rfl, ho0, hb⟩; refine ⟨_, rfl, ?_⟩; have HO523 := Aside0.mk (Kd.R_lower (Kd.R_newB (Kd.R_new' (Kd.R_new' (Kd.R_new' (Kd.R_new' (Kd.R_new' (Kd.R_new' (Kd.R_new' (Kd.R_new' (Kd.R_new' ho0 (Kd.R_lt (ra (fm2_ HO_442001 BK519)))) (Kd.R_lt (ra (fm2_ HO_449001 BK519)))) (Kd.R_lt (ra (fm2_ HO_455001 BK519)))) (Kd.R_lt (ra (fm2_ HO482 BK519)))) (Kd.R_lt (ra (fm2_ HO492 BK519)))) (Kd.R_lt (ra (fm2_ HO499 BK519)))) (Kd.R_lt (ra (fm2_ HO505 BK519)))) (Kd.R_lt (ra (fm2_ HO511 BK519)))) (Kd.R_lt (ra (fm2_ HO517 BK519)))) (g := gb442) (o := .cells #[.int .i64 t438, .int .i64 t439, .int .i64 t440] 27 (0, 0)) (bx BK442)) (below_size (hB HB))); replace HO_442001 := Aside0.mk (Kd.R_elder' (ra (fm2_ HO_442001 BK519)) (Kd.R_base ho0) hb); replace HO_449001 := Aside0.mk (Kd.R_elder' (ra (fm2_ HO_449001 BK519)) (Kd.R_base ho0) hb); replace HO_455001 := Aside0.mk (Kd.R_elder' (ra (fm2_ HO_455001 BK519)) (Kd.R_base ho0) hb); replace HO482 := Aside0.mk (Kd.R_elder' (ra (fm2_ HO482 BK519)) (Kd.R_base ho0) hb); replace HO492 := Aside0.mk (Kd.R_elder' (ra (fm2_ HO492 BK519)) (Kd.R_base ho0) hb); replace HO499 := Aside0.mk (Kd.R_elder' (ra (fm2_ HO499 BK519)) (Kd.R_base ho0) hb); replace HO505 := Aside0.mk (Kd.R_elder' (ra (fm2_ HO505 BK519)) (Kd.R_base ho0) hb); replace HO511 := Aside0.mk (Kd.R_elder' (ra (fm2_ HO511 BK519)) (Kd.R_base ho0) hb); replace HO517 := Aside0.mk (Kd.R_elder' (ra (fm2_ HO517 BK519)) (Kd.R_base ho0) hb); replace BK441 := Aside0.mk (blk_below (bx BK441) hb); replace BK442 := Aside0.mk (blk_below (bx BK442) hb); replace BK448 := Aside0.mk (blk_below (bx BK448) hb); replace BK454 := Aside0.mk (blk_below (bx BK454) hb); replace BK484 := Aside0.mk (blk_below (bx BK484) hb); replace BK495 := Aside0.mk (blk_below (bx BK495) hb); replace BK501 := Aside0.mk (blk_below (bx BK501) hb); replace BK507 := Aside0.mk (blk_below (bx BK507) hb); replace BK513 := Aside0.mk (blk_below (bx BK513) hb); replace BK519 := Aside0.mk (blk_below (g := gb519) (o := .cells #[.int .i64 t514, .slice Ao302 t515.length co302] 25 (0, 0)) (by (with_reducible repeat (first | refine blk_drewN ?_ _ | refine blk_drew ?_ | refine blk_alloc ?_ _)); refine blk_put (cs := #[.int .i64 t514, .slice none 0 0]) ?_ 1 _ rfl; (with_reducible repeat (first | refine blk_drewN ?_ _ | refine blk_drew ?_ | refine blk_alloc ?_ _)); refine blk_put (cs := #[.int .i64 0, .slice none 0 0]) ?_ 0 _ rfl; (with_reducible repeat (first | refine blk_drewN ?_ _ | refine blk_drew ?_ | refine blk_alloc ?_ _)); exact BK519.out) hb); replace HB := bst_ HB hb; clear hb ho0) | ((with_reducible refine gate_dst (N := 40) rfl ?_); refine box_event ?hg (N := 40) ?hd (cs := #[.int .i64 0, .slice none 0 0]) (t := 25) ?hr ?_; (case hd => rfl); (case hg => rfl); (case hr => first | (go_simp; done) | (go_simp; rfl)); intro gb525 hg w305 hbox hb; have BK525 := Aside0.mk (hbox); have GW525 := gw_ hg HB; have GE525 := gw_ hg HB; have NB441_525 := nl_ hg BK441; have NB525_441 := ng_ hg BK441; have NB442_525 := nl_ hg BK442; have NB525_442 := ng_ hg BK442; have NB448_525 := nl_ hg BK448; have NB525_448 := ng_ hg BK448; have NB454_525 := nl_ hg BK454; have NB525_454 := ng_ hg BK454; have NB484_525 := nl_ hg BK484; have NB525_484 := ng_ hg BK484; have NB495_525 := nl_ hg BK495; have NB525_495 := ng_ hg BK495; have NB501_525 := nl_ hg BK501; have NB525_501 := ng_ hg BK501; have NB507_525 := nl_ hg BK507; have NB525_507 := ng_ hg BK507; have NB513_525 := nl_ hg BK513; have NB525_513 := ng_ hg BK513; have NB519_525 := nl_ hg BK519; have NB525_519 := ng_ hg BK519; replace HO_442001 := rb_ HO_442001 hb; replace HO_449001 := rb_ HO_449001 hb; replace HO_455001 := rb_ HO_455001 hb; replace HO482 := rb_ HO482 hb; replace HO492 := rb_ HO492 hb; replace HO499 := rb_ HO499 hb; replace HO505 := rb_ HO505 hb; replace HO511 := rb_ HO511 hb; replace HO517 := rb_ HO517 hb; replace HO523 := rb_ HO523 hb; replace BK441 := bb_ BK441 hb; replace BK442 := bb_ BK442 hb; replace BK448 := bb_ BK448 hb; replace BK454 := bb_ BK454 hb; replace BK484 := bb_ BK484 hb; replace BK495 := bb_ BK495 hb; replace BK501 := bb_ BK501 hb; replace BK507 := bb_ BK507 hb; replace BK513 := bb_ BK513 hb; replace BK519 := bb_ BK519 hb; replace HB := bst_ HB hb; clear hb hbox hg; have hnb306 := NB525_441.out; have hnc306 := NB441_525.out; have hnb307 := NB525_442.out; have hnc307 := NB442_525.out; have hnb308 := NB525_448.out; have hnc308 := NB448_525.out; have hnb309 := NB525_454.out; have hnc309 := NB454_525.out; have hnb310 := NB525_484.out; have hnc310 := NB484_525.out; have hnb311 := NB525_495.out; have hnc311 := NB495_525.out; have hnb312 := NB525_501.out; have hnc312 := NB501_525.out; have hnb313 := NB525_507.out; have hnc313 := NB507_525.out; have hnb314 := NB525_513.out; have hnc314 := NB513_525.out; have hnb315 := NB525_519.out; have hnc315 := NB519_525.out; obtain ⟨hcz316_0, hcz316_1⟩ := bcs2_ BK525; have hfz316_0 := blk_frozen BK525.out 0; have hfz316_1 := blk_frozen BK525.out 1; obtain ⟨Ao317, co317, eo317⟩ := Kd.R_slice HO523.out; subst eo317; obtain ⟨hcz318_0, hcz318_1⟩ := bcs2_ BK501; have hfz318_0 := blk_frozen BK501.out 0; have hfz318_1 := blk_frozen BK501.out 1; obtain ⟨hcz319_0, hcz319_1⟩ := bcs2_ BK507; have hfz319_0 := blk_frozen BK507.out 0; have hfz319_1 := blk_frozen BK507.out 1))
          by_cases c229 : (t486 == t488) = true
          rotate_left
          ·rw [if_neg c229] at H
           have c229b0 : (t486 == t488) = false := by simpa using c229
           (try (have c229b1 : decide (t486 = t488) = false := by simpa using c229))
           (try (have c229b2 : (t486 == t488) = false := by simpa using c229))
           (try (have c229b3 : ¬ (t486 = t488) := by simpa using c229))
           clear c229
           obtain rfl := Option.some.inj H
           go_wp2
           go_ret
           exact ⟨rt_, hB HB⟩
          rw [if_pos c229] at H
          have c229b0 : (t486 == t488) = true := c229
          (try (have c229b1 : decide (t486 = t488) = true := by simpa using c229))
          (try (have c229b2 : (t486 == t488) = true := by simpa using c229))
          clear c229
          by_cases c230 : t485 = t487
          rotate_left
          ·rw [if_neg c230] at H
           have c230b0 : (t485 == t487) = false := beq_eq_false_iff_ne.mpr c230
           have c230b1 : (t485 != t487) = true := bne_iff_ne.mpr c230
           obtain rfl := Option.some.inj H
           go_wp2
           go_ret
           exact ⟨rt_, hB HB⟩
          rw [if_pos c230] at H
          have c230b0 : (t485 == t487) = true := beq_iff_eq.mpr c230
          have c230b1 : (t485 != t487) = false := bne_eq_false_iff_eq.mpr c230
          clear c230
          by_cases c231 : (t500 == t506) = true
          rotate_left
          ·rw [if_neg c231] at H
           have c231b0 : (t500 == t506) = false := by simpa using c231
           (try (have c231b1 : decide (t500 = t506) = false := by simpa using c231))
           (try (have c231b2 : (t500 == t506) = false := by simpa using c231))
           (try (have c231b3 : ¬ (t500 = t506) := by simpa using c231))
           clear c231
           obtain rfl := Option.some.inj H
           go_wp2
           go_ret
           exact ⟨rt_, hB HB⟩
          rw [if_pos c231] at H
          have c231b0 : (t500 == t506) = true := c231
          (try (have c231b1 : decide (t500 = t506) = true := by simpa using c231))
          (try (have c231b2 : (t500 == t506) = true := by simpa using c231))
          clear c231
          replace H := Option.bind_eq_some_iff.mp H
          obtain ⟨t526, A2320, H⟩ := H
          replace H : (if t526 = true then (if (t518 == t524) = true then ((laws_sameTable.f kj45 t514 t515 t520 t521).bind fun t527 => (some t527)) else (some false)) else (some false)) = some r := H
          have A232 := Aside0.mk A2320
          clear A2320
          by_cases c233 : t526 = true
          rotate_left
          ·replace c233 := Bool.eq_false_iff.mpr c233
           subst c233
           rw [if_neg (show ¬ (false = true) by decide)] at H
           obtain rfl := Option.some.inj H
           as_aux_lemma =>
            go_wp2_with (first | (go_at_call 7; (with_reducible refine (laws_sameTable.calls kj45 t496 _ _ t497 t502 _ _ t503 false _ ?side1 ?side2 ?side3 ?side4 A232.out).mono ?_); (case side1 => exact rr_ (fm2_ HO499 BK525)); (case side2 => exact (Kd.R_reads' HO499.out).2.1); (case side3 => exact rr_ (fm2_ HO505 BK525)); (case side4 => exact (Kd.R_reads' HO505.out).2.1); rintro e w493 ⟨rfl, hb⟩; replace HO_442001 := rb2_ HO_442001 BK525 hb; replace HO_449001 := rb2_ HO_449001 BK525 hb; replace HO_455001 := rb2_ HO_455001 BK525 hb; replace HO482 := rb2_ HO482 BK525 hb; replace HO492 := rb2_ HO492 BK525 hb; replace HO499 := rb2_ HO499 BK525 hb; replace HO505 := rb2_ HO505 BK525 hb; replace HO511 := rb2_ HO511 BK525 hb; replace HO517 := rb2_ HO517 BK525 hb; replace HO523 := rb2_ HO523 BK525 hb; replace BK441 := Aside0.mk (blk_below (bx BK441) hb); replace BK442 := Aside0.mk (blk_below (bx BK442) hb); replace BK448 := Aside0.mk (blk_below (bx BK448) hb); replace BK454 := Aside0.mk (blk_below (bx BK454) hb); replace BK484 := Aside0.mk (blk_below (bx BK484) hb); replace BK495 := Aside0.mk (blk_below (bx BK495) hb); replace BK501 := Aside0.mk (blk_below (bx BK501) hb); replace BK507 := Aside0.mk (blk_below (bx BK507) hb); replace BK513 := Aside0.mk (blk_below (bx BK513) hb); replace BK519 := Aside0.mk (blk_below (bx BK519) hb); replace BK525 := Aside0.mk (blk_below (g := gb525) (o := .cells #[.int .i64 t520, .slice Ao317 t521.length co317] 25 (0, 0)) (by (with_reducible repeat (first | refine blk_drewN ?_ _ | refine blk_drew ?_ | refine blk_alloc ?_ _)); refine blk_put (cs := #[.int .i64 t520, .slice none 0 0]) ?_ 1 _ rfl; (with_reducible repeat (first | refine blk_drewN ?_ _ | refine blk_drew ?_ | refine blk_alloc ?_ _)); refine blk_put (cs := #[.int .i64 0, .slice none 0 0]) ?_ 0 _ rfl; (with_reducible repeat (first | refine blk_drewN ?_ _ | refine blk_drew ?_ | refine blk_alloc ?_ _)); exact BK525.out) hb); replace HB := bst_ HB hb; clear hb))
            go_ret
            exact ⟨rt_, hB HB⟩
          subst c233
          rw [if_pos rfl] at H
          by_cases c234 : (t518 == t524) = true
          rotate_left
          ·rw [if_neg c234] at H
           have c234b0 : (t518 == t524) = false := by simpa using c234
           (try (have c234b1 : decide (t518 = t524) = false := by simpa using c234))
           (try (have c234b2 : (t518 == t524) = false := by simpa using c234))
           (try (have c234b3 : ¬ (t518 = t524) := by simpa using c234))
           clear c234
           obtain rfl := Option.some.inj H
           as_aux_lemma =>
            go_wp2_with (first | (go_at_call 7; (with_reducible refine (laws_sameTable.calls kj45 t496 _ _ t497 t502 _ _ t503 true _ ?side1 ?side2 ?side3 ?side4 A232.out).mono ?_); (case side1 => exact rr_ (fm2_ HO499 BK525)); (case side2 => exact (Kd.R_reads' HO499.out).2.1); (case side3 => exact rr_ (fm2_ HO505 BK525)); (case side4 => exact (Kd.R_reads' HO505.out).2.1); rintro e w320 ⟨rfl, hb⟩; replace HO_442001 := rb2_ HO_442001 BK525 hb; replace HO_449001 := rb2_ HO_449001 BK525 hb; replace HO_455001 := rb2_ HO_455001 BK525 hb; replace HO482 := rb2_ HO482 BK525 hb; replace HO492 := rb2_ HO492 BK525 hb; replace HO499 := rb2_ HO499 BK525 hb; replace HO505 := rb2_ HO505 BK525 hb; replace HO511 := rb2_ HO511 BK525 hb; replace HO517 := rb2_ HO517 BK525 hb; replace HO523 := rb2_ HO523 BK525 hb; replace BK441 := Aside0.mk (blk_below (bx BK441) hb); replace BK442 := Aside0.mk (blk_below (bx BK442) hb); replace BK448 := Aside0.mk (blk_below (bx BK448) hb); replace BK454 := Aside0.mk (blk_below (bx BK454) hb); replace BK484 := Aside0.mk (blk_below (bx BK484) hb); replace BK495 := Aside0.mk (blk_below (bx BK495) hb); replace BK501 := Aside0.mk (blk_below (bx BK501) hb); replace BK507 := Aside0.mk (blk_below (bx BK507) hb); replace BK513 := Aside0.mk (blk_below (bx BK513) hb); replace BK519 := Aside0.mk (blk_below (bx BK519) hb); replace BK525 := Aside0.mk (blk_below (g := gb525) (o := .cells #[.int .i64 t520, .slice Ao317 t521.length co317] 25 (0, 0)) (by (with_reducible repeat (first | refine blk_drewN ?_ _ | refine blk_drew ?_ | refine blk_alloc ?_ _)); refine blk_put (cs := #[.int .i64 t520, .slice none 0 0]) ?_ 1 _ rfl; (with_reducible repeat (first | refine blk_drewN ?_ _ | refine blk_drew ?_ | refine blk_alloc ?_ _)); refine blk_put (cs := #[.int .i64 0, .slice none 0 0]) ?_ 0 _ rfl; (with_reducible repeat (first | refine blk_drewN ?_ _ | refine blk_drew ?_ | refine blk_alloc ?_ _)); exact BK525.out) hb); replace HB := bst_ HB hb; clear hb))
            go_ret
            exact ⟨rt_, hB HB⟩
          rw [if_pos c234] at H
          have c234b0 : (t518 == t524) = true := c234
          (try (have c234b1 : decide (t518 = t524) = true := by simpa using c234))
          (try (have c234b2 : (t518 == t524) = true := by simpa using c234))
          clear c234
          replace H := Option.bind_eq_some_iff.mp H
          obtain ⟨t527, A2350, H⟩ := H
          replace H : (some t527) = some r := H
          have A235 := Aside0.mk A2350
          clear A2350
          obtain rfl := Option.some.inj H
          as_aux_lemma =>
           go_wp2_with (first | (go_at_call 7; (with_reducible refine (laws_sameTable.calls kj45 t496 _ _ t497 t502 _ _ t503 true _ ?side1 ?side2 ?side3 ?side4 A232.out).mono ?_); (case side1 => exact rr_ (fm2_ HO499 BK525)); (case side2 => exact (Kd.R_reads' HO499.out).2.1); (case side3 => exact rr_ (fm2_ HO505 BK525)); (case side4 => exact (Kd.R_reads' HO505.out).2.1); rintro e w320 ⟨rfl, hb⟩; replace HO_442001 := rb2_ HO_442001 BK525 hb; replace HO_449001 := rb2_ HO_449001 BK525 hb; replace HO_455001 := rb2_ HO_455001 BK525 hb; replace HO482 := rb2_ HO482 BK525 hb; replace HO492 := rb2_ HO492 BK525 hb; replace HO499 := rb2_ HO499 BK525 hb; replace HO505 := rb2_ HO505 BK525 hb; replace HO511 := rb2_ HO511 BK525 hb; replace HO517 := rb2_ HO517 BK525 hb; replace HO523 := rb2_ HO523 BK525 hb; replace BK441 := Aside0.mk (blk_below (bx BK441) hb); replace BK442 := Aside0.mk (blk_below (bx BK442) hb); replace BK448 := Aside0.mk (blk_below (bx BK448) hb); replace BK454 := Aside0.mk (blk_below (bx BK454) hb); replace BK484 := Aside0.mk (blk_below (bx BK484) hb); replace BK495 := Aside0.mk (blk_below (bx BK495) hb); replace BK501 := Aside0.mk (blk_below (bx BK501) hb); replace BK507 := Aside0.mk (blk_below (bx BK507) hb); replace BK513 := Aside0.mk (blk_below (bx BK513) hb); replace BK519 := Aside0.mk (blk_below (bx BK519) hb); replace BK525 := Aside0.mk (blk_below (g := gb525) (o := .cells #[.int .i64 t520, .slice Ao317 t521.length co317] 25 (0, 0)) (by (with_reducible repeat (first | refine blk_drewN ?_ _ | refine blk_drew ?_ | refine blk_alloc ?_ _)); refine blk_put (cs := #[.int .i64 t520, .slice none 0 0]) ?_ 1 _ rfl; (with_reducible repeat (first | refine blk_drewN ?_ _ | refine blk_drew ?_ | refine blk_alloc ?_ _)); refine blk_put (cs := #[.int .i64 0, .slice none 0 0]) ?_ 0 _ rfl; (with_reducible repeat (first | refine blk_drewN ?_ _ | refine blk_drew ?_ | refine blk_alloc ?_ _)); exact BK525.out) hb); replace HB := bst_ HB hb; clear hb; obtain ⟨hcz321_0, hcz321_1⟩ := bcs2_ BK519; have hfz321_0 := blk_frozen BK519.out 0; have hfz321_1 := blk_frozen BK519.out 1; obtain ⟨hcz322_0, hcz322_1⟩ := bcs2_ BK525; have hfz322_0 := blk_frozen BK525.out 0; have hfz322_1 := blk_frozen BK525.out 1) | (go_at_call 7; (with_reducible refine (laws_sameTable.calls kj45 t514 _ _ t515 t520 _ _ t521 t527 _ ?side1 ?side2 ?side3 ?side4 A235.out).mono ?_); (case side1 => exact ca (Kd.R_reads' HO517.out).2.2); (case side2 => exact (Kd.R_reads' HO517.out).2.1); (case side3 => exact ca (Kd.R_reads' HO523.out).2.2); (case side4 => exact (Kd.R_reads' HO523.out).2.1); rintro e w323 ⟨rfl, hb⟩; replace HO_442001 := rb_ HO_442001 hb; replace HO_449001 := rb_ HO_449001 hb; replace HO_455001 := rb_ HO_455001 hb; replace HO482 := rb_ HO482 hb; replace HO492 := rb_ HO492 hb; replace HO499 := rb_ HO499 hb; replace HO505 := rb_ HO505 hb; replace HO511 := rb_ HO511 hb; replace HO517 := rb_ HO517 hb; replace HO523 := rb_ HO523 hb; replace BK441 := bb_ BK441 hb; replace BK442 := bb_ BK442 hb; replace BK448 := bb_ BK448 hb; replace BK454 := bb_ BK454 hb; replace BK484 := bb_ BK484 hb; replace BK495 := bb_ BK495 hb; replace BK501 := bb_ BK501 hb; replace BK507 := bb_ BK507 hb; replace BK513 := bb_ BK513 hb; replace BK519 := bb_ BK519 hb; replace BK525 := bb_ BK525 hb; replace HB := bst_ HB hb; clear hb))
           go_ret
           exact ⟨rt_, hB HB⟩

/-- THE ONE PURE STATEMENT of laws_FnHits: yours. -/
def laws_FnHits.Pure : Prop := ∀ (l0 : List Int) (l1 : List Int), l0.length ≤ maxLen → l0.length * 1 ≤ 140737488351232 → (∀ x ∈ l0, (Lit.int .u8 x).wf = true) → l1.length ≤ maxLen → l1.length * 1 ≤ 140737488351232 → (∀ x ∈ l1, (Lit.int .u8 x).wf = true) → ∃ k, laws_FnHits.f k l0 l1 = some true
theorem laws_FnHits.walk (P : laws_FnHits.Pure) (a0 : Option Addr) (len0 cap0 : Nat) (z0 : List Int) (a1 : Option Addr) (len1 cap1 : Nat) (z1 : List Int) (w : World) (w0 : (a0 = none ∧ len0 = 0 ∧ cap0 = 0 ∧ z0 = []) ∨ ∃ x, a0 = some x ∧ len0 ≤ cap0 ∧ cap0 ≤ maxLen ∧ z0.length = cap0 ∧ (∀ i, i < z0.length → w.cell? (x.add i) = some (.int .u8 (z0.getD i 0))) ∧ ∀ n ∈ z0, (Lit.int .u8 n).wf = true) (y0 : len0 * 1 ≤ 140737488351232) (w1 : (a1 = none ∧ len1 = 0 ∧ cap1 = 0 ∧ z1 = []) ∨ ∃ x, a1 = some x ∧ len1 ≤ cap1 ∧ cap1 ≤ maxLen ∧ z1.length = cap1 ∧ (∀ i, i < z1.length → w.cell? (x.add i) = some (.int .u8 (z1.getD i 0))) ∧ ∀ n ∈ z1, (Lit.int .u8 n).wf = true) (y1 : len1 * 1 ≤ 140737488351232) :
  Calls Try.prog 3 #[.slice a0 len0 cap0, .slice a1 len1 cap1] w fun e w' => e = .returned (.bool true) ∧ Below w.heap.size w w' := by
 obtain ⟨l0, rfl, hr0, hm0, hw0, hc0⟩ := ReadsInt.ofRowC w0
 obtain ⟨l1, rfl, hr1, hm1, hw1, hc1⟩ := ReadsInt.ofRowC w1
 obtain ⟨k, h⟩ := P l0 l1 hm0 y0 hw0 hm1 y1 hw1
 refine (laws_FnHits.calls k _ _ l0 _ _ l1 true w (Kd.C_of_reads (d := (0 : Int)) (h1 := fun _ => rfl) hr0) hc0 (Kd.C_of_reads (d := (0 : Int)) (h1 := fun _ => rfl) hr1) hc1 h).mono ?_
 rintro e w' ⟨rfl, hd⟩
 exact ⟨rfl, hd⟩

end Go.Proofs.Ytenedmcobknefaa.P
