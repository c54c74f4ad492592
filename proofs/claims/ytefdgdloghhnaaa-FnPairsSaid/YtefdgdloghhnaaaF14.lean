import Derived.Test.YtefdgdloghhnaaaF0
import Derived.Test.YtefdgdloghhnaaaF1
import Derived.Test.YtefdgdloghhnaaaF7
import Derived.Test.YtefdgdloghhnaaaF8
import Derived.Test.YtefdgdloghhnaaaF9
import Derived.Test.YtefdgdloghhnaaaF10
import Derived.Test.YtefdgdloghhnaaaF11
import Derived.Test.YtefdgdloghhnaaaF12
import Derived.Test.YtefdgdloghhnaaaF13
namespace Go.Proofs.Ytefdgdloghhnaaa.P
open Go.RowKit Go.Proofs.YtefdgdloghhnaaaW.PrintWords Go.Proofs.YtefdgdloghhnaaaW.PrintLast Go.Proofs.YtefdgdloghhnaaaW.PrintMore
attribute [local go_sem] max2_int min2_int max_two min_two max_three min_three max_four min_four   -- for this text's walks alone
set_option linter.unusedVariables false
set_option linter.unusedSimpArgs false
attribute [local go_sem high] eqA36

mutual
def laws_FnPairs.j0 : Nat → List Int → Bool → Bool → List Int → List Int → List (S36) → Int → Int → List Int → List Int → List (S36) → Option (Bool)
 | 0, _, _, _, _, _, _, _, _, _, _, _ => none
 | k + 1, x1, x8, x64, x649000, x649001, x649002, x650000, x650001, x661000, x661001, x661002 => if x64 = true then (some false) else (if x8 = true then ((impl_GoodPair.f k x661000 x661001 x661002).bind fun t675 => (if t675 = true then (laws_FnPairs.l0 k x1 (x661000.length : Int) 0 x649000 x649001 x649002 x650000 x650001 x661000 x661001 x661002) else (some false))) else (laws_FnPairs.j3 k x1))
def laws_FnPairs.j3 : Nat → List Int → Option (Bool)
 | 0, _ => none
 | k + 1, x1 => (spec_DrawSettlePair.f k x1).bind fun bt682 => ((impl_SettlePair.f k bt682.1 bt682.2.1 bt682.2.2).bind fun bt692 => ((spec_SettlePair.f k bt682.1 bt682.2.1 bt682.2.2).bind fun bt703 => ((impl_AreBoth.f k bt682.1 bt682.2.1 bt682.2.2).bind fun bt714 => ((spec_AreBoth.f k bt682.1 bt682.2.1 bt682.2.2).bind fun bt716 => ((spec_DrawNewPair.f x1).bind fun t718 => ((impl_NewPair.f t718).bind fun bt719 => ((spec_NewPair.f t718).bind fun bt730 => (if (bt692.2.2.2 == bt703.2.2.2) = true then ((laws_samePair.f k bt692.1 bt692.2.1 bt692.2.2.1 bt703.1 bt703.2.1 bt703.2.2.1).bind fun t741 => (if t741 = true then (if (bt714.2 == bt716.2) = true then (if (bt714.1 == bt716.1) = true then (if (bt719.2.2.2 == bt730.2.2.2) = true then ((laws_samePair.f k bt719.1 bt719.2.1 bt719.2.2.1 bt730.1 bt730.2.1 bt730.2.2.1).bind fun t742 => (some t742)) else (some false)) else (some false)) else (some false)) else (some false))) else (some false)))))))))
def laws_FnPairs.l0 : Nat → List Int → Int → Int → List Int → List Int → List (S36) → Int → Int → List Int → List Int → List (S36) → Option (Bool)
 | 0, _, _, _, _, _, _, _, _, _, _, _ => none
 | k + 1, x1, x71, x72, x649000, x649001, x649002, x650000, x650001, x661000, x661001, x661002 => if x72 < x71 then (if 0 ≤ x72 then (if x72 < (x661000.length : Int) then (if x72 < (x649000.length : Int) then (if (rd x661000 x72) = (rd x649000 x72) then (laws_FnPairs.j2 k x1 x72 x71 x72 false x649000 x649001 x649002 x650000 x650001 x661000 x661001 x661002) else (if x650000 = 2 then (laws_FnPairs.j2 k x1 x72 x71 x72 false x649000 x649001 x649002 x650000 x650001 x661000 x661001 x661002) else (laws_FnPairs.j2 k x1 x72 x71 x72 (x650000 != 4) x649000 x649001 x649002 x650000 x650001 x661000 x661001 x661002))) else (none)) else (none)) else (none)) else (laws_FnPairs.j3 k x1)
def laws_FnPairs.j2 : Nat → List Int → Int → Int → Int → Bool → List Int → List Int → List (S36) → Int → Int → List Int → List Int → List (S36) → Option (Bool)
 | 0, _, _, _, _, _, _, _, _, _, _, _, _, _ => none
 | k + 1, x1, x11, x71, x72, x95, x649000, x649001, x649002, x650000, x650001, x661000, x661001, x661002 => if x95 = true then (some false) else (if 0 ≤ x11 then (if x11 < (x661000.length : Int) then (if (rd x661000 x11) = 2 then (if x11 < (x649000.length : Int) then (if (rd x649000 x11) = 2 then (laws_FnPairs.l0 k x1 x71 (wrap64 (x72 + 1)) x649000 x649001 x649002 x650000 x650001 x661000 x661001 x661002) else (if x650000 = 2 then (if 0 ≤ x650001 then (if x650001 < (x649002.length : Int) then (if ((rd_T36 x649002 x650001).f1 = true) then (if ((rd_T36 x649002 x650001).f0) = x11 then (some false) else (laws_FnPairs.l0 k x1 x71 (wrap64 (x72 + 1)) x649000 x649001 x649002 x650000 x650001 x661000 x661001 x661002)) else (some false)) else (none)) else (none)) else (some false))) else (none)) else (laws_FnPairs.l0 k x1 x71 (wrap64 (x72 + 1)) x649000 x649001 x649002 x650000 x650001 x661000 x661001 x661002)) else (none)) else (none))
end
def laws_FnPairs.f (k : Nat) (l0 : List Int) (l1 : List Int) : Option (Bool) := if (wrap64 ((l0.length : Int) + (l1.length : Int))) > 1048576 then (some true) else ((spec_DrawStepPair.f k l0).bind fun bt637 => ((impl_StepPair.f k bt637.1 bt637.2.1 bt637.2.2.1 bt637.2.2.2.1 bt637.2.2.2.2).bind fun bt650 => ((spec_StepPair.f k bt637.1 bt637.2.1 bt637.2.2.1 bt637.2.2.2.1 bt637.2.2.2.2).bind fun bt661 => (if (bt650.2.2.2 != bt661.2.2.2) = true then (laws_FnPairs.j0 k l1 bt650.2.2.2 true bt637.1 bt637.2.1 bt637.2.2.1 bt637.2.2.2.1 bt637.2.2.2.2 bt650.1 bt650.2.1 bt650.2.2.1) else ((laws_samePair.f k bt650.1 bt650.2.1 bt650.2.2.1 bt661.1 bt661.2.1 bt661.2.2.1).bind fun t672 => (if t672 = true then ((impl_GoodPair.f k bt637.1 bt637.2.1 bt637.2.2.1).bind fun t673 => ((spec_GoodPair.f k bt637.1 bt637.2.1 bt637.2.2.1).bind fun t674 => (laws_FnPairs.j0 k l1 bt650.2.2.2 (t673 != t674) bt637.1 bt637.2.1 bt637.2.2.1 bt637.2.2.2.1 bt637.2.2.2.2 bt650.1 bt650.2.1 bt650.2.2.1))) else (laws_FnPairs.j0 k l1 bt650.2.2.2 true bt637.1 bt637.2.1 bt637.2.2.1 bt637.2.2.2.1 bt637.2.2.2.2 bt650.1 bt650.2.1 bt650.2.2.1)))))))
theorem laws_FnPairs.mono_l : ∀ k, (∀ y0 y1 y2 y3 y4 y5 y6 y7 y8 y9 y10, LeO (laws_FnPairs.j0 k y0 y1 y2 y3 y4 y5 y6 y7 y8 y9 y10) (laws_FnPairs.j0 (k + 1) y0 y1 y2 y3 y4 y5 y6 y7 y8 y9 y10)) ∧ (∀ y0, LeO (laws_FnPairs.j3 k y0) (laws_FnPairs.j3 (k + 1) y0)) ∧ (∀ y0 y1 y2 y3 y4 y5 y6 y7 y8 y9 y10, LeO (laws_FnPairs.l0 k y0 y1 y2 y3 y4 y5 y6 y7 y8 y9 y10) (laws_FnPairs.l0 (k + 1) y0 y1 y2 y3 y4 y5 y6 y7 y8 y9 y10)) ∧ (∀ y0 y1 y2 y3 y4 y5 y6 y7 y8 y9 y10 y11 y12, LeO (laws_FnPairs.j2 k y0 y1 y2 y3 y4 y5 y6 y7 y8 y9 y10 y11 y12) (laws_FnPairs.j2 (k + 1) y0 y1 y2 y3 y4 y5 y6 y7 y8 y9 y10 y11 y12))
 | 0 => ⟨fun _ _ _ _ _ _ _ _ _ _ _ r h => by simp [laws_FnPairs.j0] at h, fun _ r h => by simp [laws_FnPairs.j3] at h, fun _ _ _ _ _ _ _ _ _ _ _ r h => by simp [laws_FnPairs.l0] at h, fun _ _ _ _ _ _ _ _ _ _ _ _ _ r h => by simp [laws_FnPairs.j2] at h⟩
 | k + 1 => by
  obtain ⟨ih0, ih1, ih2, ih3⟩ := laws_FnPairs.mono_l k
  refine ⟨?_, ?_, ?_, ?_⟩
  ·intro y0 y1 y2 y3 y4 y5 y6 y7 y8 y9 y10
   unfold laws_FnPairs.j0
   repeat' first
   | (with_reducible exact ih0 _ _ _ _ _ _ _ _ _ _ _)
   | (with_reducible exact ih1 _)
   | (with_reducible exact ih2 _ _ _ _ _ _ _ _ _ _ _)
   | (with_reducible exact ih3 _ _ _ _ _ _ _ _ _ _ _ _ _)
   | (with_reducible exact impl_AreBoth.mono _ _ _ _)
   | (with_reducible exact impl_GoodPair.mono _ _ _ _)
   | (with_reducible exact impl_SettlePair.mono _ _ _ _)
   | (with_reducible exact impl_StepPair.mono _ _ _ _ _ _)
   | (with_reducible exact laws_samePair.mono _ _ _ _ _ _ _)
   | (with_reducible exact spec_AreBoth.mono _ _ _ _)
   | (with_reducible exact spec_DrawSettlePair.mono _ _)
   | (with_reducible exact spec_DrawStepPair.mono _ _)
   | (with_reducible exact spec_GoodPair.mono _ _ _ _)
   | (with_reducible exact spec_SettlePair.mono _ _ _ _)
   | (with_reducible exact spec_StepPair.mono _ _ _ _ _ _)
   | with_reducible first | exact LeO.refl _ | exact LeO.none _ | refine LeO.ite ?_ ?_ | refine LeO.bind ?_ fun _ => ?_
  ·intro y0
   unfold laws_FnPairs.j3
   repeat' first
   | (with_reducible exact ih0 _ _ _ _ _ _ _ _ _ _ _)
   | (with_reducible exact ih1 _)
   | (with_reducible exact ih2 _ _ _ _ _ _ _ _ _ _ _)
   | (with_reducible exact ih3 _ _ _ _ _ _ _ _ _ _ _ _ _)
   | (with_reducible exact impl_AreBoth.mono _ _ _ _)
   | (with_reducible exact impl_GoodPair.mono _ _ _ _)
   | (with_reducible exact impl_SettlePair.mono _ _ _ _)
   | (with_reducible exact impl_StepPair.mono _ _ _ _ _ _)
   | (with_reducible exact laws_samePair.mono _ _ _ _ _ _ _)
   | (with_reducible exact spec_AreBoth.mono _ _ _ _)
   | (with_reducible exact spec_DrawSettlePair.mono _ _)
   | (with_reducible exact spec_DrawStepPair.mono _ _)
   | (with_reducible exact spec_GoodPair.mono _ _ _ _)
   | (with_reducible exact spec_SettlePair.mono _ _ _ _)
   | (with_reducible exact spec_StepPair.mono _ _ _ _ _ _)
   | with_reducible first | exact LeO.refl _ | exact LeO.none _ | refine LeO.ite ?_ ?_ | refine LeO.bind ?_ fun _ => ?_
  ·intro y0 y1 y2 y3 y4 y5 y6 y7 y8 y9 y10
   unfold laws_FnPairs.l0
   repeat' first
   | (with_reducible exact ih0 _ _ _ _ _ _ _ _ _ _ _)
   | (with_reducible exact ih1 _)
   | (with_reducible exact ih2 _ _ _ _ _ _ _ _ _ _ _)
   | (with_reducible exact ih3 _ _ _ _ _ _ _ _ _ _ _ _ _)
   | (with_reducible exact impl_AreBoth.mono _ _ _ _)
   | (with_reducible exact impl_GoodPair.mono _ _ _ _)
   | (with_reducible exact impl_SettlePair.mono _ _ _ _)
   | (with_reducible exact impl_StepPair.mono _ _ _ _ _ _)
   | (with_reducible exact laws_samePair.mono _ _ _ _ _ _ _)
   | (with_reducible exact spec_AreBoth.mono _ _ _ _)
   | (with_reducible exact spec_DrawSettlePair.mono _ _)
   | (with_reducible exact spec_DrawStepPair.mono _ _)
   | (with_reducible exact spec_GoodPair.mono _ _ _ _)
   | (with_reducible exact spec_SettlePair.mono _ _ _ _)
   | (with_reducible exact spec_StepPair.mono _ _ _ _ _ _)
   | with_reducible first | exact LeO.refl _ | exact LeO.none _ | refine LeO.ite ?_ ?_ | refine LeO.bind ?_ fun _ => ?_
  ·intro y0 y1 y2 y3 y4 y5 y6 y7 y8 y9 y10 y11 y12
   unfold laws_FnPairs.j2
   repeat' first
   | (with_reducible exact ih0 _ _ _ _ _ _ _ _ _ _ _)
   | (with_reducible exact ih1 _)
   | (with_reducible exact ih2 _ _ _ _ _ _ _ _ _ _ _)
   | (with_reducible exact ih3 _ _ _ _ _ _ _ _ _ _ _ _ _)
   | (with_reducible exact impl_AreBoth.mono _ _ _ _)
   | (with_reducible exact impl_GoodPair.mono _ _ _ _)
   | (with_reducible exact impl_SettlePair.mono _ _ _ _)
   | (with_reducible exact impl_StepPair.mono _ _ _ _ _ _)
   | (with_reducible exact laws_samePair.mono _ _ _ _ _ _ _)
   | (with_reducible exact spec_AreBoth.mono _ _ _ _)
   | (with_reducible exact spec_DrawSettlePair.mono _ _)
   | (with_reducible exact spec_DrawStepPair.mono _ _)
   | (with_reducible exact spec_GoodPair.mono _ _ _ _)
   | (with_reducible exact spec_SettlePair.mono _ _ _ _)
   | (with_reducible exact spec_StepPair.mono _ _ _ _ _ _)
   | with_reducible first | exact LeO.refl _ | exact LeO.none _ | refine LeO.ite ?_ ?_ | refine LeO.bind ?_ fun _ => ?_
theorem laws_FnPairs.mono : ∀ a0 a1 k, LeO (laws_FnPairs.f k a0 a1) (laws_FnPairs.f (k + 1) a0 a1) := by
 intro a0 a1 k
 obtain ⟨ih0, ih1, ih2, ih3⟩ := laws_FnPairs.mono_l k
 unfold laws_FnPairs.f
 repeat' first
   | (with_reducible exact ih0 _ _ _ _ _ _ _ _ _ _ _)
   | (with_reducible exact ih1 _)
   | (with_reducible exact ih2 _ _ _ _ _ _ _ _ _ _ _)
   | (with_reducible exact ih3 _ _ _ _ _ _ _ _ _ _ _ _ _)
   | (with_reducible exact impl_AreBoth.mono _ _ _ _)
   | (with_reducible exact impl_GoodPair.mono _ _ _ _)
   | (with_reducible exact impl_SettlePair.mono _ _ _ _)
   | (with_reducible exact impl_StepPair.mono _ _ _ _ _ _)
   | (with_reducible exact laws_samePair.mono _ _ _ _ _ _ _)
   | (with_reducible exact spec_AreBoth.mono _ _ _ _)
   | (with_reducible exact spec_DrawSettlePair.mono _ _)
   | (with_reducible exact spec_DrawStepPair.mono _ _)
   | (with_reducible exact spec_GoodPair.mono _ _ _ _)
   | (with_reducible exact spec_SettlePair.mono _ _ _ _)
   | (with_reducible exact spec_StepPair.mono _ _ _ _ _ _)
   | with_reducible first | exact LeO.refl _ | exact LeO.none _ | refine LeO.ite ?_ ?_ | refine LeO.bind ?_ fun _ => ?_
def laws_FnPairs.T6 : Bool × List (List Nat × List Nat) := (true, [([], []), ([], []), ([0, 1], [0, 1]), ([2], [2]), ([3], [3]), ([3], [3]), ([4, 5, 3, 3], [3, 4, 5]), ([6, 3], [3, 6]), ([3, 7], [3, 7]), ([8, 6], [8]), ([9], [9]), ([10, 9, 9], [9, 10]), ([9], [9]), ([12, 11, 9], [9, 12]), ([11, 13, 9], [9, 11, 13]), ([9, 14], [9, 14])])
def laws_FnPairs.B6 : List Nat := [0, 0, 3, 7, 15, 15, 63, 127, 255, 511, 1023, 2047, 1023, 8191, 16383, 32767]
theorem laws_FnPairs.tab6 : rtab .any (opsOf Try.f3 6) = laws_FnPairs.T6 := by kernel_rfl
theorem laws_FnPairs.bits6 : waitsOk laws_FnPairs.T6.2 laws_FnPairs.B6 = true := by kernel_rfl
def laws_FnPairs.T14 : Bool × List (List Nat × List Nat) := (true, [([], []), ([0], [0]), ([], []), ([1, 2], [1, 2]), ([3], [3]), ([], []), ([5], [5]), ([], []), ([6, 7], [6, 7]), ([8], [8]), ([4, 9], [4, 9]), ([10], [10]), ([11], [11]), ([12, 11], [11, 12]), ([13, 11], [11, 13]), ([11, 14], [11, 14]), ([15, 11], [15]), ([16], [16]), ([17, 16], [16, 17]), ([18, 16], [16, 18]), ([16, 19], [16, 19])])
def laws_FnPairs.B14 : List Nat := [0, 1, 0, 7, 15, 0, 32, 0, 224, 480, 1023, 2047, 4095, 8191, 16383, 32767, 65535, 131071, 262143, 524287, 1048575]
theorem laws_FnPairs.tab14 : rtab .any (opsOf Try.f3 14) = laws_FnPairs.T14 := by kernel_rfl
theorem laws_FnPairs.bits14 : waitsOk laws_FnPairs.T14.2 laws_FnPairs.B14 = true := by kernel_rfl
set_option maxHeartbeats 8000000 in
set_option maxRecDepth 100000 in
theorem laws_FnPairs.calls (k : Nat) (A0 : Option Addr) (c0 : Nat) (l0 : List Int) (A1 : Option Addr) (c1 : Nat) (l1 : List Int) (r : Bool) (w : World) (hr0 : Kd.C (Kd.int .u8) w A0 l0.length l0) (hc0 : l0.length ≤ c0) (hr1 : Kd.C (Kd.int .u8) w A1 l1.length l1) (hc1 : l1.length ≤ c1) (h : laws_FnPairs.f k l0 l1 = some r) :
  Calls Try.prog 3 #[.slice A0 l0.length c0, .slice A1 l1.length c1] w fun e w' => e = .returned (.bool r) ∧ Below w.heap.size w w' := by
 have hu26 := Try.underlying26
 have hu28 := Try.underlying28
 have HR0 := Aside0.mk hr0
 have HC0 := Aside0.mk hc0
 clear hr0 hc0
 have HR1 := Aside0.mk hr1
 have HC1 := Aside0.mk hc1
 clear hr1 hc1
 have HB := Aside0.mk (Below.refl w.heap.size w)
 have H : (if (wrap64 ((l0.length : Int) + (l1.length : Int))) > 1048576 then (some true) else ((spec_DrawStepPair.f k l0).bind fun bt637 => ((impl_StepPair.f k bt637.1 bt637.2.1 bt637.2.2.1 bt637.2.2.2.1 bt637.2.2.2.2).bind fun bt650 => ((spec_StepPair.f k bt637.1 bt637.2.1 bt637.2.2.1 bt637.2.2.2.1 bt637.2.2.2.2).bind fun bt661 => (if (bt650.2.2.2 != bt661.2.2.2) = true then (laws_FnPairs.j0 k l1 bt650.2.2.2 true bt637.1 bt637.2.1 bt637.2.2.1 bt637.2.2.2.1 bt637.2.2.2.2 bt650.1 bt650.2.1 bt650.2.2.1) else ((laws_samePair.f k bt650.1 bt650.2.1 bt650.2.2.1 bt661.1 bt661.2.1 bt661.2.2.1).bind fun t672 => (if t672 = true then ((impl_GoodPair.f k bt637.1 bt637.2.1 bt637.2.2.1).bind fun t673 => ((spec_GoodPair.f k bt637.1 bt637.2.1 bt637.2.2.1).bind fun t674 => (laws_FnPairs.j0 k l1 bt650.2.2.2 (t673 != t674) bt637.1 bt637.2.1 bt637.2.2.1 bt637.2.2.2.1 bt637.2.2.2.2 bt650.1 bt650.2.1 bt650.2.2.1))) else (laws_FnPairs.j0 k l1 bt650.2.2.2 true bt637.1 bt637.2.1 bt637.2.2.1 bt637.2.2.2.1 bt637.2.2.2.2 bt650.1 bt650.2.1 bt650.2.2.1)))))))) = some r := h
 clear h
 by_cases c3 : (wrap64 ((l0.length : Int) + (l1.length : Int))) > 1048576
 ·rw [if_pos c3] at H
  have c3b0 : decide (1048576 < (wrap64 ((l0.length : Int) + (l1.length : Int)))) = true := decide_eq_true c3
  clear c3
  obtain rfl := Option.some.inj H
  as_aux_lemma =>
   go_enter Try.func3, Try.ntmps3
   go_wp2
   go_ret
   exact ⟨rt_, hB HB⟩
 rw [if_neg c3] at H
 have c3b0 : decide (1048576 < (wrap64 ((l0.length : Int) + (l1.length : Int)))) = false := decide_eq_false c3
 clear c3
 replace H := Option.bind_eq_some_iff.mp H
 obtain ⟨⟨t637, t640, t643, t646, t647⟩, A40, H⟩ := H
 replace H : ((impl_StepPair.f k t637 t640 t643 t646 t647).bind fun bt650 => ((spec_StepPair.f k t637 t640 t643 t646 t647).bind fun bt661 => (if (bt650.2.2.2 != bt661.2.2.2) = true then (laws_FnPairs.j0 k l1 bt650.2.2.2 true t637 t640 t643 t646 t647 bt650.1 bt650.2.1 bt650.2.2.1) else ((laws_samePair.f k bt650.1 bt650.2.1 bt650.2.2.1 bt661.1 bt661.2.1 bt661.2.2.1).bind fun t672 => (if t672 = true then ((impl_GoodPair.f k t637 t640 t643).bind fun t673 => ((spec_GoodPair.f k t637 t640 t643).bind fun t674 => (laws_FnPairs.j0 k l1 bt650.2.2.2 (t673 != t674) t637 t640 t643 t646 t647 bt650.1 bt650.2.1 bt650.2.2.1))) else (laws_FnPairs.j0 k l1 bt650.2.2.2 true t637 t640 t643 t646 t647 bt650.1 bt650.2.1 bt650.2.2.1)))))) = some r := H
 have A4 := Aside0.mk A40
 clear A40
 replace H := Option.bind_eq_some_iff.mp H
 obtain ⟨⟨t650, t653, t656, t659⟩, A50, H⟩ := H
 replace H : ((spec_StepPair.f k t637 t640 t643 t646 t647).bind fun bt661 => (if (t659 != bt661.2.2.2) = true then (laws_FnPairs.j0 k l1 t659 true t637 t640 t643 t646 t647 t650 t653 t656) else ((laws_samePair.f k t650 t653 t656 bt661.1 bt661.2.1 bt661.2.2.1).bind fun t672 => (if t672 = true then ((impl_GoodPair.f k t637 t640 t643).bind fun t673 => ((spec_GoodPair.f k t637 t640 t643).bind fun t674 => (laws_FnPairs.j0 k l1 t659 (t673 != t674) t637 t640 t643 t646 t647 t650 t653 t656))) else (laws_FnPairs.j0 k l1 t659 true t637 t640 t643 t646 t647 t650 t653 t656))))) = some r := H
 have A5 := Aside0.mk A50
 clear A50
 replace H := Option.bind_eq_some_iff.mp H
 obtain ⟨⟨t661, t664, t667, t670⟩, A60, H⟩ := H
 replace H : (if (t659 != t670) = true then (laws_FnPairs.j0 k l1 t659 true t637 t640 t643 t646 t647 t650 t653 t656) else ((laws_samePair.f k t650 t653 t656 t661 t664 t667).bind fun t672 => (if t672 = true then ((impl_GoodPair.f k t637 t640 t643).bind fun t673 => ((spec_GoodPair.f k t637 t640 t643).bind fun t674 => (laws_FnPairs.j0 k l1 t659 (t673 != t674) t637 t640 t643 t646 t647 t650 t653 t656))) else (laws_FnPairs.j0 k l1 t659 true t637 t640 t643 t646 t647 t650 t653 t656)))) = some r := H
 have A6 := Aside0.mk A60
 clear A60
 have HC7 := Aside0.mk H
 clear H
 as_aux_lemma =>
  go_enter Try.func3, Try.ntmps3
  as_aux_lemma =>
   go_upto_region 6 with (first | ((with_reducible refine gate_dst (N := 34) rfl ?_); refine goesL_ (some 34) rfl rfl Try.func4 (by kernel_rfl) rfl #[.slice A0 l0.length c0] rfl tm_ ?_; (with_reducible refine (spec_DrawStepPair.calls k _ _ l0 t637 t640 t643 t646 t647 _ ?side1 ?side2 A4.out).mono ?_); (case side1 => exact ca HR0.out); (case side2 => exact HC0.out); rintro e w8 ⟨v638, v641, v644, rfl, ho0, ho1, ho2, hb⟩; refine ⟨_, rfl, ?_⟩; have HO639 := Aside0.mk (Kd.R_lower ho0 (below_size (hB HB))); have HO642 := Aside0.mk (Kd.R_lower ho1 (below_size (hB HB))); have HO645 := Aside0.mk (Kd.R_lower ho2 (below_size (hB HB))); replace HB := bst_ HB hb; clear hb ho0 ho1 ho2) | ((with_reducible refine gate_dst (N := 5) rfl ?_); refine bx_ev 5 #[.slice none 0 0, .slice none 0 0, .slice none 0 0] 26 ?_; intro gb648 hg w9 hbox hb; have BK648 := Aside0.mk (hbox); have GW648 := gw_ hg HB; have GE648 := gw_ hg HB; replace HO639 := rb_ HO639 hb; replace HO642 := rb_ HO642 hb; replace HO645 := rb_ HO645 hb; replace HB := bst_ HB hb; clear hb hbox hg) | ((with_reducible refine gate_dst (N := 6) rfl ?_); refine bx_ev 6 #[.int .i64 0, .int .i64 0] 28 ?_; intro gb649 hg w10 hbox hb; have BK649 := Aside0.mk (hbox); have GW649 := gw_ hg HB; have GE649 := gw_ hg HB; have NB648_649 := nl_ hg BK648; have NB649_648 := ng_ hg BK648; replace HO639 := rb_ HO639 hb; replace HO642 := rb_ HO642 hb; replace HO645 := rb_ HO645 hb; replace BK648 := bb_ BK648 hb; replace HB := bst_ HB hb; clear hb hbox hg; obtain ⟨Ao11, co11, eo11⟩ := Kd.R_slice HO639.out; subst eo11; obtain ⟨hnb12, hnc12⟩ := nn_ NB648_649; obtain ⟨hcz13_0, hcz13_1, hcz13_2⟩ := bcs3_ BK648; obtain ⟨hfz13_0, hfz13_1, hfz13_2⟩ := bz3_ BK648; obtain ⟨Ao14, co14, eo14⟩ := Kd.R_slice HO642.out; subst eo14; obtain ⟨Ao15, co15, eo15⟩ := Kd.R_slice HO645.out; subst eo15; obtain ⟨hcz16_0, hcz16_1⟩ := bcs2_ BK649; obtain ⟨hfz16_0, hfz16_1⟩ := bz2_ BK649) | ((with_reducible refine gate_dst (N := 40) rfl ?_); refine goesL_ (some 40) rfl rfl Try.func5 (by kernel_rfl) rfl #[.agg #[.slice Ao11 t637.length co11, .slice Ao14 t640.length co14, .slice Ao15 t643.length co15], .agg #[.int .i64 t646, .int .i64 t647]] rfl tm_ ?_; (with_reducible refine (impl_StepPair.calls k _ _ t637 _ _ t640 _ _ t643 t646 t647 t650 t653 t656 t659 _ ?side1 ?side2 ?side3 ?side4 ?side5 ?side6 A5.out).mono ?_); (case side1 => exact rr_ (Kd.R_mono (Kd.R_mono (Kd.R_far (p := ⟨gb649, 1, none⟩) (Kd.R_far (p := ⟨gb649, 0, none⟩) (Kd.R_far (p := ⟨gb648, 2, none⟩) (Kd.R_far (p := ⟨gb648, 1, none⟩) (Kd.R_far (p := ⟨gb648, 0, none⟩) (Kd.R_types (Kd.R_types HO639.out BK648.out (by decide)) BK649.out (by decide)) (fun _ hk => hk.1.2) (.slice Ao11 t637.length co11)) (fun _ hk => hk.1.2) (.slice Ao14 t640.length co14)) (fun _ hk => hk.1.2) (.slice Ao15 t643.length co15)) (fun _ hk => hk.2) (.int .i64 t646)) (fun _ hk => hk.2) (.int .i64 t647)) (fun _ h_ => h_.1)) (fun _ h_ => h_.1))); (case side2 => exact (Kd.R_reads' HO639.out).2.1); (case side3 => exact rr_ (Kd.R_mono (Kd.R_mono (Kd.R_far (p := ⟨gb649, 1, none⟩) (Kd.R_far (p := ⟨gb649, 0, none⟩) (Kd.R_far (p := ⟨gb648, 2, none⟩) (Kd.R_far (p := ⟨gb648, 1, none⟩) (Kd.R_far (p := ⟨gb648, 0, none⟩) (Kd.R_types (Kd.R_types HO642.out BK648.out (by decide)) BK649.out (by decide)) (fun _ hk => hk.1.2) (.slice Ao11 t637.length co11)) (fun _ hk => hk.1.2) (.slice Ao14 t640.length co14)) (fun _ hk => hk.1.2) (.slice Ao15 t643.length co15)) (fun _ hk => hk.2) (.int .i64 t646)) (fun _ hk => hk.2) (.int .i64 t647)) (fun _ h_ => h_.1)) (fun _ h_ => h_.1))); (case side4 => exact (Kd.R_reads' HO642.out).2.1); (case side5 => exact rr_ (Kd.R_mono (Kd.R_mono (Kd.R_far (p := ⟨gb649, 1, none⟩) (Kd.R_far (p := ⟨gb649, 0, none⟩) (Kd.R_far (p := ⟨gb648, 2, none⟩) (Kd.R_far (p := ⟨gb648, 1, none⟩) (Kd.R_far (p := ⟨gb648, 0, none⟩) (Kd.R_types (Kd.R_types HO645.out BK648.out (by decide)) BK649.out (by decide)) (fun _ hk => hk.1.2) (.slice Ao11 t637.length co11)) (fun _ hk => hk.1.2) (.slice Ao14 t640.length co14)) (fun _ hk => hk.1.2) (.slice Ao15 t643.length co15)) (fun _ hk => hk.2) (.int .i64 t646)) (fun _ hk => hk.2) (.int .i64 t647)) (fun _ h_ => h_.1)) (fun _ h_ => h_.1))); (case side6 => exact (Kd.R_reads' HO645.out).2.1); rintro e w17 ⟨v651, v654, v657, rfl, ho0, ho1, ho2, hb⟩; refine ⟨_, rfl, ?_⟩; have HO652 := Aside0.mk (Kd.R_lower (Kd.R_new' (Kd.R_new' ho0 (Kd.R_lt (ra (Kd.R_mono (Kd.R_mono (Kd.R_far (p := ⟨gb649, 1, none⟩) (Kd.R_far (p := ⟨gb649, 0, none⟩) (Kd.R_far (p := ⟨gb648, 2, none⟩) (Kd.R_far (p := ⟨gb648, 1, none⟩) (Kd.R_far (p := ⟨gb648, 0, none⟩) (Kd.R_types (Kd.R_types HO639.out BK648.out (by decide)) BK649.out (by decide)) (fun _ hk => hk.1.2) (.slice Ao11 t637.length co11)) (fun _ hk => hk.1.2) (.slice Ao14 t640.length co14)) (fun _ hk => hk.1.2) (.slice Ao15 t643.length co15)) (fun _ hk => hk.2) (.int .i64 t646)) (fun _ hk => hk.2) (.int .i64 t647)) (fun _ h_ => h_.1)) (fun _ h_ => h_.1))))) (Kd.R_lt (ra (Kd.R_mono (Kd.R_mono (Kd.R_far (p := ⟨gb649, 1, none⟩) (Kd.R_far (p := ⟨gb649, 0, none⟩) (Kd.R_far (p := ⟨gb648, 2, none⟩) (Kd.R_far (p := ⟨gb648, 1, none⟩) (Kd.R_far (p := ⟨gb648, 0, none⟩) (Kd.R_types (Kd.R_types HO642.out BK648.out (by decide)) BK649.out (by decide)) (fun _ hk => hk.1.2) (.slice Ao11 t637.length co11)) (fun _ hk => hk.1.2) (.slice Ao14 t640.length co14)) (fun _ hk => hk.1.2) (.slice Ao15 t643.length co15)) (fun _ hk => hk.2) (.int .i64 t646)) (fun _ hk => hk.2) (.int .i64 t647)) (fun _ h_ => h_.1)) (fun _ h_ => h_.1))))) (below_size (hB HB))); have HO655 := Aside0.mk (Kd.R_lower (Kd.R_new' (Kd.R_new' ho1 (Kd.R_lt (ra (Kd.R_mono (Kd.R_mono (Kd.R_far (p := ⟨gb649, 1, none⟩) (Kd.R_far (p := ⟨gb649, 0, none⟩) (Kd.R_far (p := ⟨gb648, 2, none⟩) (Kd.R_far (p := ⟨gb648, 1, none⟩) (Kd.R_far (p := ⟨gb648, 0, none⟩) (Kd.R_types (Kd.R_types HO639.out BK648.out (by decide)) BK649.out (by decide)) (fun _ hk => hk.1.2) (.slice Ao11 t637.length co11)) (fun _ hk => hk.1.2) (.slice Ao14 t640.length co14)) (fun _ hk => hk.1.2) (.slice Ao15 t643.length co15)) (fun _ hk => hk.2) (.int .i64 t646)) (fun _ hk => hk.2) (.int .i64 t647)) (fun _ h_ => h_.1)) (fun _ h_ => h_.1))))) (Kd.R_lt (ra (Kd.R_mono (Kd.R_mono (Kd.R_far (p := ⟨gb649, 1, none⟩) (Kd.R_far (p := ⟨gb649, 0, none⟩) (Kd.R_far (p := ⟨gb648, 2, none⟩) (Kd.R_far (p := ⟨gb648, 1, none⟩) (Kd.R_far (p := ⟨gb648, 0, none⟩) (Kd.R_types (Kd.R_types HO642.out BK648.out (by decide)) BK649.out (by decide)) (fun _ hk => hk.1.2) (.slice Ao11 t637.length co11)) (fun _ hk => hk.1.2) (.slice Ao14 t640.length co14)) (fun _ hk => hk.1.2) (.slice Ao15 t643.length co15)) (fun _ hk => hk.2) (.int .i64 t646)) (fun _ hk => hk.2) (.int .i64 t647)) (fun _ h_ => h_.1)) (fun _ h_ => h_.1))))) (below_size (hB HB))); have HO658 := Aside0.mk (Kd.R_lower (Kd.R_new' ho2 (Kd.R_lt (ra (Kd.R_mono (Kd.R_mono (Kd.R_far (p := ⟨gb649, 1, none⟩) (Kd.R_far (p := ⟨gb649, 0, none⟩) (Kd.R_far (p := ⟨gb648, 2, none⟩) (Kd.R_far (p := ⟨gb648, 1, none⟩) (Kd.R_far (p := ⟨gb648, 0, none⟩) (Kd.R_types (Kd.R_types HO645.out BK648.out (by decide)) BK649.out (by decide)) (fun _ hk => hk.1.2) (.slice Ao11 t637.length co11)) (fun _ hk => hk.1.2) (.slice Ao14 t640.length co14)) (fun _ hk => hk.1.2) (.slice Ao15 t643.length co15)) (fun _ hk => hk.2) (.int .i64 t646)) (fun _ hk => hk.2) (.int .i64 t647)) (fun _ h_ => h_.1)) (fun _ h_ => h_.1))))) (below_size (hB HB))); replace HO639 := Aside0.mk (Kd.R_mono (Kd.R_told (Kd.R_told (Kd.R_old (ra (Kd.R_mono (Kd.R_mono (Kd.R_far (p := ⟨gb649, 1, none⟩) (Kd.R_far (p := ⟨gb649, 0, none⟩) (Kd.R_far (p := ⟨gb648, 2, none⟩) (Kd.R_far (p := ⟨gb648, 1, none⟩) (Kd.R_far (p := ⟨gb648, 0, none⟩) (Kd.R_types (Kd.R_types HO639.out BK648.out (by decide)) BK649.out (by decide)) (fun _ hk => hk.1.2) (.slice Ao11 t637.length co11)) (fun _ hk => hk.1.2) (.slice Ao14 t640.length co14)) (fun _ hk => hk.1.2) (.slice Ao15 t643.length co15)) (fun _ hk => hk.2) (.int .i64 t646)) (fun _ hk => hk.2) (.int .i64 t647)) (fun _ h_ => h_.1)) (fun _ h_ => h_.1))) hb) (Kd.R_base ho0)) (Kd.R_base ho1)) (fun _ h_ => h_.1)); replace HO642 := Aside0.mk (Kd.R_mono (Kd.R_told (Kd.R_told (Kd.R_old (ra (Kd.R_mono (Kd.R_mono (Kd.R_far (p := ⟨gb649, 1, none⟩) (Kd.R_far (p := ⟨gb649, 0, none⟩) (Kd.R_far (p := ⟨gb648, 2, none⟩) (Kd.R_far (p := ⟨gb648, 1, none⟩) (Kd.R_far (p := ⟨gb648, 0, none⟩) (Kd.R_types (Kd.R_types HO642.out BK648.out (by decide)) BK649.out (by decide)) (fun _ hk => hk.1.2) (.slice Ao11 t637.length co11)) (fun _ hk => hk.1.2) (.slice Ao14 t640.length co14)) (fun _ hk => hk.1.2) (.slice Ao15 t643.length co15)) (fun _ hk => hk.2) (.int .i64 t646)) (fun _ hk => hk.2) (.int .i64 t647)) (fun _ h_ => h_.1)) (fun _ h_ => h_.1))) hb) (Kd.R_base ho0)) (Kd.R_base ho1)) (fun _ h_ => h_.1)); replace HO645 := Aside0.mk (Kd.R_elder' (ra (Kd.R_mono (Kd.R_mono (Kd.R_far (p := ⟨gb649, 1, none⟩) (Kd.R_far (p := ⟨gb649, 0, none⟩) (Kd.R_far (p := ⟨gb648, 2, none⟩) (Kd.R_far (p := ⟨gb648, 1, none⟩) (Kd.R_far (p := ⟨gb648, 0, none⟩) (Kd.R_types (Kd.R_types HO645.out BK648.out (by decide)) BK649.out (by decide)) (fun _ hk => hk.1.2) (.slice Ao11 t637.length co11)) (fun _ hk => hk.1.2) (.slice Ao14 t640.length co14)) (fun _ hk => hk.1.2) (.slice Ao15 t643.length co15)) (fun _ hk => hk.2) (.int .i64 t646)) (fun _ hk => hk.2) (.int .i64 t647)) (fun _ h_ => h_.1)) (fun _ h_ => h_.1))) (Kd.R_base ho2) hb); replace BK648 := Aside0.mk (blk_below (g := gb648) (o := .cells #[.slice Ao11 t637.length co11, .slice Ao14 t640.length co14, .slice Ao15 t643.length co15] 26 (0, 0)) (bw1_ BK648 NB648_649) hb); replace BK649 := Aside0.mk (blk_below (g := gb649) (o := .cells #[.int .i64 t646, .int .i64 t647] 28 (0, 0)) (bw1_ BK649 NB649_648) hb); replace HB := bst_ HB hb; clear hb ho0 ho1 ho2) | ((with_reducible refine gate_dst (N := 7) rfl ?_); refine bx_ev 7 #[.slice none 0 0, .slice none 0 0, .slice none 0 0] 26 ?_; intro gb660 hg w18 hbox hb; have BK660 := Aside0.mk (hbox); have GW660 := gw_ hg HB; have GE660 := gw_ hg HB; have NB648_660 := nl_ hg BK648; have NB660_648 := ng_ hg BK648; have NB649_660 := nl_ hg BK649; have NB660_649 := ng_ hg BK649; replace HO639 := rb_ HO639 hb; replace HO642 := rb_ HO642 hb; replace HO645 := rb_ HO645 hb; replace HO652 := rb_ HO652 hb; replace HO655 := rb_ HO655 hb; replace HO658 := rb_ HO658 hb; replace BK648 := bb_ BK648 hb; replace BK649 := bb_ BK649 hb; replace HB := bst_ HB hb; clear hb hbox hg; obtain ⟨Ao19, co19, eo19⟩ := Kd.R_slice HO652.out; subst eo19; obtain ⟨hnb20, hnc20⟩ := nn_ NB660_648; obtain ⟨hnb21, hnc21⟩ := nn_ NB660_649; obtain ⟨hcz22_0, hcz22_1, hcz22_2⟩ := bcs3_ BK660; obtain ⟨hfz22_0, hfz22_1, hfz22_2⟩ := bz3_ BK660; obtain ⟨Ao23, co23, eo23⟩ := Kd.R_slice HO655.out; subst eo23; obtain ⟨Ao24, co24, eo24⟩ := Kd.R_slice HO658.out; subst eo24; obtain ⟨hcz25_0, hcz25_1, hcz25_2⟩ := bcs3_ BK648; obtain ⟨hfz25_0, hfz25_1, hfz25_2⟩ := bz3_ BK648; obtain ⟨hcz26_0, hcz26_1⟩ := bcs2_ BK649; obtain ⟨hfz26_0, hfz26_1⟩ := bz2_ BK649) | ((with_reducible refine gate_dst (N := 46) rfl ?_); refine goesL_ (some 46) rfl rfl Try.func6 (by kernel_rfl) rfl #[.agg #[.slice Ao11 t637.length co11, .slice Ao14 t640.length co14, .slice Ao15 t643.length co15], .agg #[.int .i64 t646, .int .i64 t647]] rfl tm_ ?_; (with_reducible refine (spec_StepPair.calls k _ _ t637 _ _ t640 _ _ t643 t646 t647 t661 t664 t667 t670 _ ?side1 ?side2 ?side3 ?side4 ?side5 ?side6 A6.out).mono ?_); (case side1 => exact rr_ (fm3_ HO639 BK660)); (case side2 => exact (Kd.R_reads' HO639.out).2.1); (case side3 => exact rr_ (fm3_ HO642 BK660)); (case side4 => exact (Kd.R_reads' HO642.out).2.1); (case side5 => exact rr_ (fm3_ HO645 BK660)); (case side6 => exact (Kd.R_reads' HO645.out).2.1); rintro e w27 ⟨v662, v665, v668, rfl, ho0, ho1, ho2, hb⟩; refine ⟨_, rfl, ?_⟩; have HO663 := Aside0.mk (Kd.R_lower (Kd.R_new' (Kd.R_new' (Kd.R_new' (Kd.R_new' ho0 (Kd.R_lt (ra (fm3_ HO639 BK660)))) (Kd.R_lt (ra (fm3_ HO642 BK660)))) (Kd.R_lt (ra (fm3_ HO652 BK660)))) (Kd.R_lt (ra (fm3_ HO655 BK660)))) (below_size (hB HB))); have HO666 := Aside0.mk (Kd.R_lower (Kd.R_new' (Kd.R_new' (Kd.R_new' (Kd.R_new' ho1 (Kd.R_lt (ra (fm3_ HO639 BK660)))) (Kd.R_lt (ra (fm3_ HO642 BK660)))) (Kd.R_lt (ra (fm3_ HO652 BK660)))) (Kd.R_lt (ra (fm3_ HO655 BK660)))) (below_size (hB HB))); have HO669 := Aside0.mk (Kd.R_lower (Kd.R_new' (Kd.R_new' ho2 (Kd.R_lt (ra (fm3_ HO645 BK660)))) (Kd.R_lt (ra (fm3_ HO658 BK660)))) (below_size (hB HB))); replace HO639 := Aside0.mk (Kd.R_mono (Kd.R_told (Kd.R_told (Kd.R_old (ra (fm3_ HO639 BK660)) hb) (Kd.R_base ho0)) (Kd.R_base ho1)) (fun _ h_ => h_.1)); replace HO642 := Aside0.mk (Kd.R_mono (Kd.R_told (Kd.R_told (Kd.R_old (ra (fm3_ HO642 BK660)) hb) (Kd.R_base ho0)) (Kd.R_base ho1)) (fun _ h_ => h_.1)); replace HO645 := Aside0.mk (Kd.R_elder' (ra (fm3_ HO645 BK660)) (Kd.R_base ho2) hb); replace HO652 := Aside0.mk (Kd.R_mono (Kd.R_told (Kd.R_told (Kd.R_old (ra (fm3_ HO652 BK660)) hb) (Kd.R_base ho0)) (Kd.R_base ho1)) (fun _ h_ => h_.1)); replace HO655 := Aside0.mk (Kd.R_mono (Kd.R_told (Kd.R_told (Kd.R_old (ra (fm3_ HO655 BK660)) hb) (Kd.R_base ho0)) (Kd.R_base ho1)) (fun _ h_ => h_.1)); replace HO658 := Aside0.mk (Kd.R_elder' (ra (fm3_ HO658 BK660)) (Kd.R_base ho2) hb); replace BK648 := Aside0.mk (blk_below (bx BK648) hb); replace BK649 := Aside0.mk (blk_below (bx BK649) hb); replace BK660 := Aside0.mk (blk_below (g := gb660) (o := .cells #[.slice Ao19 t650.length co19, .slice Ao23 t653.length co23, .slice Ao24 t656.length co24] 26 (0, 0)) (bw0_ BK660) hb); replace HB := bst_ HB hb; clear hb ho0 ho1 ho2) | ((with_reducible refine gate_dst (N := 9) rfl ?_); refine bx_ev 9 #[.slice none 0 0, .slice none 0 0, .slice none 0 0] 26 ?_; intro gb671 hg w28 hbox hb; have BK671 := Aside0.mk (hbox); have GW671 := gw_ hg HB; have GE671 := gw_ hg HB; have NB648_671 := nl_ hg BK648; have NB671_648 := ng_ hg BK648; have NB649_671 := nl_ hg BK649; have NB671_649 := ng_ hg BK649; have NB660_671 := nl_ hg BK660; have NB671_660 := ng_ hg BK660; replace HO639 := rb_ HO639 hb; replace HO642 := rb_ HO642 hb; replace HO645 := rb_ HO645 hb; replace HO652 := rb_ HO652 hb; replace HO655 := rb_ HO655 hb; replace HO658 := rb_ HO658 hb; replace HO663 := rb_ HO663 hb; replace HO666 := rb_ HO666 hb; replace HO669 := rb_ HO669 hb; replace BK648 := bb_ BK648 hb; replace BK649 := bb_ BK649 hb; replace BK660 := bb_ BK660 hb; replace HB := bst_ HB hb; clear hb hbox hg; obtain ⟨Ao29, co29, eo29⟩ := Kd.R_slice HO663.out; subst eo29; obtain ⟨hnb30, hnc30⟩ := nn_ NB671_648; obtain ⟨hnb31, hnc31⟩ := nn_ NB671_649; obtain ⟨hnb32, hnc32⟩ := nn_ NB671_660; obtain ⟨hcz33_0, hcz33_1, hcz33_2⟩ := bcs3_ BK671; obtain ⟨hfz33_0, hfz33_1, hfz33_2⟩ := bz3_ BK671; obtain ⟨Ao34, co34, eo34⟩ := Kd.R_slice HO666.out; subst eo34; obtain ⟨Ao35, co35, eo35⟩ := Kd.R_slice HO669.out; subst eo35))
   (try simp only [Act.put, List.setIfInBounds_toArray, List.set_cons_zero, List.set_cons_succ])
   go_cut [64] (fun v64 wc => ∃ (kq : Nat) (x64_6 : Bool), v64 = .bool x64_6 ∧ Aside0 (laws_FnPairs.j0 kq l1 t659 x64_6 t637 t640 t643 t646 t647 t650 t653 t656 = some r) ∧ Aside0 (kq ≤ k) ∧ Aside0 (Kd.R (Kd.int .i64) 3 wc w.heap.size (fun k_ => no_ (.slice Ao14 t640.length co14) k_ ∧ no_ (.slice Ao19 t650.length co19) k_ ∧ no_ (.slice Ao23 t653.length co23) k_ ∧ no_ (.slice Ao29 t661.length co29) k_ ∧ no_ (.slice Ao34 t664.length co34) k_) (.slice Ao11 t637.length co11) t637) ∧ Aside0 (Kd.R (Kd.int .i64) 3 wc w.heap.size (fun k_ => no_ (.slice Ao11 t637.length co11) k_ ∧ no_ (.slice Ao19 t650.length co19) k_ ∧ no_ (.slice Ao23 t653.length co23) k_ ∧ no_ (.slice Ao29 t661.length co29) k_ ∧ no_ (.slice Ao34 t664.length co34) k_) (.slice Ao14 t640.length co14) t640) ∧ Aside0 (Kd.R k36 36 wc w.heap.size (fun k_ => no_ (.slice Ao24 t656.length co24) k_ ∧ no_ (.slice Ao35 t667.length co35) k_) (.slice Ao15 t643.length co15) t643) ∧ Aside0 (Kd.R (Kd.int .i64) 3 wc w.heap.size (fun k_ => no_ (.slice Ao11 t637.length co11) k_ ∧ no_ (.slice Ao14 t640.length co14) k_ ∧ no_ (.slice Ao23 t653.length co23) k_ ∧ no_ (.slice Ao29 t661.length co29) k_ ∧ no_ (.slice Ao34 t664.length co34) k_) (.slice Ao19 t650.length co19) t650) ∧ Aside0 (Kd.R (Kd.int .i64) 3 wc w.heap.size (fun k_ => no_ (.slice Ao11 t637.length co11) k_ ∧ no_ (.slice Ao14 t640.length co14) k_ ∧ no_ (.slice Ao19 t650.length co19) k_ ∧ no_ (.slice Ao29 t661.length co29) k_ ∧ no_ (.slice Ao34 t664.length co34) k_) (.slice Ao23 t653.length co23) t653) ∧ Aside0 (Kd.R k36 36 wc w.heap.size (fun k_ => no_ (.slice Ao15 t643.length co15) k_ ∧ no_ (.slice Ao35 t667.length co35) k_) (.slice Ao24 t656.length co24) t656) ∧ Aside0 (Kd.R (Kd.int .i64) 3 wc w.heap.size (fun k_ => no_ (.slice Ao11 t637.length co11) k_ ∧ no_ (.slice Ao14 t640.length co14) k_ ∧ no_ (.slice Ao19 t650.length co19) k_ ∧ no_ (.slice Ao23 t653.length co23) k_ ∧ no_ (.slice Ao34 t664.length co34) k_) (.slice Ao29 t661.length co29) t661) ∧ Aside0 (Kd.R (Kd.int .i64) 3 wc w.heap.size (fun k_ => no_ (.slice Ao11 t637.length co11) k_ ∧ no_ (.slice Ao14 t640.length co14) k_ ∧ no_ (.slice Ao19 t650.length co19) k_ ∧ no_ (.slice Ao23 t653.length co23) k_ ∧ no_ (.slice Ao29 t661.length co29) k_) (.slice Ao34 t664.length co34) t664) ∧ Aside0 (Kd.R k36 36 wc w.heap.size (fun k_ => no_ (.slice Ao15 t643.length co15) k_ ∧ no_ (.slice Ao24 t656.length co24) k_) (.slice Ao35 t667.length co35) t667) ∧ Aside0 (wc.heap[gb648]? = some (.cells #[(.slice Ao11 t637.length co11), (.slice Ao14 t640.length co14), (.slice Ao15 t643.length co15)] 26 (0, 0))) ∧ Aside0 (wc.heap[gb649]? = some (.cells #[.int .i64 t646, .int .i64 t647] 28 (0, 0))) ∧ Aside0 (wc.heap[gb660]? = some (.cells #[(.slice Ao19 t650.length co19), (.slice Ao23 t653.length co23), (.slice Ao24 t656.length co24)] 26 (0, 0))) ∧ Aside0 (wc.heap[gb671]? = some (.cells #[(.slice Ao29 t661.length co29), (.slice Ao34 t664.length co34), (.slice Ao35 t667.length co35)] 26 (0, 0))) ∧ Aside0 (Below w.heap.size w wc))
   case first =>
    as_aux_lemma =>
     have H := HC7.out
     clear HC7
     by_cases c36 : (t659 != t670) = true
     ·rw [if_pos c36] at H
      have c36b0 : (t659 != t670) = true := c36
      (try (have c36b1 : decide (t659 = t670) = false := by simpa using c36))
      (try (have c36b2 : (t659 == t670) = false := by simpa using c36))
      (try (have c36b3 : ¬ (t659 = t670) := by simpa using c36))
      clear c36
      (first | rw [c36b0] | (simp only [i64_w, i32_w]; rw [c36b0]) | skip)
      have H' := Aside0.mk H
      clear H
      try go_wp2
      have n0_ : Aside0 (Kd.R (Kd.int .i64) 3 (((w28.setCell ⟨gb671, 0, none⟩ (.slice Ao29 t661.length co29)).setCell ⟨gb671, 1, none⟩ (.slice Ao34 t664.length co34)).setCell ⟨gb671, 2, none⟩ (.slice Ao35 t667.length co35)) w.heap.size (fun k_ => no_ (.slice Ao14 t640.length co14) k_ ∧ no_ (.slice Ao19 t650.length co19) k_ ∧ no_ (.slice Ao23 t653.length co23) k_ ∧ no_ (.slice Ao29 t661.length co29) k_ ∧ no_ (.slice Ao34 t664.length co34) k_) (.slice Ao11 t637.length co11) t637) := ⟨ro_ (fs3_ HO639.out BK671.out) (fun _ hk => ⟨hk.1.1.1.1.1, ⟨hk.1.1.1.1.2, ⟨hk.1.1.1.2, ⟨hk.1.1.2, hk.1.2⟩⟩⟩⟩)⟩
      have n1_ : Aside0 (Kd.R (Kd.int .i64) 3 (((w28.setCell ⟨gb671, 0, none⟩ (.slice Ao29 t661.length co29)).setCell ⟨gb671, 1, none⟩ (.slice Ao34 t664.length co34)).setCell ⟨gb671, 2, none⟩ (.slice Ao35 t667.length co35)) w.heap.size (fun k_ => no_ (.slice Ao11 t637.length co11) k_ ∧ no_ (.slice Ao19 t650.length co19) k_ ∧ no_ (.slice Ao23 t653.length co23) k_ ∧ no_ (.slice Ao29 t661.length co29) k_ ∧ no_ (.slice Ao34 t664.length co34) k_) (.slice Ao14 t640.length co14) t640) := ⟨ro_ (fs3_ HO642.out BK671.out) (fun _ hk => ⟨hk.1.1.1.1.1, ⟨hk.1.1.1.1.2, ⟨hk.1.1.1.2, ⟨hk.1.1.2, hk.1.2⟩⟩⟩⟩)⟩
      have n2_ : Aside0 (Kd.R k36 36 (((w28.setCell ⟨gb671, 0, none⟩ (.slice Ao29 t661.length co29)).setCell ⟨gb671, 1, none⟩ (.slice Ao34 t664.length co34)).setCell ⟨gb671, 2, none⟩ (.slice Ao35 t667.length co35)) w.heap.size (fun k_ => no_ (.slice Ao24 t656.length co24) k_ ∧ no_ (.slice Ao35 t667.length co35) k_) (.slice Ao15 t643.length co15) t643) := ⟨ro_ (fs3_ HO645.out BK671.out) (fun _ hk => ⟨hk.1.1.2, hk.1.2⟩)⟩
      have n3_ : Aside0 (Kd.R (Kd.int .i64) 3 (((w28.setCell ⟨gb671, 0, none⟩ (.slice Ao29 t661.length co29)).setCell ⟨gb671, 1, none⟩ (.slice Ao34 t664.length co34)).setCell ⟨gb671, 2, none⟩ (.slice Ao35 t667.length co35)) w.heap.size (fun k_ => no_ (.slice Ao11 t637.length co11) k_ ∧ no_ (.slice Ao14 t640.length co14) k_ ∧ no_ (.slice Ao23 t653.length co23) k_ ∧ no_ (.slice Ao29 t661.length co29) k_ ∧ no_ (.slice Ao34 t664.length co34) k_) (.slice Ao19 t650.length co19) t650) := ⟨ro_ (fs3_ HO652.out BK671.out) (fun _ hk => ⟨hk.1.1.1.1.2, ⟨hk.1.1.1.2, ⟨hk.1.1.1.1.1, ⟨hk.1.1.2, hk.1.2⟩⟩⟩⟩)⟩
      have n4_ : Aside0 (Kd.R (Kd.int .i64) 3 (((w28.setCell ⟨gb671, 0, none⟩ (.slice Ao29 t661.length co29)).setCell ⟨gb671, 1, none⟩ (.slice Ao34 t664.length co34)).setCell ⟨gb671, 2, none⟩ (.slice Ao35 t667.length co35)) w.heap.size (fun k_ => no_ (.slice Ao11 t637.length co11) k_ ∧ no_ (.slice Ao14 t640.length co14) k_ ∧ no_ (.slice Ao19 t650.length co19) k_ ∧ no_ (.slice Ao29 t661.length co29) k_ ∧ no_ (.slice Ao34 t664.length co34) k_) (.slice Ao23 t653.length co23) t653) := ⟨ro_ (fs3_ HO655.out BK671.out) (fun _ hk => ⟨hk.1.1.1.1.2, ⟨hk.1.1.1.2, ⟨hk.1.1.1.1.1, ⟨hk.1.1.2, hk.1.2⟩⟩⟩⟩)⟩
      have n5_ : Aside0 (Kd.R k36 36 (((w28.setCell ⟨gb671, 0, none⟩ (.slice Ao29 t661.length co29)).setCell ⟨gb671, 1, none⟩ (.slice Ao34 t664.length co34)).setCell ⟨gb671, 2, none⟩ (.slice Ao35 t667.length co35)) w.heap.size (fun k_ => no_ (.slice Ao15 t643.length co15) k_ ∧ no_ (.slice Ao35 t667.length co35) k_) (.slice Ao24 t656.length co24) t656) := ⟨ro_ (fs3_ HO658.out BK671.out) (fun _ hk => ⟨hk.1.1.2, hk.1.2⟩)⟩
      have n6_ : Aside0 (Kd.R (Kd.int .i64) 3 (((w28.setCell ⟨gb671, 0, none⟩ (.slice Ao29 t661.length co29)).setCell ⟨gb671, 1, none⟩ (.slice Ao34 t664.length co34)).setCell ⟨gb671, 2, none⟩ (.slice Ao35 t667.length co35)) w.heap.size (fun k_ => no_ (.slice Ao11 t637.length co11) k_ ∧ no_ (.slice Ao14 t640.length co14) k_ ∧ no_ (.slice Ao19 t650.length co19) k_ ∧ no_ (.slice Ao23 t653.length co23) k_ ∧ no_ (.slice Ao34 t664.length co34) k_) (.slice Ao29 t661.length co29) t661) := ⟨ro_ (fs3_ HO663.out BK671.out) (fun _ hk => ⟨hk.1.1.1.1.2, ⟨hk.1.1.1.2, ⟨hk.1.1.2, ⟨hk.1.2, hk.1.1.1.1.1⟩⟩⟩⟩)⟩
      have n7_ : Aside0 (Kd.R (Kd.int .i64) 3 (((w28.setCell ⟨gb671, 0, none⟩ (.slice Ao29 t661.length co29)).setCell ⟨gb671, 1, none⟩ (.slice Ao34 t664.length co34)).setCell ⟨gb671, 2, none⟩ (.slice Ao35 t667.length co35)) w.heap.size (fun k_ => no_ (.slice Ao11 t637.length co11) k_ ∧ no_ (.slice Ao14 t640.length co14) k_ ∧ no_ (.slice Ao19 t650.length co19) k_ ∧ no_ (.slice Ao23 t653.length co23) k_ ∧ no_ (.slice Ao29 t661.length co29) k_) (.slice Ao34 t664.length co34) t664) := ⟨ro_ (fs3_ HO666.out BK671.out) (fun _ hk => ⟨hk.1.1.1.1.2, ⟨hk.1.1.1.2, ⟨hk.1.1.2, ⟨hk.1.2, hk.1.1.1.1.1⟩⟩⟩⟩)⟩
      have n8_ : Aside0 (Kd.R k36 36 (((w28.setCell ⟨gb671, 0, none⟩ (.slice Ao29 t661.length co29)).setCell ⟨gb671, 1, none⟩ (.slice Ao34 t664.length co34)).setCell ⟨gb671, 2, none⟩ (.slice Ao35 t667.length co35)) w.heap.size (fun k_ => no_ (.slice Ao15 t643.length co15) k_ ∧ no_ (.slice Ao24 t656.length co24) k_) (.slice Ao35 t667.length co35) t667) := ⟨ro_ (fs3_ HO669.out BK671.out) (fun _ hk => ⟨hk.1.1.2, hk.1.2⟩)⟩
      have n9_ : Aside0 ((((w28.setCell ⟨gb671, 0, none⟩ (.slice Ao29 t661.length co29)).setCell ⟨gb671, 1, none⟩ (.slice Ao34 t664.length co34)).setCell ⟨gb671, 2, none⟩ (.slice Ao35 t667.length co35)).heap[gb648]? = some (.cells #[.slice Ao11 t637.length co11, .slice Ao14 t640.length co14, .slice Ao15 t643.length co15] 26 (0, 0))) := ⟨bw1_ BK648 NB648_671⟩
      have n10_ : Aside0 ((((w28.setCell ⟨gb671, 0, none⟩ (.slice Ao29 t661.length co29)).setCell ⟨gb671, 1, none⟩ (.slice Ao34 t664.length co34)).setCell ⟨gb671, 2, none⟩ (.slice Ao35 t667.length co35)).heap[gb649]? = some (.cells #[.int .i64 t646, .int .i64 t647] 28 (0, 0))) := ⟨bw1_ BK649 NB649_671⟩
      have n11_ : Aside0 ((((w28.setCell ⟨gb671, 0, none⟩ (.slice Ao29 t661.length co29)).setCell ⟨gb671, 1, none⟩ (.slice Ao34 t664.length co34)).setCell ⟨gb671, 2, none⟩ (.slice Ao35 t667.length co35)).heap[gb660]? = some (.cells #[.slice Ao19 t650.length co19, .slice Ao23 t653.length co23, .slice Ao24 t656.length co24] 26 (0, 0))) := ⟨bw1_ BK660 NB660_671⟩
      have n12_ : Aside0 ((((w28.setCell ⟨gb671, 0, none⟩ (.slice Ao29 t661.length co29)).setCell ⟨gb671, 1, none⟩ (.slice Ao34 t664.length co34)).setCell ⟨gb671, 2, none⟩ (.slice Ao35 t667.length co35)).heap[gb671]? = some (.cells #[.slice Ao29 t661.length co29, .slice Ao34 t664.length co34, .slice Ao35 t667.length co35] 26 (0, 0))) := ⟨bw0_ BK671⟩
      have n13_ : Aside0 (Below w.heap.size w (((w28.setCell ⟨gb671, 0, none⟩ (.slice Ao29 t661.length co29)).setCell ⟨gb671, 1, none⟩ (.slice Ao34 t664.length co34)).setCell ⟨gb671, 2, none⟩ (.slice Ao35 t667.length co35))) := ⟨hB HB⟩
      (try clear HO639)
      (try clear HO642)
      (try clear HO645)
      (try clear HO652)
      (try clear HO655)
      (try clear HO658)
      (try clear HO663)
      (try clear HO666)
      (try clear HO669)
      (try clear BK648)
      (try clear BK649)
      (try clear BK660)
      (try clear BK671)
      (try clear HB)
      generalize (((w28.setCell ⟨gb671, 0, none⟩ (.slice Ao29 t661.length co29)).setCell ⟨gb671, 1, none⟩ (.slice Ao34 t664.length co34)).setCell ⟨gb671, 2, none⟩ (.slice Ao35 t667.length co35)) = w37 at n0_ n1_ n2_ n3_ n4_ n5_ n6_ n7_ n8_ n9_ n10_ n11_ n12_ n13_ ⊢
      have HO639 := n0_
      have HO642 := n1_
      have HO645 := n2_
      have HO652 := n3_
      have HO655 := n4_
      have HO658 := n5_
      have HO663 := n6_
      have HO666 := n7_
      have HO669 := n8_
      have BK648 := n9_
      have BK649 := n10_
      have BK660 := n11_
      have BK671 := n12_
      have HB := n13_
      clear n0_ n1_ n2_ n3_ n4_ n5_ n6_ n7_ n8_ n9_ n10_ n11_ n12_ n13_
      replace HO639 := rd_ HO639
      replace HO642 := rd_ HO642
      replace HO645 := rd_ HO645
      replace HO652 := rd_ HO652
      replace HO655 := rd_ HO655
      replace HO658 := rd_ HO658
      replace HO663 := rd_ HO663
      replace HO666 := rd_ HO666
      replace HO669 := rd_ HO669
      replace BK648 := bd_ BK648
      replace BK649 := bd_ BK649
      replace BK660 := bd_ BK660
      replace BK671 := bd_ BK671
      replace HB := Aside0.mk (below_drew1 HB.out)
      refine start_ (n := 16) (S := fun w' => True) (ds := []) (bs 16 0) (by kernel_rfl) rfl rfl trivial (fun hHeld => ?_); refine with_tabW laws_FnPairs.tab6 laws_FnPairs.bits6 (fun HT_ HW_ => ?_)
      generalize w37.drew = w38 at HO639 HO642 HO645 HO652 HO655 HO658 HO663 HO666 HO669 BK648 BK649 BK660 BK671 HB hHeld ⊢
      refine pu_ 0 49 (bs 16 1) HT_ ?_
      refine pu_ 1 50 (bs 16 3) HT_ ?_
      refine pu_ 2 51 (bs 16 7) HT_ ?_
      refine pu_ 3 52 (bs 16 15) HT_ ?_
      refine pn_ 4 53 (bs 16 31) HT_ ?_
      refine pn_ 5 54 (bs 16 63) HT_ ?_
      refine pn_ 6 55 (bs 16 127) HT_ ?_
      refine pn_ 7 56 (bs 16 255) HT_ ?_
      refine pu_ 8 57 (bs 16 511) HT_ ?_
      refine pu_ 9 58 (bs 16 1023) HT_ ?_
      refine pn_ 10 59 (bs 16 2047) HT_ ?_
      refine pn_ 11 60 (bs 16 4095) HT_ ?_
      refine pn_ 12 61 (bs 16 8191) HT_ ?_
      refine pn_ 13 62 (bs 16 16383) HT_ ?_
      refine pn_ 14 63 (bs 16 32767) HT_ ?_
      refine pu_ 15 64 (bs 16 65535) HT_ ?_
      refine done_ (done_of HT_.out (by kernel_rfl)) ?_
      try go_wp2
      go_meet
      case rel => exact ⟨_, (true), (by first | rfl | (simp; done) | (simp [*]; done)), H', ⟨by first | omega | exact Nat.le_refl _⟩, ⟨ra HO639.out⟩, ⟨ra HO642.out⟩, ⟨ra HO645.out⟩, ⟨ra HO652.out⟩, ⟨ra HO655.out⟩, ⟨ra HO658.out⟩, ⟨ra HO663.out⟩, ⟨ra HO666.out⟩, ⟨ra HO669.out⟩, ⟨bw0_ BK648⟩, ⟨bw0_ BK649⟩, ⟨bw0_ BK660⟩, ⟨bw0_ BK671⟩, ⟨hB HB⟩⟩
     rw [if_neg c36] at H
     have c36b0 : (t659 != t670) = false := by simpa using c36
     (try (have c36b1 : decide (t659 = t670) = true := by simpa using c36))
     (try (have c36b2 : (t659 == t670) = true := by simpa using c36))
     clear c36
     (first | rw [c36b0] | (simp only [i64_w, i32_w]; rw [c36b0]) | skip)
     replace H := Option.bind_eq_some_iff.mp H
     obtain ⟨t672, A390, H⟩ := H
     replace H : (if t672 = true then ((impl_GoodPair.f k t637 t640 t643).bind fun t673 => ((spec_GoodPair.f k t637 t640 t643).bind fun t674 => (laws_FnPairs.j0 k l1 t659 (t673 != t674) t637 t640 t643 t646 t647 t650 t653 t656))) else (laws_FnPairs.j0 k l1 t659 true t637 t640 t643 t646 t647 t650 t653 t656)) = some r := H
     have A39 := Aside0.mk A390
     clear A390
     by_cases c40 : t672 = true
     rotate_left
     ·replace c40 := Bool.eq_false_iff.mpr c40
      subst c40
      rw [if_neg (show ¬ (false = true) by decide)] at H
      have H' := Aside0.mk H
      clear H
      try go_wp2
      have n0_ : Aside0 (Kd.R (Kd.int .i64) 3 (((w28.setCell ⟨gb671, 0, none⟩ (.slice Ao29 t661.length co29)).setCell ⟨gb671, 1, none⟩ (.slice Ao34 t664.length co34)).setCell ⟨gb671, 2, none⟩ (.slice Ao35 t667.length co35)) w.heap.size (fun k_ => no_ (.slice Ao14 t640.length co14) k_ ∧ no_ (.slice Ao19 t650.length co19) k_ ∧ no_ (.slice Ao23 t653.length co23) k_ ∧ no_ (.slice Ao29 t661.length co29) k_ ∧ no_ (.slice Ao34 t664.length co34) k_) (.slice Ao11 t637.length co11) t637) := ⟨ro_ (fs3_ HO639.out BK671.out) (fun _ hk => ⟨hk.1.1.1.1.1, ⟨hk.1.1.1.1.2, ⟨hk.1.1.1.2, ⟨hk.1.1.2, hk.1.2⟩⟩⟩⟩)⟩
      have n1_ : Aside0 (Kd.R (Kd.int .i64) 3 (((w28.setCell ⟨gb671, 0, none⟩ (.slice Ao29 t661.length co29)).setCell ⟨gb671, 1, none⟩ (.slice Ao34 t664.length co34)).setCell ⟨gb671, 2, none⟩ (.slice Ao35 t667.length co35)) w.heap.size (fun k_ => no_ (.slice Ao11 t637.length co11) k_ ∧ no_ (.slice Ao19 t650.length co19) k_ ∧ no_ (.slice Ao23 t653.length co23) k_ ∧ no_ (.slice Ao29 t661.length co29) k_ ∧ no_ (.slice Ao34 t664.length co34) k_) (.slice Ao14 t640.length co14) t640) := ⟨ro_ (fs3_ HO642.out BK671.out) (fun _ hk => ⟨hk.1.1.1.1.1, ⟨hk.1.1.1.1.2, ⟨hk.1.1.1.2, ⟨hk.1.1.2, hk.1.2⟩⟩⟩⟩)⟩
      have n2_ : Aside0 (Kd.R k36 36 (((w28.setCell ⟨gb671, 0, none⟩ (.slice Ao29 t661.length co29)).setCell ⟨gb671, 1, none⟩ (.slice Ao34 t664.length co34)).setCell ⟨gb671, 2, none⟩ (.slice Ao35 t667.length co35)) w.heap.size (fun k_ => no_ (.slice Ao24 t656.length co24) k_ ∧ no_ (.slice Ao35 t667.length co35) k_) (.slice Ao15 t643.length co15) t643) := ⟨ro_ (fs3_ HO645.out BK671.out) (fun _ hk => ⟨hk.1.1.2, hk.1.2⟩)⟩
      have n3_ : Aside0 (Kd.R (Kd.int .i64) 3 (((w28.setCell ⟨gb671, 0, none⟩ (.slice Ao29 t661.length co29)).setCell ⟨gb671, 1, none⟩ (.slice Ao34 t664.length co34)).setCell ⟨gb671, 2, none⟩ (.slice Ao35 t667.length co35)) w.heap.size (fun k_ => no_ (.slice Ao11 t637.length co11) k_ ∧ no_ (.slice Ao14 t640.length co14) k_ ∧ no_ (.slice Ao23 t653.length co23) k_ ∧ no_ (.slice Ao29 t661.length co29) k_ ∧ no_ (.slice Ao34 t664.length co34) k_) (.slice Ao19 t650.length co19) t650) := ⟨ro_ (fs3_ HO652.out BK671.out) (fun _ hk => ⟨hk.1.1.1.1.2, ⟨hk.1.1.1.2, ⟨hk.1.1.1.1.1, ⟨hk.1.1.2, hk.1.2⟩⟩⟩⟩)⟩
      have n4_ : Aside0 (Kd.R (Kd.int .i64) 3 (((w28.setCell ⟨gb671, 0, none⟩ (.slice Ao29 t661.length co29)).setCell ⟨gb671, 1, none⟩ (.slice Ao34 t664.length co34)).setCell ⟨gb671, 2, none⟩ (.slice Ao35 t667.length co35)) w.heap.size (fun k_ => no_ (.slice Ao11 t637.length co11) k_ ∧ no_ (.slice Ao14 t640.length co14) k_ ∧ no_ (.slice Ao19 t650.length co19) k_ ∧ no_ (.slice Ao29 t661.length co29) k_ ∧ no_ (.slice Ao34 t664.length co34) k_) (.slice Ao23 t653.length co23) t653) := ⟨ro_ (fs3_ HO655.out BK671.out) (fun _ hk => ⟨hk.1.1.1.1.2, ⟨hk.1.1.1.2, ⟨hk.1.1.1.1.1, ⟨hk.1.1.2, hk.1.2⟩⟩⟩⟩)⟩
      have n5_ : Aside0 (Kd.R k36 36 (((w28.setCell ⟨gb671, 0, none⟩ (.slice Ao29 t661.length co29)).setCell ⟨gb671, 1, none⟩ (.slice Ao34 t664.length co34)).setCell ⟨gb671, 2, none⟩ (.slice Ao35 t667.length co35)) w.heap.size (fun k_ => no_ (.slice Ao15 t643.length co15) k_ ∧ no_ (.slice Ao35 t667.length co35) k_) (.slice Ao24 t656.length co24) t656) := ⟨ro_ (fs3_ HO658.out BK671.out) (fun _ hk => ⟨hk.1.1.2, hk.1.2⟩)⟩
      have n6_ : Aside0 (Kd.R (Kd.int .i64) 3 (((w28.setCell ⟨gb671, 0, none⟩ (.slice Ao29 t661.length co29)).setCell ⟨gb671, 1, none⟩ (.slice Ao34 t664.length co34)).setCell ⟨gb671, 2, none⟩ (.slice Ao35 t667.length co35)) w.heap.size (fun k_ => no_ (.slice Ao11 t637.length co11) k_ ∧ no_ (.slice Ao14 t640.length co14) k_ ∧ no_ (.slice Ao19 t650.length co19) k_ ∧ no_ (.slice Ao23 t653.length co23) k_ ∧ no_ (.slice Ao34 t664.length co34) k_) (.slice Ao29 t661.length co29) t661) := ⟨ro_ (fs3_ HO663.out BK671.out) (fun _ hk => ⟨hk.1.1.1.1.2, ⟨hk.1.1.1.2, ⟨hk.1.1.2, ⟨hk.1.2, hk.1.1.1.1.1⟩⟩⟩⟩)⟩
      have n7_ : Aside0 (Kd.R (Kd.int .i64) 3 (((w28.setCell ⟨gb671, 0, none⟩ (.slice Ao29 t661.length co29)).setCell ⟨gb671, 1, none⟩ (.slice Ao34 t664.length co34)).setCell ⟨gb671, 2, none⟩ (.slice Ao35 t667.length co35)) w.heap.size (fun k_ => no_ (.slice Ao11 t637.length co11) k_ ∧ no_ (.slice Ao14 t640.length co14) k_ ∧ no_ (.slice Ao19 t650.length co19) k_ ∧ no_ (.slice Ao23 t653.length co23) k_ ∧ no_ (.slice Ao29 t661.length co29) k_) (.slice Ao34 t664.length co34) t664) := ⟨ro_ (fs3_ HO666.out BK671.out) (fun _ hk => ⟨hk.1.1.1.1.2, ⟨hk.1.1.1.2, ⟨hk.1.1.2, ⟨hk.1.2, hk.1.1.1.1.1⟩⟩⟩⟩)⟩
      have n8_ : Aside0 (Kd.R k36 36 (((w28.setCell ⟨gb671, 0, none⟩ (.slice Ao29 t661.length co29)).setCell ⟨gb671, 1, none⟩ (.slice Ao34 t664.length co34)).setCell ⟨gb671, 2, none⟩ (.slice Ao35 t667.length co35)) w.heap.size (fun k_ => no_ (.slice Ao15 t643.length co15) k_ ∧ no_ (.slice Ao24 t656.length co24) k_) (.slice Ao35 t667.length co35) t667) := ⟨ro_ (fs3_ HO669.out BK671.out) (fun _ hk => ⟨hk.1.1.2, hk.1.2⟩)⟩
      have n9_ : Aside0 ((((w28.setCell ⟨gb671, 0, none⟩ (.slice Ao29 t661.length co29)).setCell ⟨gb671, 1, none⟩ (.slice Ao34 t664.length co34)).setCell ⟨gb671, 2, none⟩ (.slice Ao35 t667.length co35)).heap[gb648]? = some (.cells #[.slice Ao11 t637.length co11, .slice Ao14 t640.length co14, .slice Ao15 t643.length co15] 26 (0, 0))) := ⟨bw1_ BK648 NB648_671⟩
      have n10_ : Aside0 ((((w28.setCell ⟨gb671, 0, none⟩ (.slice Ao29 t661.length co29)).setCell ⟨gb671, 1, none⟩ (.slice Ao34 t664.length co34)).setCell ⟨gb671, 2, none⟩ (.slice Ao35 t667.length co35)).heap[gb649]? = some (.cells #[.int .i64 t646, .int .i64 t647] 28 (0, 0))) := ⟨bw1_ BK649 NB649_671⟩
      have n11_ : Aside0 ((((w28.setCell ⟨gb671, 0, none⟩ (.slice Ao29 t661.length co29)).setCell ⟨gb671, 1, none⟩ (.slice Ao34 t664.length co34)).setCell ⟨gb671, 2, none⟩ (.slice Ao35 t667.length co35)).heap[gb660]? = some (.cells #[.slice Ao19 t650.length co19, .slice Ao23 t653.length co23, .slice Ao24 t656.length co24] 26 (0, 0))) := ⟨bw1_ BK660 NB660_671⟩
      have n12_ : Aside0 ((((w28.setCell ⟨gb671, 0, none⟩ (.slice Ao29 t661.length co29)).setCell ⟨gb671, 1, none⟩ (.slice Ao34 t664.length co34)).setCell ⟨gb671, 2, none⟩ (.slice Ao35 t667.length co35)).heap[gb671]? = some (.cells #[.slice Ao29 t661.length co29, .slice Ao34 t664.length co34, .slice Ao35 t667.length co35] 26 (0, 0))) := ⟨bw0_ BK671⟩
      have n13_ : Aside0 (Below w.heap.size w (((w28.setCell ⟨gb671, 0, none⟩ (.slice Ao29 t661.length co29)).setCell ⟨gb671, 1, none⟩ (.slice Ao34 t664.length co34)).setCell ⟨gb671, 2, none⟩ (.slice Ao35 t667.length co35))) := ⟨hB HB⟩
      (try clear HO639)
      (try clear HO642)
      (try clear HO645)
      (try clear HO652)
      (try clear HO655)
      (try clear HO658)
      (try clear HO663)
      (try clear HO666)
      (try clear HO669)
      (try clear BK648)
      (try clear BK649)
      (try clear BK660)
      (try clear BK671)
      (try clear HB)
      generalize (((w28.setCell ⟨gb671, 0, none⟩ (.slice Ao29 t661.length co29)).setCell ⟨gb671, 1, none⟩ (.slice Ao34 t664.length co34)).setCell ⟨gb671, 2, none⟩ (.slice Ao35 t667.length co35)) = w48 at n0_ n1_ n2_ n3_ n4_ n5_ n6_ n7_ n8_ n9_ n10_ n11_ n12_ n13_ ⊢
      have HO639 := n0_
      have HO642 := n1_
      have HO645 := n2_
      have HO652 := n3_
      have HO655 := n4_
      have HO658 := n5_
      have HO663 := n6_
      have HO666 := n7_
      have HO669 := n8_
      have BK648 := n9_
      have BK649 := n10_
      have BK660 := n11_
      have BK671 := n12_
      have HB := n13_
      clear n0_ n1_ n2_ n3_ n4_ n5_ n6_ n7_ n8_ n9_ n10_ n11_ n12_ n13_
      replace HO639 := rd_ HO639
      replace HO642 := rd_ HO642
      replace HO645 := rd_ HO645
      replace HO652 := rd_ HO652
      replace HO655 := rd_ HO655
      replace HO658 := rd_ HO658
      replace HO663 := rd_ HO663
      replace HO666 := rd_ HO666
      replace HO669 := rd_ HO669
      replace BK648 := bd_ BK648
      replace BK649 := bd_ BK649
      replace BK660 := bd_ BK660
      replace BK671 := bd_ BK671
      replace HB := Aside0.mk (below_drew1 HB.out)
      refine start_ (n := 16) (S := fun w' => w'.cell? ⟨gb660, 0, none⟩ = some (.slice Ao19 t650.length co19) ∧ w'.cell? ⟨gb660, 1, none⟩ = some (.slice Ao23 t653.length co23) ∧ w'.cell? ⟨gb660, 2, none⟩ = some (.slice Ao24 t656.length co24) ∧ w'.cell? ⟨gb671, 0, none⟩ = some (.slice Ao29 t661.length co29) ∧ w'.cell? ⟨gb671, 1, none⟩ = some (.slice Ao34 t664.length co34) ∧ w'.cell? ⟨gb671, 2, none⟩ = some (.slice Ao35 t667.length co35)) (ds := []) (bs 16 0) (by kernel_rfl) rfl rfl ⟨bc_ BK660 0, bc_ BK660 1, bc_ BK660 2, bc_ BK671 0, bc_ BK671 1, bc_ BK671 2⟩ (fun hHeld => ?_); refine with_tabW laws_FnPairs.tab6 laws_FnPairs.bits6 (fun HT_ HW_ => ?_)
      generalize w48.drew = w49 at HO639 HO642 HO645 HO652 HO655 HO658 HO663 HO666 HO669 BK648 BK649 BK660 BK671 HB hHeld ⊢
      refine pu_ 0 49 (bs 16 1) HT_ ?_
      refine pu_ 1 50 (bs 16 3) HT_ ?_
      refine pu_ 2 51 (bs 16 7) HT_ ?_
      refine pu_ 3 52 (bs 16 15) HT_ ?_
      refine tk_ 4 53 (bs 16 31) HT_ HW_ hHeld ?_
      refine tk_ 5 54 (bs 16 63) HT_ HW_ hHeld ?_
      refine on_ 6 (some 55) (bs 16 127) HT_ (fun K hK => ?_)
      refine goes_ Try.func7 (by kernel_rfl) rfl #[.agg #[.slice Ao19 t650.length co19, .slice Ao23 t653.length co23, .slice Ao24 t656.length co24], .agg #[.slice Ao29 t661.length co29, .slice Ao34 t664.length co34, .slice Ao35 t667.length co35]] (by rfl) rfl rfl tm_ ?_
      with_reducible refine (laws_samePair.calls k _ _ t650 _ _ t653 _ _ t656 _ _ t661 _ _ t664 _ _ t667 false _ ?side1 ?side2 ?side3 ?side4 ?side5 ?side6 ?side7 ?side8 ?side9 ?side10 ?side11 ?side12 A39.out).mono ?_
      (case side1 => exact ca (Kd.R_reads' HO652.out).2.2)
      (case side2 => exact (Kd.R_reads' HO652.out).2.1)
      (case side3 => exact ca (Kd.R_reads' HO655.out).2.2)
      (case side4 => exact (Kd.R_reads' HO655.out).2.1)
      (case side5 => exact ca (Kd.R_reads' HO658.out).2.2)
      (case side6 => exact (Kd.R_reads' HO658.out).2.1)
      (case side7 => exact ca (Kd.R_reads' HO663.out).2.2)
      (case side8 => exact (Kd.R_reads' HO663.out).2.1)
      (case side9 => exact ca (Kd.R_reads' HO666.out).2.2)
      (case side10 => exact (Kd.R_reads' HO666.out).2.1)
      (case side11 => exact ca (Kd.R_reads' HO669.out).2.2)
      (case side12 => exact (Kd.R_reads' HO669.out).2.1)
      rintro e w50 ⟨rfl, hb⟩
      refine ⟨_, rfl, ?_⟩
      replace HO639 := rb_ HO639 hb
      replace HO642 := rb_ HO642 hb
      replace HO645 := rb_ HO645 hb
      replace HO652 := rb_ HO652 hb
      replace HO655 := rb_ HO655 hb
      replace HO658 := rb_ HO658 hb
      replace HO663 := rb_ HO663 hb
      replace HO666 := rb_ HO666 hb
      replace HO669 := rb_ HO669 hb
      replace BK648 := bb_ BK648 hb
      replace BK649 := bb_ BK649 hb
      replace BK660 := bb_ BK660 hb
      replace BK671 := bb_ BK671 hb
      replace HB := bst_ HB hb
      clear hb
      refine hK.out _ _ ⟨bc_ BK660 0, bc_ BK660 1, bc_ BK660 2, bc_ BK671 0, bc_ BK671 1, bc_ BK671 2⟩ (fun hHeld => ?_)
      clear hK K
      refine nm_ 55 ?_
      refine pu_ 7 56 (bs 16 255) HT_ ?_
      refine pu_ 8 57 (bs 16 511) HT_ ?_
      refine pu_ 9 58 (bs 16 1023) HT_ ?_
      refine pn_ 10 59 (bs 16 2047) HT_ ?_
      refine pn_ 11 60 (bs 16 4095) HT_ ?_
      refine pn_ 12 61 (bs 16 8191) HT_ ?_
      refine pn_ 13 62 (bs 16 16383) HT_ ?_
      refine pn_ 14 63 (bs 16 32767) HT_ ?_
      refine pu_ 15 64 (bs 16 65535) HT_ ?_
      refine done_ (done_of HT_.out (by kernel_rfl)) ?_
      try go_wp2
      go_meet
      case rel => exact ⟨_, (true), (by first | rfl | (simp; done) | (simp [*]; done)), H', ⟨by first | omega | exact Nat.le_refl _⟩, ⟨ra HO639.out⟩, ⟨ra HO642.out⟩, ⟨ra HO645.out⟩, ⟨ra HO652.out⟩, ⟨ra HO655.out⟩, ⟨ra HO658.out⟩, ⟨ra HO663.out⟩, ⟨ra HO666.out⟩, ⟨ra HO669.out⟩, ⟨bw0_ BK648⟩, ⟨bw0_ BK649⟩, ⟨bw0_ BK660⟩, ⟨bw0_ BK671⟩, ⟨hB HB⟩⟩
     subst c40
     rw [if_pos rfl] at H
     replace H := Option.bind_eq_some_iff.mp H
     obtain ⟨t673, A410, H⟩ := H
     replace H : ((spec_GoodPair.f k t637 t640 t643).bind fun t674 => (laws_FnPairs.j0 k l1 t659 (t673 != t674) t637 t640 t643 t646 t647 t650 t653 t656)) = some r := H
     have A41 := Aside0.mk A410
     clear A410
     replace H := Option.bind_eq_some_iff.mp H
     obtain ⟨t674, A420, H⟩ := H
     replace H : (laws_FnPairs.j0 k l1 t659 (t673 != t674) t637 t640 t643 t646 t647 t650 t653 t656) = some r := H
     have A42 := Aside0.mk A420
     clear A420
     have H' := Aside0.mk H
     clear H
     try go_wp2
     have n0_ : Aside0 (Kd.R (Kd.int .i64) 3 (((w28.setCell ⟨gb671, 0, none⟩ (.slice Ao29 t661.length co29)).setCell ⟨gb671, 1, none⟩ (.slice Ao34 t664.length co34)).setCell ⟨gb671, 2, none⟩ (.slice Ao35 t667.length co35)) w.heap.size (fun k_ => no_ (.slice Ao14 t640.length co14) k_ ∧ no_ (.slice Ao19 t650.length co19) k_ ∧ no_ (.slice Ao23 t653.length co23) k_ ∧ no_ (.slice Ao29 t661.length co29) k_ ∧ no_ (.slice Ao34 t664.length co34) k_) (.slice Ao11 t637.length co11) t637) := ⟨ro_ (fs3_ HO639.out BK671.out) (fun _ hk => ⟨hk.1.1.1.1.1, ⟨hk.1.1.1.1.2, ⟨hk.1.1.1.2, ⟨hk.1.1.2, hk.1.2⟩⟩⟩⟩)⟩
     have n1_ : Aside0 (Kd.R (Kd.int .i64) 3 (((w28.setCell ⟨gb671, 0, none⟩ (.slice Ao29 t661.length co29)).setCell ⟨gb671, 1, none⟩ (.slice Ao34 t664.length co34)).setCell ⟨gb671, 2, none⟩ (.slice Ao35 t667.length co35)) w.heap.size (fun k_ => no_ (.slice Ao11 t637.length co11) k_ ∧ no_ (.slice Ao19 t650.length co19) k_ ∧ no_ (.slice Ao23 t653.length co23) k_ ∧ no_ (.slice Ao29 t661.length co29) k_ ∧ no_ (.slice Ao34 t664.length co34) k_) (.slice Ao14 t640.length co14) t640) := ⟨ro_ (fs3_ HO642.out BK671.out) (fun _ hk => ⟨hk.1.1.1.1.1, ⟨hk.1.1.1.1.2, ⟨hk.1.1.1.2, ⟨hk.1.1.2, hk.1.2⟩⟩⟩⟩)⟩
     have n2_ : Aside0 (Kd.R k36 36 (((w28.setCell ⟨gb671, 0, none⟩ (.slice Ao29 t661.length co29)).setCell ⟨gb671, 1, none⟩ (.slice Ao34 t664.length co34)).setCell ⟨gb671, 2, none⟩ (.slice Ao35 t667.length co35)) w.heap.size (fun k_ => no_ (.slice Ao24 t656.length co24) k_ ∧ no_ (.slice Ao35 t667.length co35) k_) (.slice Ao15 t643.length co15) t643) := ⟨ro_ (fs3_ HO645.out BK671.out) (fun _ hk => ⟨hk.1.1.2, hk.1.2⟩)⟩
     have n3_ : Aside0 (Kd.R (Kd.int .i64) 3 (((w28.setCell ⟨gb671, 0, none⟩ (.slice Ao29 t661.length co29)).setCell ⟨gb671, 1, none⟩ (.slice Ao34 t664.length co34)).setCell ⟨gb671, 2, none⟩ (.slice Ao35 t667.length co35)) w.heap.size (fun k_ => no_ (.slice Ao11 t637.length co11) k_ ∧ no_ (.slice Ao14 t640.length co14) k_ ∧ no_ (.slice Ao23 t653.length co23) k_ ∧ no_ (.slice Ao29 t661.length co29) k_ ∧ no_ (.slice Ao34 t664.length co34) k_) (.slice Ao19 t650.length co19) t650) := ⟨ro_ (fs3_ HO652.out BK671.out) (fun _ hk => ⟨hk.1.1.1.1.2, ⟨hk.1.1.1.2, ⟨hk.1.1.1.1.1, ⟨hk.1.1.2, hk.1.2⟩⟩⟩⟩)⟩
     have n4_ : Aside0 (Kd.R (Kd.int .i64) 3 (((w28.setCell ⟨gb671, 0, none⟩ (.slice Ao29 t661.length co29)).setCell ⟨gb671, 1, none⟩ (.slice Ao34 t664.length co34)).setCell ⟨gb671, 2, none⟩ (.slice Ao35 t667.length co35)) w.heap.size (fun k_ => no_ (.slice Ao11 t637.length co11) k_ ∧ no_ (.slice Ao14 t640.length co14) k_ ∧ no_ (.slice Ao19 t650.length co19) k_ ∧ no_ (.slice Ao29 t661.length co29) k_ ∧ no_ (.slice Ao34 t664.length co34) k_) (.slice Ao23 t653.length co23) t653) := ⟨ro_ (fs3_ HO655.out BK671.out) (fun _ hk => ⟨hk.1.1.1.1.2, ⟨hk.1.1.1.2, ⟨hk.1.1.1.1.1, ⟨hk.1.1.2, hk.1.2⟩⟩⟩⟩)⟩
     have n5_ : Aside0 (Kd.R k36 36 (((w28.setCell ⟨gb671, 0, none⟩ (.slice Ao29 t661.length co29)).setCell ⟨gb671, 1, none⟩ (.slice Ao34 t664.length co34)).setCell ⟨gb671, 2, none⟩ (.slice Ao35 t667.length co35)) w.heap.size (fun k_ => no_ (.slice Ao15 t643.length co15) k_ ∧ no_ (.slice Ao35 t667.length co35) k_) (.slice Ao24 t656.length co24) t656) := ⟨ro_ (fs3_ HO658.out BK671.out) (fun _ hk => ⟨hk.1.1.2, hk.1.2⟩)⟩
     have n6_ : Aside0 (Kd.R (Kd.int .i64) 3 (((w28.setCell ⟨gb671, 0, none⟩ (.slice Ao29 t661.length co29)).setCell ⟨gb671, 1, none⟩ (.slice Ao34 t664.length co34)).setCell ⟨gb671, 2, none⟩ (.slice Ao35 t667.length co35)) w.heap.size (fun k_ => no_ (.slice Ao11 t637.length co11) k_ ∧ no_ (.slice Ao14 t640.length co14) k_ ∧ no_ (.slice Ao19 t650.length co19) k_ ∧ no_ (.slice Ao23 t653.length co23) k_ ∧ no_ (.slice Ao34 t664.length co34) k_) (.slice Ao29 t661.length co29) t661) := ⟨ro_ (fs3_ HO663.out BK671.out) (fun _ hk => ⟨hk.1.1.1.1.2, ⟨hk.1.1.1.2, ⟨hk.1.1.2, ⟨hk.1.2, hk.1.1.1.1.1⟩⟩⟩⟩)⟩
     have n7_ : Aside0 (Kd.R (Kd.int .i64) 3 (((w28.setCell ⟨gb671, 0, none⟩ (.slice Ao29 t661.length co29)).setCell ⟨gb671, 1, none⟩ (.slice Ao34 t664.length co34)).setCell ⟨gb671, 2, none⟩ (.slice Ao35 t667.length co35)) w.heap.size (fun k_ => no_ (.slice Ao11 t637.length co11) k_ ∧ no_ (.slice Ao14 t640.length co14) k_ ∧ no_ (.slice Ao19 t650.length co19) k_ ∧ no_ (.slice Ao23 t653.length co23) k_ ∧ no_ (.slice Ao29 t661.length co29) k_) (.slice Ao34 t664.length co34) t664) := ⟨ro_ (fs3_ HO666.out BK671.out) (fun _ hk => ⟨hk.1.1.1.1.2, ⟨hk.1.1.1.2, ⟨hk.1.1.2, ⟨hk.1.2, hk.1.1.1.1.1⟩⟩⟩⟩)⟩
     have n8_ : Aside0 (Kd.R k36 36 (((w28.setCell ⟨gb671, 0, none⟩ (.slice Ao29 t661.length co29)).setCell ⟨gb671, 1, none⟩ (.slice Ao34 t664.length co34)).setCell ⟨gb671, 2, none⟩ (.slice Ao35 t667.length co35)) w.heap.size (fun k_ => no_ (.slice Ao15 t643.length co15) k_ ∧ no_ (.slice Ao24 t656.length co24) k_) (.slice Ao35 t667.length co35) t667) := ⟨ro_ (fs3_ HO669.out BK671.out) (fun _ hk => ⟨hk.1.1.2, hk.1.2⟩)⟩
     have n9_ : Aside0 ((((w28.setCell ⟨gb671, 0, none⟩ (.slice Ao29 t661.length co29)).setCell ⟨gb671, 1, none⟩ (.slice Ao34 t664.length co34)).setCell ⟨gb671, 2, none⟩ (.slice Ao35 t667.length co35)).heap[gb648]? = some (.cells #[.slice Ao11 t637.length co11, .slice Ao14 t640.length co14, .slice Ao15 t643.length co15] 26 (0, 0))) := ⟨bw1_ BK648 NB648_671⟩
     have n10_ : Aside0 ((((w28.setCell ⟨gb671, 0, none⟩ (.slice Ao29 t661.length co29)).setCell ⟨gb671, 1, none⟩ (.slice Ao34 t664.length co34)).setCell ⟨gb671, 2, none⟩ (.slice Ao35 t667.length co35)).heap[gb649]? = some (.cells #[.int .i64 t646, .int .i64 t647] 28 (0, 0))) := ⟨bw1_ BK649 NB649_671⟩
     have n11_ : Aside0 ((((w28.setCell ⟨gb671, 0, none⟩ (.slice Ao29 t661.length co29)).setCell ⟨gb671, 1, none⟩ (.slice Ao34 t664.length co34)).setCell ⟨gb671, 2, none⟩ (.slice Ao35 t667.length co35)).heap[gb660]? = some (.cells #[.slice Ao19 t650.length co19, .slice Ao23 t653.length co23, .slice Ao24 t656.length co24] 26 (0, 0))) := ⟨bw1_ BK660 NB660_671⟩
     have n12_ : Aside0 ((((w28.setCell ⟨gb671, 0, none⟩ (.slice Ao29 t661.length co29)).setCell ⟨gb671, 1, none⟩ (.slice Ao34 t664.length co34)).setCell ⟨gb671, 2, none⟩ (.slice Ao35 t667.length co35)).heap[gb671]? = some (.cells #[.slice Ao29 t661.length co29, .slice Ao34 t664.length co34, .slice Ao35 t667.length co35] 26 (0, 0))) := ⟨bw0_ BK671⟩
     have n13_ : Aside0 (Below w.heap.size w (((w28.setCell ⟨gb671, 0, none⟩ (.slice Ao29 t661.length co29)).setCell ⟨gb671, 1, none⟩ (.slice Ao34 t664.length co34)).setCell ⟨gb671, 2, none⟩ (.slice Ao35 t667.length co35))) := ⟨hB HB⟩
     (try clear HO639)
     (try clear HO642)
     (try clear HO645)
     (try clear HO652)
     (try clear HO655)
     (try clear HO658)
     (try clear HO663)
     (try clear HO666)
     (try clear HO669)
     (try clear BK648)
     (try clear BK649)
     (try clear BK660)
     (try clear BK671)
     (try clear HB)
     generalize (((w28.setCell ⟨gb671, 0, none⟩ (.slice Ao29 t661.length co29)).setCell ⟨gb671, 1, none⟩ (.slice Ao34 t664.length co34)).setCell ⟨gb671, 2, none⟩ (.slice Ao35 t667.length co35)) = w43 at n0_ n1_ n2_ n3_ n4_ n5_ n6_ n7_ n8_ n9_ n10_ n11_ n12_ n13_ ⊢
     have HO639 := n0_
     have HO642 := n1_
     have HO645 := n2_
     have HO652 := n3_
     have HO655 := n4_
     have HO658 := n5_
     have HO663 := n6_
     have HO666 := n7_
     have HO669 := n8_
     have BK648 := n9_
     have BK649 := n10_
     have BK660 := n11_
     have BK671 := n12_
     have HB := n13_
     clear n0_ n1_ n2_ n3_ n4_ n5_ n6_ n7_ n8_ n9_ n10_ n11_ n12_ n13_
     replace HO639 := rd_ HO639
     replace HO642 := rd_ HO642
     replace HO645 := rd_ HO645
     replace HO652 := rd_ HO652
     replace HO655 := rd_ HO655
     replace HO658 := rd_ HO658
     replace HO663 := rd_ HO663
     replace HO666 := rd_ HO666
     replace HO669 := rd_ HO669
     replace BK648 := bd_ BK648
     replace BK649 := bd_ BK649
     replace BK660 := bd_ BK660
     replace BK671 := bd_ BK671
     replace HB := Aside0.mk (below_drew1 HB.out)
     refine start_ (n := 16) (S := fun w' => w'.cell? ⟨gb660, 0, none⟩ = some (.slice Ao19 t650.length co19) ∧ w'.cell? ⟨gb660, 1, none⟩ = some (.slice Ao23 t653.length co23) ∧ w'.cell? ⟨gb660, 2, none⟩ = some (.slice Ao24 t656.length co24) ∧ w'.cell? ⟨gb671, 0, none⟩ = some (.slice Ao29 t661.length co29) ∧ w'.cell? ⟨gb671, 1, none⟩ = some (.slice Ao34 t664.length co34) ∧ w'.cell? ⟨gb671, 2, none⟩ = some (.slice Ao35 t667.length co35) ∧ w'.cell? ⟨gb648, 0, none⟩ = some (.slice Ao11 t637.length co11) ∧ w'.cell? ⟨gb648, 1, none⟩ = some (.slice Ao14 t640.length co14) ∧ w'.cell? ⟨gb648, 2, none⟩ = some (.slice Ao15 t643.length co15)) (ds := []) (bs 16 0) (by kernel_rfl) rfl rfl ⟨bc_ BK660 0, bc_ BK660 1, bc_ BK660 2, bc_ BK671 0, bc_ BK671 1, bc_ BK671 2, bc_ BK648 0, bc_ BK648 1, bc_ BK648 2⟩ (fun hHeld => ?_); refine with_tabW laws_FnPairs.tab6 laws_FnPairs.bits6 (fun HT_ HW_ => ?_)
     generalize w43.drew = w44 at HO639 HO642 HO645 HO652 HO655 HO658 HO663 HO666 HO669 BK648 BK649 BK660 BK671 HB hHeld ⊢
     refine pu_ 0 49 (bs 16 1) HT_ ?_
     refine pu_ 1 50 (bs 16 3) HT_ ?_
     refine pu_ 2 51 (bs 16 7) HT_ ?_
     refine pu_ 3 52 (bs 16 15) HT_ ?_
     refine tk_ 4 53 (bs 16 31) HT_ HW_ hHeld ?_
     refine tk_ 5 54 (bs 16 63) HT_ HW_ hHeld ?_
     refine on_ 6 (some 55) (bs 16 127) HT_ (fun K hK => ?_)
     refine goes_ Try.func7 (by kernel_rfl) rfl #[.agg #[.slice Ao19 t650.length co19, .slice Ao23 t653.length co23, .slice Ao24 t656.length co24], .agg #[.slice Ao29 t661.length co29, .slice Ao34 t664.length co34, .slice Ao35 t667.length co35]] (by rfl) rfl rfl tm_ ?_
     with_reducible refine (laws_samePair.calls k _ _ t650 _ _ t653 _ _ t656 _ _ t661 _ _ t664 _ _ t667 true _ ?side1 ?side2 ?side3 ?side4 ?side5 ?side6 ?side7 ?side8 ?side9 ?side10 ?side11 ?side12 A39.out).mono ?_
     (case side1 => exact ca (Kd.R_reads' HO652.out).2.2)
     (case side2 => exact (Kd.R_reads' HO652.out).2.1)
     (case side3 => exact ca (Kd.R_reads' HO655.out).2.2)
     (case side4 => exact (Kd.R_reads' HO655.out).2.1)
     (case side5 => exact ca (Kd.R_reads' HO658.out).2.2)
     (case side6 => exact (Kd.R_reads' HO658.out).2.1)
     (case side7 => exact ca (Kd.R_reads' HO663.out).2.2)
     (case side8 => exact (Kd.R_reads' HO663.out).2.1)
     (case side9 => exact ca (Kd.R_reads' HO666.out).2.2)
     (case side10 => exact (Kd.R_reads' HO666.out).2.1)
     (case side11 => exact ca (Kd.R_reads' HO669.out).2.2)
     (case side12 => exact (Kd.R_reads' HO669.out).2.1)
     rintro e w45 ⟨rfl, hb⟩
     refine ⟨_, rfl, ?_⟩
     replace HO639 := rb_ HO639 hb
     replace HO642 := rb_ HO642 hb
     replace HO645 := rb_ HO645 hb
     replace HO652 := rb_ HO652 hb
     replace HO655 := rb_ HO655 hb
     replace HO658 := rb_ HO658 hb
     replace HO663 := rb_ HO663 hb
     replace HO666 := rb_ HO666 hb
     replace HO669 := rb_ HO669 hb
     replace BK648 := bb_ BK648 hb
     replace BK649 := bb_ BK649 hb
     replace BK660 := bb_ BK660 hb
     replace BK671 := bb_ BK671 hb
     replace HB := bst_ HB hb
     clear hb
     refine hK.out _ _ ⟨bc_ BK660 0, bc_ BK660 1, bc_ BK660 2, bc_ BK671 0, bc_ BK671 1, bc_ BK671 2, bc_ BK648 0, bc_ BK648 1, bc_ BK648 2⟩ (fun hHeld => ?_)
     clear hK K
     refine nm_ 55 ?_
     refine pu_ 7 56 (bs 16 255) HT_ ?_
     refine pu_ 8 57 (bs 16 511) HT_ ?_
     refine pu_ 9 58 (bs 16 1023) HT_ ?_
     refine tk_ 10 59 (bs 16 2047) HT_ HW_ hHeld ?_
     refine tk_ 12 61 (bs 16 6143) HT_ HW_ hHeld ?_
     refine on_ 11 (some 60) (bs 16 8191) HT_ (fun K hK => ?_)
     refine goes_ Try.func8 (by kernel_rfl) rfl #[.agg #[.slice Ao11 t637.length co11, .slice Ao14 t640.length co14, .slice Ao15 t643.length co15]] (by rfl) rfl rfl tm_ ?_
     with_reducible refine (impl_GoodPair.calls k _ _ t637 _ _ t640 _ _ t643 t673 _ ?side1 ?side2 ?side3 ?side4 ?side5 ?side6 A41.out).mono ?_
     (case side1 => exact ca (Kd.R_reads' HO639.out).2.2)
     (case side2 => exact (Kd.R_reads' HO639.out).2.1)
     (case side3 => exact ca (Kd.R_reads' HO642.out).2.2)
     (case side4 => exact (Kd.R_reads' HO642.out).2.1)
     (case side5 => exact ca (Kd.R_reads' HO645.out).2.2)
     (case side6 => exact (Kd.R_reads' HO645.out).2.1)
     rintro e w46 ⟨rfl, hb⟩
     refine ⟨_, rfl, ?_⟩
     replace HO639 := rb_ HO639 hb
     replace HO642 := rb_ HO642 hb
     replace HO645 := rb_ HO645 hb
     replace HO652 := rb_ HO652 hb
     replace HO655 := rb_ HO655 hb
     replace HO658 := rb_ HO658 hb
     replace HO663 := rb_ HO663 hb
     replace HO666 := rb_ HO666 hb
     replace HO669 := rb_ HO669 hb
     replace BK648 := bb_ BK648 hb
     replace BK649 := bb_ BK649 hb
     replace BK660 := bb_ BK660 hb
     replace BK671 := bb_ BK671 hb
     replace HB := bst_ HB hb
     clear hb
     refine hK.out _ _ ⟨bc_ BK660 0, bc_ BK660 1, bc_ BK660 2, bc_ BK671 0, bc_ BK671 1, bc_ BK671 2, bc_ BK648 0, bc_ BK648 1, bc_ BK648 2⟩ (fun hHeld => ?_)
     clear hK K
     refine nm_ 60 ?_
     refine on_ 13 (some 62) (bs 16 16383) HT_ (fun K hK => ?_)
     refine goes_ Try.func9 (by kernel_rfl) rfl #[.agg #[.slice Ao11 t637.length co11, .slice Ao14 t640.length co14, .slice Ao15 t643.length co15]] (by rfl) rfl rfl tm_ ?_
     with_reducible refine (spec_GoodPair.calls k _ _ t637 _ _ t640 _ _ t643 t674 _ ?side1 ?side2 ?side3 ?side4 ?side5 ?side6 A42.out).mono ?_
     (case side1 => exact ca (Kd.R_reads' HO639.out).2.2)
     (case side2 => exact (Kd.R_reads' HO639.out).2.1)
     (case side3 => exact ca (Kd.R_reads' HO642.out).2.2)
     (case side4 => exact (Kd.R_reads' HO642.out).2.1)
     (case side5 => exact ca (Kd.R_reads' HO645.out).2.2)
     (case side6 => exact (Kd.R_reads' HO645.out).2.1)
     rintro e w47 ⟨rfl, hb⟩
     refine ⟨_, rfl, ?_⟩
     replace HO639 := rb_ HO639 hb
     replace HO642 := rb_ HO642 hb
     replace HO645 := rb_ HO645 hb
     replace HO652 := rb_ HO652 hb
     replace HO655 := rb_ HO655 hb
     replace HO658 := rb_ HO658 hb
     replace HO663 := rb_ HO663 hb
     replace HO666 := rb_ HO666 hb
     replace HO669 := rb_ HO669 hb
     replace BK648 := bb_ BK648 hb
     replace BK649 := bb_ BK649 hb
     replace BK660 := bb_ BK660 hb
     replace BK671 := bb_ BK671 hb
     replace HB := bst_ HB hb
     clear hb
     refine hK.out _ _ ⟨bc_ BK660 0, bc_ BK660 1, bc_ BK660 2, bc_ BK671 0, bc_ BK671 1, bc_ BK671 2, bc_ BK648 0, bc_ BK648 1, bc_ BK648 2⟩ (fun hHeld => ?_)
     clear hK K
     refine nm_ 62 ?_
     refine pu_ 14 63 (bs 16 32767) HT_ ?_
     refine pu_ 15 64 (bs 16 65535) HT_ ?_
     refine done_ (done_of HT_.out (by kernel_rfl)) ?_
     try go_wp2
     go_meet
     case rel => exact ⟨_, ((t673 != t674)), (by first | rfl | (simp; done) | (simp [*]; done)), H', ⟨by first | omega | exact Nat.le_refl _⟩, ⟨ra HO639.out⟩, ⟨ra HO642.out⟩, ⟨ra HO645.out⟩, ⟨ra HO652.out⟩, ⟨ra HO655.out⟩, ⟨ra HO658.out⟩, ⟨ra HO663.out⟩, ⟨ra HO666.out⟩, ⟨ra HO669.out⟩, ⟨bw0_ BK648⟩, ⟨bw0_ BK649⟩, ⟨bw0_ BK660⟩, ⟨bw0_ BK671⟩, ⟨hB HB⟩⟩
   case rest =>
    as_aux_lemma =>
     clear HC7
     obtain ⟨kq, x64_6, rfl, HA, HJ6, HO_649000, HO_649001, HO_649002, HO_661000, HO_661001, HO_661002, HO_672000, HO_672001, HO_672002, BK648, BK649, BK660, BK671, HB⟩ := hcut
     cases kq with
     | zero => exact absurd HA.out (by simp [laws_FnPairs.j0])
     | succ kj6 =>
      have H := HA.out
      clear HA
      simp only [laws_FnPairs.j0] at H
      by_cases c51 : x64_6 = true
      ·subst c51
       rw [if_pos rfl] at H
       obtain rfl := Option.some.inj H
       go_wp2
       go_ret
       exact ⟨rt_, hB HB⟩
      replace c51 := Bool.eq_false_iff.mpr c51
      subst c51
      rw [if_neg (show ¬ (false = true) by decide)] at H
      have HC52 := Aside0.mk H
      clear H
      go_upto_if 65 with (fail)
      go_cut [] (fun wc => ∃ (kq : Nat), Aside0 (laws_FnPairs.j3 kq l1 = some r) ∧ Aside0 (kq ≤ kj6) ∧ Aside0 (Kd.R (Kd.int .i64) 3 wc w.heap.size (fun k_ => no_ (.slice Ao14 t640.length co14) k_ ∧ no_ (.slice Ao19 t650.length co19) k_ ∧ no_ (.slice Ao23 t653.length co23) k_ ∧ no_ (.slice Ao29 t661.length co29) k_ ∧ no_ (.slice Ao34 t664.length co34) k_) (.slice Ao11 t637.length co11) t637) ∧ Aside0 (Kd.R (Kd.int .i64) 3 wc w.heap.size (fun k_ => no_ (.slice Ao11 t637.length co11) k_ ∧ no_ (.slice Ao19 t650.length co19) k_ ∧ no_ (.slice Ao23 t653.length co23) k_ ∧ no_ (.slice Ao29 t661.length co29) k_ ∧ no_ (.slice Ao34 t664.length co34) k_) (.slice Ao14 t640.length co14) t640) ∧ Aside0 (Kd.R k36 36 wc w.heap.size (fun k_ => no_ (.slice Ao24 t656.length co24) k_ ∧ no_ (.slice Ao35 t667.length co35) k_) (.slice Ao15 t643.length co15) t643) ∧ Aside0 (Kd.R (Kd.int .i64) 3 wc w.heap.size (fun k_ => no_ (.slice Ao11 t637.length co11) k_ ∧ no_ (.slice Ao14 t640.length co14) k_ ∧ no_ (.slice Ao23 t653.length co23) k_ ∧ no_ (.slice Ao29 t661.length co29) k_ ∧ no_ (.slice Ao34 t664.length co34) k_) (.slice Ao19 t650.length co19) t650) ∧ Aside0 (Kd.R (Kd.int .i64) 3 wc w.heap.size (fun k_ => no_ (.slice Ao11 t637.length co11) k_ ∧ no_ (.slice Ao14 t640.length co14) k_ ∧ no_ (.slice Ao19 t650.length co19) k_ ∧ no_ (.slice Ao29 t661.length co29) k_ ∧ no_ (.slice Ao34 t664.length co34) k_) (.slice Ao23 t653.length co23) t653) ∧ Aside0 (Kd.R k36 36 wc w.heap.size (fun k_ => no_ (.slice Ao15 t643.length co15) k_ ∧ no_ (.slice Ao35 t667.length co35) k_) (.slice Ao24 t656.length co24) t656) ∧ Aside0 (Kd.R (Kd.int .i64) 3 wc w.heap.size (fun k_ => no_ (.slice Ao11 t637.length co11) k_ ∧ no_ (.slice Ao14 t640.length co14) k_ ∧ no_ (.slice Ao19 t650.length co19) k_ ∧ no_ (.slice Ao23 t653.length co23) k_ ∧ no_ (.slice Ao34 t664.length co34) k_) (.slice Ao29 t661.length co29) t661) ∧ Aside0 (Kd.R (Kd.int .i64) 3 wc w.heap.size (fun k_ => no_ (.slice Ao11 t637.length co11) k_ ∧ no_ (.slice Ao14 t640.length co14) k_ ∧ no_ (.slice Ao19 t650.length co19) k_ ∧ no_ (.slice Ao23 t653.length co23) k_ ∧ no_ (.slice Ao29 t661.length co29) k_) (.slice Ao34 t664.length co34) t664) ∧ Aside0 (Kd.R k36 36 wc w.heap.size (fun k_ => no_ (.slice Ao15 t643.length co15) k_ ∧ no_ (.slice Ao24 t656.length co24) k_) (.slice Ao35 t667.length co35) t667) ∧ Aside0 (wc.heap[gb648]? = some (.cells #[(.slice Ao11 t637.length co11), (.slice Ao14 t640.length co14), (.slice Ao15 t643.length co15)] 26 (0, 0))) ∧ Aside0 (wc.heap[gb649]? = some (.cells #[.int .i64 t646, .int .i64 t647] 28 (0, 0))) ∧ Aside0 (wc.heap[gb660]? = some (.cells #[(.slice Ao19 t650.length co19), (.slice Ao23 t653.length co23), (.slice Ao24 t656.length co24)] 26 (0, 0))) ∧ Aside0 (wc.heap[gb671]? = some (.cells #[(.slice Ao29 t661.length co29), (.slice Ao34 t664.length co34), (.slice Ao35 t667.length co35)] 26 (0, 0))) ∧ Aside0 (Below w.heap.size w wc))
      case first =>
       as_aux_lemma =>
        have H := HC52.out
        clear HC52
        by_cases c53 : t659 = true
        rotate_left
        ·replace c53 := Bool.eq_false_iff.mpr c53
         subst c53
         rw [if_neg (show ¬ (false = true) by decide)] at H
         have H' := Aside0.mk H
         clear H
         go_wp2
         go_meet
         case rel => exact ⟨_, H', ⟨by have := HJ6.out; first | omega | exact Nat.le_refl _⟩, ⟨ra HO_649000.out⟩, ⟨ra HO_649001.out⟩, ⟨ra HO_649002.out⟩, ⟨ra HO_661000.out⟩, ⟨ra HO_661001.out⟩, ⟨ra HO_661002.out⟩, ⟨ra HO_672000.out⟩, ⟨ra HO_672001.out⟩, ⟨ra HO_672002.out⟩, ⟨bw0_ BK648⟩, ⟨bw0_ BK649⟩, ⟨bw0_ BK660⟩, ⟨bw0_ BK671⟩, ⟨hB HB⟩⟩
        subst c53
        rw [if_pos rfl] at H
        replace H := Option.bind_eq_some_iff.mp H
        obtain ⟨t675, A540, H⟩ := H
        replace H : (if t675 = true then (laws_FnPairs.l0 kj6 l1 (t650.length : Int) 0 t637 t640 t643 t646 t647 t650 t653 t656) else (some false)) = some r := H
        have A54 := Aside0.mk A540
        clear A540
        by_cases c55 : t675 = true
        rotate_left
        ·replace c55 := Bool.eq_false_iff.mpr c55
         subst c55
         rw [if_neg (show ¬ (false = true) by decide)] at H
         obtain rfl := Option.some.inj H
         obtain ⟨hnb131, hnc131⟩ := nn_ NB660_648
         obtain ⟨hnb132, hnc132⟩ := nn_ NB660_649
         obtain ⟨hnb133, hnc133⟩ := nn_ NB660_671
         obtain ⟨hcz134_0, hcz134_1, hcz134_2⟩ := bcs3_ BK660
         obtain ⟨hfz134_0, hfz134_1, hfz134_2⟩ := bz3_ BK660
         as_aux_lemma =>
          go_wp2_with (first | ((with_reducible refine gate_dst (N := 67) rfl ?_); refine goesL_ (some 67) rfl rfl Try.func8 (by kernel_rfl) rfl #[.agg #[.slice Ao19 t650.length co19, .slice Ao23 t653.length co23, .slice Ao24 t656.length co24]] rfl tm_ ?_; (with_reducible refine (impl_GoodPair.calls kj6 _ _ t650 _ _ t653 _ _ t656 false _ ?side1 ?side2 ?side3 ?side4 ?side5 ?side6 A54.out).mono ?_); (case side1 => exact ca (Kd.R_reads' HO_661000.out).2.2); (case side2 => exact (Kd.R_reads' HO_661000.out).2.1); (case side3 => exact ca (Kd.R_reads' HO_661001.out).2.2); (case side4 => exact (Kd.R_reads' HO_661001.out).2.1); (case side5 => exact ca (Kd.R_reads' HO_661002.out).2.2); (case side6 => exact (Kd.R_reads' HO_661002.out).2.1); rintro e w135 ⟨rfl, hb⟩; refine ⟨_, rfl, ?_⟩; replace HO_649000 := rb_ HO_649000 hb; replace HO_649001 := rb_ HO_649001 hb; replace HO_649002 := rb_ HO_649002 hb; replace HO_661000 := rb_ HO_661000 hb; replace HO_661001 := rb_ HO_661001 hb; replace HO_661002 := rb_ HO_661002 hb; replace HO_672000 := rb_ HO_672000 hb; replace HO_672001 := rb_ HO_672001 hb; replace HO_672002 := rb_ HO_672002 hb; replace BK648 := bb_ BK648 hb; replace BK649 := bb_ BK649 hb; replace BK660 := bb_ BK660 hb; replace BK671 := bb_ BK671 hb; replace HB := bst_ HB hb; clear hb))
          go_ret
          exact ⟨rt_, hB HB⟩
        subst c55
        rw [if_pos rfl] at H
        have H' := Aside0.mk H
        clear H
        obtain ⟨hnb56, hnc56⟩ := nn_ NB660_648
        obtain ⟨hnb57, hnc57⟩ := nn_ NB660_649
        obtain ⟨hnb58, hnc58⟩ := nn_ NB660_671
        obtain ⟨hcz59_0, hcz59_1, hcz59_2⟩ := bcs3_ BK660
        obtain ⟨hfz59_0, hfz59_1, hfz59_2⟩ := bz3_ BK660
        as_aux_lemma =>
         go_wp2_with (first | ((with_reducible refine gate_dst (N := 67) rfl ?_); refine goesL_ (some 67) rfl rfl Try.func8 (by kernel_rfl) rfl #[.agg #[.slice Ao19 t650.length co19, .slice Ao23 t653.length co23, .slice Ao24 t656.length co24]] rfl tm_ ?_; (with_reducible refine (impl_GoodPair.calls kj6 _ _ t650 _ _ t653 _ _ t656 true _ ?side1 ?side2 ?side3 ?side4 ?side5 ?side6 A54.out).mono ?_); (case side1 => exact ca (Kd.R_reads' HO_661000.out).2.2); (case side2 => exact (Kd.R_reads' HO_661000.out).2.1); (case side3 => exact ca (Kd.R_reads' HO_661001.out).2.2); (case side4 => exact (Kd.R_reads' HO_661001.out).2.1); (case side5 => exact ca (Kd.R_reads' HO_661002.out).2.2); (case side6 => exact (Kd.R_reads' HO_661002.out).2.1); rintro e w60 ⟨rfl, hb⟩; refine ⟨_, rfl, ?_⟩; replace HO_649000 := rb_ HO_649000 hb; replace HO_649001 := rb_ HO_649001 hb; replace HO_649002 := rb_ HO_649002 hb; replace HO_661000 := rb_ HO_661000 hb; replace HO_661001 := rb_ HO_661001 hb; replace HO_661002 := rb_ HO_661002 hb; replace HO_672000 := rb_ HO_672000 hb; replace HO_672001 := rb_ HO_672001 hb; replace HO_672002 := rb_ HO_672002 hb; replace BK648 := bb_ BK648 hb; replace BK649 := bb_ BK649 hb; replace BK660 := bb_ BK660 hb; replace BK671 := bb_ BK671 hb; replace HB := bst_ HB hb; clear hb; obtain ⟨hcz61_0, hcz61_1, hcz61_2⟩ := bcs3_ BK660; obtain ⟨hfz61_0, hfz61_1, hfz61_2⟩ := bz3_ BK660))
         go_loopg [72] kj6 (fun kq v72 w' => ∃ (x72_2 : Int), v72 = .int .i64 x72_2 ∧ Aside0 (laws_FnPairs.l0 kq l1 (t650.length : Int) x72_2 t637 t640 t643 t646 t647 t650 t653 t656 = some r) ∧ Aside0 (kq ≤ kj6) ∧ Aside0 (Kd.R (Kd.int .i64) 3 w' w.heap.size (fun k_ => no_ (.slice Ao14 t640.length co14) k_ ∧ no_ (.slice Ao19 t650.length co19) k_ ∧ no_ (.slice Ao23 t653.length co23) k_ ∧ no_ (.slice Ao29 t661.length co29) k_ ∧ no_ (.slice Ao34 t664.length co34) k_) (.slice Ao11 t637.length co11) t637) ∧ Aside0 (Kd.R (Kd.int .i64) 3 w' w.heap.size (fun k_ => no_ (.slice Ao11 t637.length co11) k_ ∧ no_ (.slice Ao19 t650.length co19) k_ ∧ no_ (.slice Ao23 t653.length co23) k_ ∧ no_ (.slice Ao29 t661.length co29) k_ ∧ no_ (.slice Ao34 t664.length co34) k_) (.slice Ao14 t640.length co14) t640) ∧ Aside0 (Kd.R k36 36 w' w.heap.size (fun k_ => no_ (.slice Ao24 t656.length co24) k_ ∧ no_ (.slice Ao35 t667.length co35) k_) (.slice Ao15 t643.length co15) t643) ∧ Aside0 (Kd.R (Kd.int .i64) 3 w' w.heap.size (fun k_ => no_ (.slice Ao11 t637.length co11) k_ ∧ no_ (.slice Ao14 t640.length co14) k_ ∧ no_ (.slice Ao23 t653.length co23) k_ ∧ no_ (.slice Ao29 t661.length co29) k_ ∧ no_ (.slice Ao34 t664.length co34) k_) (.slice Ao19 t650.length co19) t650) ∧ Aside0 (Kd.R (Kd.int .i64) 3 w' w.heap.size (fun k_ => no_ (.slice Ao11 t637.length co11) k_ ∧ no_ (.slice Ao14 t640.length co14) k_ ∧ no_ (.slice Ao19 t650.length co19) k_ ∧ no_ (.slice Ao29 t661.length co29) k_ ∧ no_ (.slice Ao34 t664.length co34) k_) (.slice Ao23 t653.length co23) t653) ∧ Aside0 (Kd.R k36 36 w' w.heap.size (fun k_ => no_ (.slice Ao15 t643.length co15) k_ ∧ no_ (.slice Ao35 t667.length co35) k_) (.slice Ao24 t656.length co24) t656) ∧ Aside0 (Kd.R (Kd.int .i64) 3 w' w.heap.size (fun k_ => no_ (.slice Ao11 t637.length co11) k_ ∧ no_ (.slice Ao14 t640.length co14) k_ ∧ no_ (.slice Ao19 t650.length co19) k_ ∧ no_ (.slice Ao23 t653.length co23) k_ ∧ no_ (.slice Ao34 t664.length co34) k_) (.slice Ao29 t661.length co29) t661) ∧ Aside0 (Kd.R (Kd.int .i64) 3 w' w.heap.size (fun k_ => no_ (.slice Ao11 t637.length co11) k_ ∧ no_ (.slice Ao14 t640.length co14) k_ ∧ no_ (.slice Ao19 t650.length co19) k_ ∧ no_ (.slice Ao23 t653.length co23) k_ ∧ no_ (.slice Ao29 t661.length co29) k_) (.slice Ao34 t664.length co34) t664) ∧ Aside0 (Kd.R k36 36 w' w.heap.size (fun k_ => no_ (.slice Ao15 t643.length co15) k_ ∧ no_ (.slice Ao24 t656.length co24) k_) (.slice Ao35 t667.length co35) t667) ∧ Aside0 (w'.heap[gb648]? = some (.cells #[(.slice Ao11 t637.length co11), (.slice Ao14 t640.length co14), (.slice Ao15 t643.length co15)] 26 (0, 0))) ∧ Aside0 (w'.heap[gb649]? = some (.cells #[.int .i64 t646, .int .i64 t647] 28 (0, 0))) ∧ Aside0 (w'.heap[gb660]? = some (.cells #[(.slice Ao19 t650.length co19), (.slice Ao23 t653.length co23), (.slice Ao24 t656.length co24)] 26 (0, 0))) ∧ Aside0 (w'.heap[gb671]? = some (.cells #[(.slice Ao29 t661.length co29), (.slice Ao34 t664.length co34), (.slice Ao35 t667.length co35)] 26 (0, 0))) ∧ Aside0 (Below w.heap.size w w'))
         case atStart => exact ⟨(0), (by first | rfl | (simp; done) | (simp [*]; done)), H', ⟨Nat.le_refl _⟩, ⟨ra HO_649000.out⟩, ⟨ra HO_649001.out⟩, ⟨ra HO_649002.out⟩, ⟨ra HO_661000.out⟩, ⟨ra HO_661001.out⟩, ⟨ra HO_661002.out⟩, ⟨ra HO_672000.out⟩, ⟨ra HO_672001.out⟩, ⟨ra HO_672002.out⟩, ⟨bw0_ BK648⟩, ⟨bw0_ BK649⟩, ⟨bw0_ BK660⟩, ⟨bw0_ BK671⟩, ⟨hB HB⟩⟩
         case round =>
          as_aux_lemma =>
           clear H'
           try clear c51
           try clear c53
           try clear c55
           try clear hcz59_0
           try clear hcz59_1
           try clear hcz59_2
           try clear hcz61_0
           try clear hcz61_1
           try clear hcz61_2
           try clear hfz59_0
           try clear hfz59_1
           try clear hfz59_2
           try clear hfz61_0
           try clear hfz61_1
           try clear hfz61_2
           obtain ⟨x72_2, rfl, HA, HK2, HO_649000, HO_649001, HO_649002, HO_661000, HO_661001, HO_661002, HO_672000, HO_672001, HO_672002, BK648, BK649, BK660, BK671, HB⟩ := hrel
           cases gk with
           | zero => exact absurd HA.out (by simp [laws_FnPairs.l0])
           | succ k2 =>
            have H := HA.out
            clear HA
            simp only [laws_FnPairs.l0] at H
            by_cases c62 : x72_2 < (t650.length : Int)
            rotate_left
            ·rw [if_neg c62] at H
             have c62b0 : decide (x72_2 < (t650.length : Int)) = false := decide_eq_false c62
             clear c62
             (first | rw [c62b0] | (simp only [i64_w, i32_w]; rw [c62b0]) | skip)
             have H' := Aside0.mk H
             clear H
             go_wp2
             go_meet
             case rel => exact ⟨_, H', ⟨by have := HJ6.out; have := HK2.out; first | omega | exact Nat.le_refl _⟩, ⟨ra HO_649000.out⟩, ⟨ra HO_649001.out⟩, ⟨ra HO_649002.out⟩, ⟨ra HO_661000.out⟩, ⟨ra HO_661001.out⟩, ⟨ra HO_661002.out⟩, ⟨ra HO_672000.out⟩, ⟨ra HO_672001.out⟩, ⟨ra HO_672002.out⟩, ⟨bw0_ BK648⟩, ⟨bw0_ BK649⟩, ⟨bw0_ BK660⟩, ⟨bw0_ BK671⟩, ⟨hB HB⟩⟩
            rw [if_pos c62] at H
            have c62b0 : decide (x72_2 < (t650.length : Int)) = true := decide_eq_true c62
            clear c62
            (first | rw [c62b0] | (simp only [i64_w, i32_w]; rw [c62b0]) | skip)
            have HC63 := Aside0.mk H
            clear H
            as_aux_lemma =>
             go_upto_region 14 with (fail)
             go_cut [95] (fun v95 wc => ∃ (kq : Nat) (x95_62 : Bool), v95 = .bool x95_62 ∧ Aside0 (laws_FnPairs.j2 kq l1 x72_2 (t650.length : Int) x72_2 x95_62 t637 t640 t643 t646 t647 t650 t653 t656 = some r) ∧ Aside0 (kq ≤ k2) ∧ Aside0 (Kd.R (Kd.int .i64) 3 wc w.heap.size (fun k_ => no_ (.slice Ao14 t640.length co14) k_ ∧ no_ (.slice Ao19 t650.length co19) k_ ∧ no_ (.slice Ao23 t653.length co23) k_ ∧ no_ (.slice Ao29 t661.length co29) k_ ∧ no_ (.slice Ao34 t664.length co34) k_) (.slice Ao11 t637.length co11) t637) ∧ Aside0 (Kd.R (Kd.int .i64) 3 wc w.heap.size (fun k_ => no_ (.slice Ao11 t637.length co11) k_ ∧ no_ (.slice Ao19 t650.length co19) k_ ∧ no_ (.slice Ao23 t653.length co23) k_ ∧ no_ (.slice Ao29 t661.length co29) k_ ∧ no_ (.slice Ao34 t664.length co34) k_) (.slice Ao14 t640.length co14) t640) ∧ Aside0 (Kd.R k36 36 wc w.heap.size (fun k_ => no_ (.slice Ao24 t656.length co24) k_ ∧ no_ (.slice Ao35 t667.length co35) k_) (.slice Ao15 t643.length co15) t643) ∧ Aside0 (Kd.R (Kd.int .i64) 3 wc w.heap.size (fun k_ => no_ (.slice Ao11 t637.length co11) k_ ∧ no_ (.slice Ao14 t640.length co14) k_ ∧ no_ (.slice Ao23 t653.length co23) k_ ∧ no_ (.slice Ao29 t661.length co29) k_ ∧ no_ (.slice Ao34 t664.length co34) k_) (.slice Ao19 t650.length co19) t650) ∧ Aside0 (Kd.R (Kd.int .i64) 3 wc w.heap.size (fun k_ => no_ (.slice Ao11 t637.length co11) k_ ∧ no_ (.slice Ao14 t640.length co14) k_ ∧ no_ (.slice Ao19 t650.length co19) k_ ∧ no_ (.slice Ao29 t661.length co29) k_ ∧ no_ (.slice Ao34 t664.length co34) k_) (.slice Ao23 t653.length co23) t653) ∧ Aside0 (Kd.R k36 36 wc w.heap.size (fun k_ => no_ (.slice Ao15 t643.length co15) k_ ∧ no_ (.slice Ao35 t667.length co35) k_) (.slice Ao24 t656.length co24) t656) ∧ Aside0 (Kd.R (Kd.int .i64) 3 wc w.heap.size (fun k_ => no_ (.slice Ao11 t637.length co11) k_ ∧ no_ (.slice Ao14 t640.length co14) k_ ∧ no_ (.slice Ao19 t650.length co19) k_ ∧ no_ (.slice Ao23 t653.length co23) k_ ∧ no_ (.slice Ao34 t664.length co34) k_) (.slice Ao29 t661.length co29) t661) ∧ Aside0 (Kd.R (Kd.int .i64) 3 wc w.heap.size (fun k_ => no_ (.slice Ao11 t637.length co11) k_ ∧ no_ (.slice Ao14 t640.length co14) k_ ∧ no_ (.slice Ao19 t650.length co19) k_ ∧ no_ (.slice Ao23 t653.length co23) k_ ∧ no_ (.slice Ao29 t661.length co29) k_) (.slice Ao34 t664.length co34) t664) ∧ Aside0 (Kd.R k36 36 wc w.heap.size (fun k_ => no_ (.slice Ao15 t643.length co15) k_ ∧ no_ (.slice Ao24 t656.length co24) k_) (.slice Ao35 t667.length co35) t667) ∧ Aside0 (wc.heap[gb648]? = some (.cells #[(.slice Ao11 t637.length co11), (.slice Ao14 t640.length co14), (.slice Ao15 t643.length co15)] 26 (0, 0))) ∧ Aside0 (wc.heap[gb649]? = some (.cells #[.int .i64 t646, .int .i64 t647] 28 (0, 0))) ∧ Aside0 (wc.heap[gb660]? = some (.cells #[(.slice Ao19 t650.length co19), (.slice Ao23 t653.length co23), (.slice Ao24 t656.length co24)] 26 (0, 0))) ∧ Aside0 (wc.heap[gb671]? = some (.cells #[(.slice Ao29 t661.length co29), (.slice Ao34 t664.length co34), (.slice Ao35 t667.length co35)] 26 (0, 0))) ∧ Aside0 (Below w.heap.size w wc))
             case first =>
              as_aux_lemma =>
               have H := HC63.out
               clear HC63
               by_cases c64 : 0 ≤ x72_2
               rotate_left
               ·rw [if_neg c64] at H
                exact absurd H (by simp)
               rw [if_pos c64] at H
               have c64b0 : decide (0 ≤ x72_2) = true := decide_eq_true c64
               clear c64
               (first | rw [c64b0] | (simp only [i64_w, i32_w]; rw [c64b0]) | skip)
               by_cases c65 : x72_2 < (t650.length : Int)
               rotate_left
               ·rw [if_neg c65] at H
                exact absurd H (by simp)
               rw [if_pos c65] at H
               have c65b0 : decide (x72_2 < (t650.length : Int)) = true := decide_eq_true c65
               clear c65
               by_cases c66 : x72_2 < (t637.length : Int)
               rotate_left
               ·rw [if_neg c66] at H
                exact absurd H (by simp)
               rw [if_pos c66] at H
               have c66b0 : decide (x72_2 < (t637.length : Int)) = true := decide_eq_true c66
               clear c66
               by_cases c67 : (rd t650 x72_2) = (rd t637 x72_2)
               ·rw [if_pos c67] at H
                have c67b0 : ((rd t650 x72_2) == (rd t637 x72_2)) = true := beq_iff_eq.mpr c67
                have c67b1 : ((rd t650 x72_2) != (rd t637 x72_2)) = false := bne_eq_false_iff_eq.mpr c67
                clear c67
                have H' := Aside0.mk H
                clear H
                try go_wp2
                replace HO_649000 := rd_ HO_649000
                replace HO_649001 := rd_ HO_649001
                replace HO_649002 := rd_ HO_649002
                replace HO_661000 := rd_ HO_661000
                replace HO_661001 := rd_ HO_661001
                replace HO_661002 := rd_ HO_661002
                replace HO_672000 := rd_ HO_672000
                replace HO_672001 := rd_ HO_672001
                replace HO_672002 := rd_ HO_672002
                replace BK648 := bd_ BK648
                replace BK649 := bd_ BK649
                replace BK660 := bd_ BK660
                replace BK671 := bd_ BK671
                replace HB := Aside0.mk (below_drew1 HB.out)
                have p676 : 0 ≤ (x72_2 : Int) := od_
                have q676 : x72_2 < (t650.length : Int) := od_
                obtain ⟨ad676, e676, hx676_0⟩ := Kd.at_int (Kd.R_reads' HO_661000.out).2.2 x72_2 p676 q676
                cases e676
                replace p676 := eq_true p676
                replace q676 := eq_true q676
                have p677 : 0 ≤ (x72_2 : Int) := od_
                have q677 : x72_2 < (t637.length : Int) := od_
                obtain ⟨ad677, e677, hx677_0⟩ := Kd.at_int (Kd.R_reads' HO_649000.out).2.2 x72_2 p677 q677
                cases e677
                replace p677 := eq_true p677
                replace q677 := eq_true q677
                refine start_ (n := 21) (S := fun w' => w'.cell? ⟨gb660, 0, none⟩ = some (.slice (some ad676) t650.length co19) ∧ w'.cell? ⟨gb660, 1, none⟩ = some (.slice Ao23 t653.length co23) ∧ w'.cell? ⟨gb660, 2, none⟩ = some (.slice Ao24 t656.length co24) ∧ w'.cell? ⟨gb648, 0, none⟩ = some (.slice (some ad677) t637.length co11) ∧ w'.cell? ⟨gb648, 1, none⟩ = some (.slice Ao14 t640.length co14) ∧ w'.cell? ⟨gb648, 2, none⟩ = some (.slice Ao15 t643.length co15) ∧ w'.cell? (ad676.add (x72_2).toNat) = some (.int .i64 (rd t650 x72_2)) ∧ w'.cell? (ad677.add (x72_2).toNat) = some (.int .i64 (rd t637 x72_2))) (ds := []) (bs 21 0) (by kernel_rfl) rfl rfl ⟨bc_ BK660 0, bc_ BK660 1, bc_ BK660 2, bc_ BK648 0, bc_ BK648 1, bc_ BK648 2, hx676_0, hx677_0⟩ (fun hHeld => ?_); refine with_tabW laws_FnPairs.tab14 laws_FnPairs.bits14 (fun HT_ HW_ => ?_)
                generalize wr.drew = w68 at HO_649000 HO_649001 HO_649002 HO_661000 HO_661001 HO_661002 HO_672000 HO_672001 HO_672002 BK648 BK649 BK660 BK671 HB hx676_0 hx677_0 hHeld ⊢
                refine pu_ 0 75 (bs 21 1) HT_ ?_
                refine pu_ 2 77 (bs 21 5) HT_ ?_
                refine pu_ 5 80 (bs 21 37) HT_ ?_
                refine pu_ 7 82 (bs 21 165) HT_ ?_
                refine tk_ 1 76 (bs 21 167) HT_ HW_ hHeld ?_
                refine pu_ 3 78 (bs 21 175) HT_ ?_
                refine tk_ 4 79 (bs 21 191) HT_ HW_ hHeld ?_
                refine tk_ 6 81 (bs 21 255) HT_ HW_ hHeld ?_
                refine pu_ 8 83 (bs 21 511) HT_ ?_
                refine tk_ 9 84 (bs 21 1023) HT_ HW_ hHeld ?_
                refine pu_ 10 85 (bs 21 2047) HT_ ?_
                refine pu_ 11 86 (bs 21 4095) HT_ ?_
                refine pn_ 12 87 (bs 21 8191) HT_ ?_
                refine pn_ 13 88 (bs 21 16383) HT_ ?_
                refine pn_ 14 89 (bs 21 32767) HT_ ?_
                refine pu_ 15 90 (bs 21 65535) HT_ ?_
                refine pu_ 16 91 (bs 21 131071) HT_ ?_
                refine pn_ 17 92 (bs 21 262143) HT_ ?_
                refine pn_ 18 93 (bs 21 524287) HT_ ?_
                refine pn_ 19 94 (bs 21 1048575) HT_ ?_
                refine pu_ 20 95 (bs 21 2097151) HT_ ?_
                refine done_ (done_of HT_.out (by kernel_rfl)) ?_
                try go_wp2
                go_meet
                case rel => exact ⟨_, (false), (by first | rfl | (simp; done) | (simp [*]; done)), H', ⟨by have := HJ6.out; have := HK2.out; first | omega | exact Nat.le_refl _⟩, ⟨ra HO_649000.out⟩, ⟨ra HO_649001.out⟩, ⟨ra HO_649002.out⟩, ⟨ra HO_661000.out⟩, ⟨ra HO_661001.out⟩, ⟨ra HO_661002.out⟩, ⟨ra HO_672000.out⟩, ⟨ra HO_672001.out⟩, ⟨ra HO_672002.out⟩, ⟨bw0_ BK648⟩, ⟨bw0_ BK649⟩, ⟨bw0_ BK660⟩, ⟨bw0_ BK671⟩, ⟨hB HB⟩⟩
               rw [if_neg c67] at H
               have c67b0 : ((rd t650 x72_2) == (rd t637 x72_2)) = false := beq_eq_false_iff_ne.mpr c67
               have c67b1 : ((rd t650 x72_2) != (rd t637 x72_2)) = true := bne_iff_ne.mpr c67
               by_cases c69 : t646 = 2
               rotate_left
               ·rw [if_neg c69] at H
                have c69b0 : (t646 == 2) = false := beq_eq_false_iff_ne.mpr c69
                have c69b1 : (t646 != 2) = true := bne_iff_ne.mpr c69
                have H' := Aside0.mk H
                clear H
                try go_wp2
                replace HO_649000 := rd_ HO_649000
                replace HO_649001 := rd_ HO_649001
                replace HO_649002 := rd_ HO_649002
                replace HO_661000 := rd_ HO_661000
                replace HO_661001 := rd_ HO_661001
                replace HO_661002 := rd_ HO_661002
                replace HO_672000 := rd_ HO_672000
                replace HO_672001 := rd_ HO_672001
                replace HO_672002 := rd_ HO_672002
                replace BK648 := bd_ BK648
                replace BK649 := bd_ BK649
                replace BK660 := bd_ BK660
                replace BK671 := bd_ BK671
                replace HB := Aside0.mk (below_drew1 HB.out)
                have p676 : 0 ≤ (x72_2 : Int) := od_
                have q676 : x72_2 < (t650.length : Int) := od_
                obtain ⟨ad676, e676, hx676_0⟩ := Kd.at_int (Kd.R_reads' HO_661000.out).2.2 x72_2 p676 q676
                cases e676
                replace p676 := eq_true p676
                replace q676 := eq_true q676
                have p677 : 0 ≤ (x72_2 : Int) := od_
                have q677 : x72_2 < (t637.length : Int) := od_
                obtain ⟨ad677, e677, hx677_0⟩ := Kd.at_int (Kd.R_reads' HO_649000.out).2.2 x72_2 p677 q677
                cases e677
                replace p677 := eq_true p677
                replace q677 := eq_true q677
                refine start_ (n := 21) (S := fun w' => w'.cell? ⟨gb660, 0, none⟩ = some (.slice (some ad676) t650.length co19) ∧ w'.cell? ⟨gb660, 1, none⟩ = some (.slice Ao23 t653.length co23) ∧ w'.cell? ⟨gb660, 2, none⟩ = some (.slice Ao24 t656.length co24) ∧ w'.cell? ⟨gb648, 0, none⟩ = some (.slice (some ad677) t637.length co11) ∧ w'.cell? ⟨gb648, 1, none⟩ = some (.slice Ao14 t640.length co14) ∧ w'.cell? ⟨gb648, 2, none⟩ = some (.slice Ao15 t643.length co15) ∧ w'.cell? ⟨gb649, 0, none⟩ = some (.int .i64 t646) ∧ w'.cell? ⟨gb649, 1, none⟩ = some (.int .i64 t647) ∧ w'.cell? (ad676.add (x72_2).toNat) = some (.int .i64 (rd t650 x72_2)) ∧ w'.cell? (ad677.add (x72_2).toNat) = some (.int .i64 (rd t637 x72_2))) (ds := []) (bs 21 0) (by kernel_rfl) rfl rfl ⟨bc_ BK660 0, bc_ BK660 1, bc_ BK660 2, bc_ BK648 0, bc_ BK648 1, bc_ BK648 2, bc_ BK649 0, bc_ BK649 1, hx676_0, hx677_0⟩ (fun hHeld => ?_); refine with_tabW laws_FnPairs.tab14 laws_FnPairs.bits14 (fun HT_ HW_ => ?_)
                generalize wr.drew = w71 at HO_649000 HO_649001 HO_649002 HO_661000 HO_661001 HO_661002 HO_672000 HO_672001 HO_672002 BK648 BK649 BK660 BK671 HB hx676_0 hx677_0 hHeld ⊢
                refine pu_ 0 75 (bs 21 1) HT_ ?_
                refine pu_ 2 77 (bs 21 5) HT_ ?_
                refine pu_ 5 80 (bs 21 37) HT_ ?_
                refine pu_ 7 82 (bs 21 165) HT_ ?_
                refine tk_ 1 76 (bs 21 167) HT_ HW_ hHeld ?_
                refine pu_ 3 78 (bs 21 175) HT_ ?_
                refine tk_ 4 79 (bs 21 191) HT_ HW_ hHeld ?_
                refine tk_ 6 81 (bs 21 255) HT_ HW_ hHeld ?_
                refine pu_ 8 83 (bs 21 511) HT_ ?_
                refine tk_ 9 84 (bs 21 1023) HT_ HW_ hHeld ?_
                refine pu_ 10 85 (bs 21 2047) HT_ ?_
                refine pu_ 11 86 (bs 21 4095) HT_ ?_
                refine pu_ 12 87 (bs 21 8191) HT_ ?_
                refine tk_ 13 88 (bs 21 16383) HT_ HW_ hHeld ?_
                refine pu_ 14 89 (bs 21 32767) HT_ ?_
                refine pu_ 15 90 (bs 21 65535) HT_ ?_
                refine pu_ 16 91 (bs 21 131071) HT_ ?_
                refine pu_ 17 92 (bs 21 262143) HT_ ?_
                refine tk_ 18 93 (bs 21 524287) HT_ HW_ hHeld ?_
                refine pu_ 19 94 (bs 21 1048575) HT_ ?_
                refine pu_ 20 95 (bs 21 2097151) HT_ ?_
                refine done_ (done_of HT_.out (by kernel_rfl)) ?_
                try go_wp2
                go_meet
                case rel => exact ⟨_, ((t646 != 4)), (by first | rfl | (simp; done) | (simp [*]; done)), H', ⟨by have := HJ6.out; have := HK2.out; first | omega | exact Nat.le_refl _⟩, ⟨ra HO_649000.out⟩, ⟨ra HO_649001.out⟩, ⟨ra HO_649002.out⟩, ⟨ra HO_661000.out⟩, ⟨ra HO_661001.out⟩, ⟨ra HO_661002.out⟩, ⟨ra HO_672000.out⟩, ⟨ra HO_672001.out⟩, ⟨ra HO_672002.out⟩, ⟨bw0_ BK648⟩, ⟨bw0_ BK649⟩, ⟨bw0_ BK660⟩, ⟨bw0_ BK671⟩, ⟨hB HB⟩⟩
               rw [if_pos c69] at H
               have c69b0 : (t646 == 2) = true := beq_iff_eq.mpr c69
               have c69b1 : (t646 != 2) = false := bne_eq_false_iff_eq.mpr c69
               clear c69
               have H' := Aside0.mk H
               clear H
               try go_wp2
               replace HO_649000 := rd_ HO_649000
               replace HO_649001 := rd_ HO_649001
               replace HO_649002 := rd_ HO_649002
               replace HO_661000 := rd_ HO_661000
               replace HO_661001 := rd_ HO_661001
               replace HO_661002 := rd_ HO_661002
               replace HO_672000 := rd_ HO_672000
               replace HO_672001 := rd_ HO_672001
               replace HO_672002 := rd_ HO_672002
               replace BK648 := bd_ BK648
               replace BK649 := bd_ BK649
               replace BK660 := bd_ BK660
               replace BK671 := bd_ BK671
               replace HB := Aside0.mk (below_drew1 HB.out)
               have p676 : 0 ≤ (x72_2 : Int) := od_
               have q676 : x72_2 < (t650.length : Int) := od_
               obtain ⟨ad676, e676, hx676_0⟩ := Kd.at_int (Kd.R_reads' HO_661000.out).2.2 x72_2 p676 q676
               cases e676
               replace p676 := eq_true p676
               replace q676 := eq_true q676
               have p677 : 0 ≤ (x72_2 : Int) := od_
               have q677 : x72_2 < (t637.length : Int) := od_
               obtain ⟨ad677, e677, hx677_0⟩ := Kd.at_int (Kd.R_reads' HO_649000.out).2.2 x72_2 p677 q677
               cases e677
               replace p677 := eq_true p677
               replace q677 := eq_true q677
               refine start_ (n := 21) (S := fun w' => w'.cell? ⟨gb660, 0, none⟩ = some (.slice (some ad676) t650.length co19) ∧ w'.cell? ⟨gb660, 1, none⟩ = some (.slice Ao23 t653.length co23) ∧ w'.cell? ⟨gb660, 2, none⟩ = some (.slice Ao24 t656.length co24) ∧ w'.cell? ⟨gb648, 0, none⟩ = some (.slice (some ad677) t637.length co11) ∧ w'.cell? ⟨gb648, 1, none⟩ = some (.slice Ao14 t640.length co14) ∧ w'.cell? ⟨gb648, 2, none⟩ = some (.slice Ao15 t643.length co15) ∧ w'.cell? ⟨gb649, 0, none⟩ = some (.int .i64 t646) ∧ w'.cell? ⟨gb649, 1, none⟩ = some (.int .i64 t647) ∧ w'.cell? (ad676.add (x72_2).toNat) = some (.int .i64 (rd t650 x72_2)) ∧ w'.cell? (ad677.add (x72_2).toNat) = some (.int .i64 (rd t637 x72_2))) (ds := []) (bs 21 0) (by kernel_rfl) rfl rfl ⟨bc_ BK660 0, bc_ BK660 1, bc_ BK660 2, bc_ BK648 0, bc_ BK648 1, bc_ BK648 2, bc_ BK649 0, bc_ BK649 1, hx676_0, hx677_0⟩ (fun hHeld => ?_); refine with_tabW laws_FnPairs.tab14 laws_FnPairs.bits14 (fun HT_ HW_ => ?_)
               generalize wr.drew = w70 at HO_649000 HO_649001 HO_649002 HO_661000 HO_661001 HO_661002 HO_672000 HO_672001 HO_672002 BK648 BK649 BK660 BK671 HB hx676_0 hx677_0 hHeld ⊢
               refine pu_ 0 75 (bs 21 1) HT_ ?_
               refine pu_ 2 77 (bs 21 5) HT_ ?_
               refine pu_ 5 80 (bs 21 37) HT_ ?_
               refine pu_ 7 82 (bs 21 165) HT_ ?_
               refine tk_ 1 76 (bs 21 167) HT_ HW_ hHeld ?_
               refine pu_ 3 78 (bs 21 175) HT_ ?_
               refine tk_ 4 79 (bs 21 191) HT_ HW_ hHeld ?_
               refine tk_ 6 81 (bs 21 255) HT_ HW_ hHeld ?_
               refine pu_ 8 83 (bs 21 511) HT_ ?_
               refine tk_ 9 84 (bs 21 1023) HT_ HW_ hHeld ?_
               refine pu_ 10 85 (bs 21 2047) HT_ ?_
               refine pu_ 11 86 (bs 21 4095) HT_ ?_
               refine pu_ 12 87 (bs 21 8191) HT_ ?_
               refine tk_ 13 88 (bs 21 16383) HT_ HW_ hHeld ?_
               refine pu_ 14 89 (bs 21 32767) HT_ ?_
               refine pu_ 15 90 (bs 21 65535) HT_ ?_
               refine pu_ 16 91 (bs 21 131071) HT_ ?_
               refine pn_ 17 92 (bs 21 262143) HT_ ?_
               refine pn_ 18 93 (bs 21 524287) HT_ ?_
               refine pn_ 19 94 (bs 21 1048575) HT_ ?_
               refine pu_ 20 95 (bs 21 2097151) HT_ ?_
               refine done_ (done_of HT_.out (by kernel_rfl)) ?_
               try go_wp2
               go_meet
               case rel => exact ⟨_, (false), (by first | rfl | (simp; done) | (simp [*]; done)), H', ⟨by have := HJ6.out; have := HK2.out; first | omega | exact Nat.le_refl _⟩, ⟨ra HO_649000.out⟩, ⟨ra HO_649001.out⟩, ⟨ra HO_649002.out⟩, ⟨ra HO_661000.out⟩, ⟨ra HO_661001.out⟩, ⟨ra HO_661002.out⟩, ⟨ra HO_672000.out⟩, ⟨ra HO_672001.out⟩, ⟨ra HO_672002.out⟩, ⟨bw0_ BK648⟩, ⟨bw0_ BK649⟩, ⟨bw0_ BK660⟩, ⟨bw0_ BK671⟩, ⟨hB HB⟩⟩
             case rest =>
              as_aux_lemma =>
               clear HC63
               obtain ⟨kq, x95_62, rfl, HA, HJ62, HO_649000, HO_649001, HO_649002, HO_661000, HO_661001, HO_661002, HO_672000, HO_672001, HO_672002, BK648, BK649, BK660, BK671, HB⟩ := hcut
               cases kq with
               | zero => exact absurd HA.out (by simp [laws_FnPairs.j2])
               | succ kj62 =>
                have H := HA.out
                clear HA
                simp only [laws_FnPairs.j2] at H
                by_cases c72 : x95_62 = true
                ·subst c72
                 rw [if_pos rfl] at H
                 obtain rfl := Option.some.inj H
                 go_wp2
                 go_ret
                 exact ⟨rt_, hB HB⟩
                replace c72 := Bool.eq_false_iff.mpr c72
                subst c72
                rw [if_neg (show ¬ (false = true) by decide)] at H
                by_cases c73 : 0 ≤ x72_2
                rotate_left
                ·rw [if_neg c73] at H
                 exact absurd H (by simp)
                rw [if_pos c73] at H
                have c73b0 : decide (0 ≤ x72_2) = true := decide_eq_true c73
                clear c73
                by_cases c74 : x72_2 < (t650.length : Int)
                rotate_left
                ·rw [if_neg c74] at H
                 exact absurd H (by simp)
                rw [if_pos c74] at H
                have c74b0 : decide (x72_2 < (t650.length : Int)) = true := decide_eq_true c74
                clear c74
                by_cases c75 : (rd t650 x72_2) = 2
                rotate_left
                ·rw [if_neg c75] at H
                 have c75b0 : ((rd t650 x72_2) == 2) = false := beq_eq_false_iff_ne.mpr c75
                 have c75b1 : ((rd t650 x72_2) != 2) = true := bne_iff_ne.mpr c75
                 have H' := Aside0.mk H
                 clear H
                 obtain ⟨hnb127, hnc127⟩ := nn_ NB660_648
                 obtain ⟨hnb128, hnc128⟩ := nn_ NB660_649
                 obtain ⟨hnb129, hnc129⟩ := nn_ NB660_671
                 obtain ⟨hcz130_0, hcz130_1, hcz130_2⟩ := bcs3_ BK660
                 obtain ⟨hfz130_0, hfz130_1, hfz130_2⟩ := bz3_ BK660
                 have p678 : 0 ≤ (x72_2 : Int) := od_
                 have q678 : x72_2 < (t650.length : Int) := od_
                 obtain ⟨ad678, e678, hx678_0⟩ := Kd.at_int (Kd.R_reads' HO_661000.out).2.2 x72_2 p678 q678
                 cases e678
                 replace p678 := eq_true p678
                 replace q678 := eq_true q678
                 go_wp2
                 go_roundg kj62
                 case measure => have := HJ6.out; have := HK2.out; have := HJ62.out; omega
                 case rel => exact ⟨(wrap64 (x72_2 + 1)), (by first | rfl | (simp; done) | (simp [*]; done)), H', ⟨by have := HJ6.out; have := HK2.out; have := HJ62.out; omega⟩, ⟨ra HO_649000.out⟩, ⟨ra HO_649001.out⟩, ⟨ra HO_649002.out⟩, ⟨ra HO_661000.out⟩, ⟨ra HO_661001.out⟩, ⟨ra HO_661002.out⟩, ⟨ra HO_672000.out⟩, ⟨ra HO_672001.out⟩, ⟨ra HO_672002.out⟩, ⟨bw0_ BK648⟩, ⟨bw0_ BK649⟩, ⟨bw0_ BK660⟩, ⟨bw0_ BK671⟩, ⟨hB HB⟩⟩
                rw [if_pos c75] at H
                have c75b0 : ((rd t650 x72_2) == 2) = true := beq_iff_eq.mpr c75
                have c75b1 : ((rd t650 x72_2) != 2) = false := bne_eq_false_iff_eq.mpr c75
                clear c75
                by_cases c76 : x72_2 < (t637.length : Int)
                rotate_left
                ·rw [if_neg c76] at H
                 exact absurd H (by simp)
                rw [if_pos c76] at H
                have c76b0 : decide (x72_2 < (t637.length : Int)) = true := decide_eq_true c76
                clear c76
                by_cases c77 : (rd t637 x72_2) = 2
                ·rw [if_pos c77] at H
                 have c77b0 : ((rd t637 x72_2) == 2) = true := beq_iff_eq.mpr c77
                 have c77b1 : ((rd t637 x72_2) != 2) = false := bne_eq_false_iff_eq.mpr c77
                 clear c77
                 have H' := Aside0.mk H
                 clear H
                 obtain ⟨hnb78, hnc78⟩ := nn_ NB660_648
                 obtain ⟨hnb79, hnc79⟩ := nn_ NB660_649
                 obtain ⟨hnb80, hnc80⟩ := nn_ NB660_671
                 obtain ⟨hcz81_0, hcz81_1, hcz81_2⟩ := bcs3_ BK660
                 obtain ⟨hfz81_0, hfz81_1, hfz81_2⟩ := bz3_ BK660
                 have p678 : 0 ≤ (x72_2 : Int) := od_
                 have q678 : x72_2 < (t650.length : Int) := od_
                 obtain ⟨ad678, e678, hx678_0⟩ := Kd.at_int (Kd.R_reads' HO_661000.out).2.2 x72_2 p678 q678
                 cases e678
                 replace p678 := eq_true p678
                 replace q678 := eq_true q678
                 obtain ⟨hnb82, hnc82⟩ := nn_ NB648_649
                 obtain ⟨hnb83, hnc83⟩ := nn_ NB648_671
                 obtain ⟨hcz84_0, hcz84_1, hcz84_2⟩ := bcs3_ BK648
                 obtain ⟨hfz84_0, hfz84_1, hfz84_2⟩ := bz3_ BK648
                 have p679 : 0 ≤ (x72_2 : Int) := od_
                 have q679 : x72_2 < (t637.length : Int) := od_
                 obtain ⟨ad679, e679, hx679_0⟩ := Kd.at_int (Kd.R_reads' HO_649000.out).2.2 x72_2 p679 q679
                 cases e679
                 replace p679 := eq_true p679
                 replace q679 := eq_true q679
                 go_wp2
                 go_roundg kj62
                 case measure => have := HJ6.out; have := HK2.out; have := HJ62.out; omega
                 case rel => exact ⟨(wrap64 (x72_2 + 1)), (by first | rfl | (simp; done) | (simp [*]; done)), H', ⟨by have := HJ6.out; have := HK2.out; have := HJ62.out; omega⟩, ⟨ra HO_649000.out⟩, ⟨ra HO_649001.out⟩, ⟨ra HO_649002.out⟩, ⟨ra HO_661000.out⟩, ⟨ra HO_661001.out⟩, ⟨ra HO_661002.out⟩, ⟨ra HO_672000.out⟩, ⟨ra HO_672001.out⟩, ⟨ra HO_672002.out⟩, ⟨bw0_ BK648⟩, ⟨bw0_ BK649⟩, ⟨bw0_ BK660⟩, ⟨bw0_ BK671⟩, ⟨hB HB⟩⟩
                rw [if_neg c77] at H
                have c77b0 : ((rd t637 x72_2) == 2) = false := beq_eq_false_iff_ne.mpr c77
                have c77b1 : ((rd t637 x72_2) != 2) = true := bne_iff_ne.mpr c77
                by_cases c85 : t646 = 2
                rotate_left
                ·rw [if_neg c85] at H
                 have c85b0 : (t646 == 2) = false := beq_eq_false_iff_ne.mpr c85
                 have c85b1 : (t646 != 2) = true := bne_iff_ne.mpr c85
                 obtain rfl := Option.some.inj H
                 obtain ⟨hnb118, hnc118⟩ := nn_ NB660_648
                 obtain ⟨hnb119, hnc119⟩ := nn_ NB660_649
                 obtain ⟨hnb120, hnc120⟩ := nn_ NB660_671
                 obtain ⟨hcz121_0, hcz121_1, hcz121_2⟩ := bcs3_ BK660
                 obtain ⟨hfz121_0, hfz121_1, hfz121_2⟩ := bz3_ BK660
                 have p678 : 0 ≤ (x72_2 : Int) := od_
                 have q678 : x72_2 < (t650.length : Int) := od_
                 obtain ⟨ad678, e678, hx678_0⟩ := Kd.at_int (Kd.R_reads' HO_661000.out).2.2 x72_2 p678 q678
                 cases e678
                 replace p678 := eq_true p678
                 replace q678 := eq_true q678
                 obtain ⟨hnb122, hnc122⟩ := nn_ NB648_649
                 obtain ⟨hnb123, hnc123⟩ := nn_ NB648_671
                 obtain ⟨hcz124_0, hcz124_1, hcz124_2⟩ := bcs3_ BK648
                 obtain ⟨hfz124_0, hfz124_1, hfz124_2⟩ := bz3_ BK648
                 have p679 : 0 ≤ (x72_2 : Int) := od_
                 have q679 : x72_2 < (t637.length : Int) := od_
                 obtain ⟨ad679, e679, hx679_0⟩ := Kd.at_int (Kd.R_reads' HO_649000.out).2.2 x72_2 p679 q679
                 cases e679
                 replace p679 := eq_true p679
                 replace q679 := eq_true q679
                 obtain ⟨hnb125, hnc125⟩ := nn_ NB649_671
                 obtain ⟨hcz126_0, hcz126_1⟩ := bcs2_ BK649
                 obtain ⟨hfz126_0, hfz126_1⟩ := bz2_ BK649
                 go_wp2
                 go_ret
                 exact ⟨rt_, hB HB⟩
                rw [if_pos c85] at H
                have c85b0 : (t646 == 2) = true := beq_iff_eq.mpr c85
                have c85b1 : (t646 != 2) = false := bne_eq_false_iff_eq.mpr c85
                clear c85
                by_cases c86 : 0 ≤ t647
                rotate_left
                ·rw [if_neg c86] at H
                 exact absurd H (by simp)
                rw [if_pos c86] at H
                have c86b0 : decide (0 ≤ t647) = true := decide_eq_true c86
                clear c86
                by_cases c87 : t647 < (t643.length : Int)
                rotate_left
                ·rw [if_neg c87] at H
                 exact absurd H (by simp)
                rw [if_pos c87] at H
                have c87b0 : decide (t647 < (t643.length : Int)) = true := decide_eq_true c87
                clear c87
                obtain ⟨bq88, hbq88⟩ : ∃ b_ : Bool, b_ = ((rd_T36 t643 t647).f1) := ⟨_, rfl⟩
                replace H : (if (bq88 = true) then (if ((rd_T36 t643 t647).f0) = x72_2 then (some false) else (laws_FnPairs.l0 kj62 l1 (t650.length : Int) (wrap64 (x72_2 + 1)) t637 t640 t643 t646 t647 t650 t653 t656)) else (some false)) = some r := by rw [← hbq88] at H; exact H
                have Nbq88 := Aside0.mk hbq88
                clear hbq88
                by_cases c89 : (bq88 = true)
                rotate_left
                ·replace c89 := Bool.eq_false_iff.mpr c89
                 subst c89
                 rw [if_neg (show ¬ (false = true) by decide)] at H
                 obtain rfl := Option.some.inj H
                 obtain ⟨hnb109, hnc109⟩ := nn_ NB660_648
                 obtain ⟨hnb110, hnc110⟩ := nn_ NB660_649
                 obtain ⟨hnb111, hnc111⟩ := nn_ NB660_671
                 obtain ⟨hcz112_0, hcz112_1, hcz112_2⟩ := bcs3_ BK660
                 obtain ⟨hfz112_0, hfz112_1, hfz112_2⟩ := bz3_ BK660
                 have p678 : 0 ≤ (x72_2 : Int) := od_
                 have q678 : x72_2 < (t650.length : Int) := od_
                 obtain ⟨ad678, e678, hx678_0⟩ := Kd.at_int (Kd.R_reads' HO_661000.out).2.2 x72_2 p678 q678
                 cases e678
                 replace p678 := eq_true p678
                 replace q678 := eq_true q678
                 obtain ⟨hnb113, hnc113⟩ := nn_ NB648_649
                 obtain ⟨hnb114, hnc114⟩ := nn_ NB648_671
                 obtain ⟨hcz115_0, hcz115_1, hcz115_2⟩ := bcs3_ BK648
                 obtain ⟨hfz115_0, hfz115_1, hfz115_2⟩ := bz3_ BK648
                 have p679 : 0 ≤ (x72_2 : Int) := od_
                 have q679 : x72_2 < (t637.length : Int) := od_
                 obtain ⟨ad679, e679, hx679_0⟩ := Kd.at_int (Kd.R_reads' HO_649000.out).2.2 x72_2 p679 q679
                 cases e679
                 replace p679 := eq_true p679
                 replace q679 := eq_true q679
                 obtain ⟨hnb116, hnc116⟩ := nn_ NB649_671
                 obtain ⟨hcz117_0, hcz117_1⟩ := bcs2_ BK649
                 obtain ⟨hfz117_0, hfz117_1⟩ := bz2_ BK649
                 have p680 : 0 ≤ (t647 : Int) := od_
                 have q680 : t647 < (t643.length : Int) := od_
                 obtain ⟨ad680, e680, hx680_0, hx680_1⟩ := at_T36 (Kd.R_reads' HO_649002.out).2.2 t647 p680 q680
                 (try rw [← Nbq88.out] at hx680_1)
                 cases e680
                 replace p680 := eq_true p680
                 replace q680 := eq_true q680
                 go_wp2
                 go_ret
                 exact ⟨rt_, hB HB⟩
                subst c89
                rw [if_pos rfl] at H
                by_cases c90 : ((rd_T36 t643 t647).f0) = x72_2
                ·rw [if_pos c90] at H
                 have c90b0 : (((rd_T36 t643 t647).f0) == x72_2) = true := beq_iff_eq.mpr c90
                 have c90b1 : (((rd_T36 t643 t647).f0) != x72_2) = false := bne_eq_false_iff_eq.mpr c90
                 clear c90
                 obtain rfl := Option.some.inj H
                 obtain ⟨hnb91, hnc91⟩ := nn_ NB660_648
                 obtain ⟨hnb92, hnc92⟩ := nn_ NB660_649
                 obtain ⟨hnb93, hnc93⟩ := nn_ NB660_671
                 obtain ⟨hcz94_0, hcz94_1, hcz94_2⟩ := bcs3_ BK660
                 obtain ⟨hfz94_0, hfz94_1, hfz94_2⟩ := bz3_ BK660
                 have p678 : 0 ≤ (x72_2 : Int) := od_
                 have q678 : x72_2 < (t650.length : Int) := od_
                 obtain ⟨ad678, e678, hx678_0⟩ := Kd.at_int (Kd.R_reads' HO_661000.out).2.2 x72_2 p678 q678
                 cases e678
                 replace p678 := eq_true p678
                 replace q678 := eq_true q678
                 obtain ⟨hnb95, hnc95⟩ := nn_ NB648_649
                 obtain ⟨hnb96, hnc96⟩ := nn_ NB648_671
                 obtain ⟨hcz97_0, hcz97_1, hcz97_2⟩ := bcs3_ BK648
                 obtain ⟨hfz97_0, hfz97_1, hfz97_2⟩ := bz3_ BK648
                 have p679 : 0 ≤ (x72_2 : Int) := od_
                 have q679 : x72_2 < (t637.length : Int) := od_
                 obtain ⟨ad679, e679, hx679_0⟩ := Kd.at_int (Kd.R_reads' HO_649000.out).2.2 x72_2 p679 q679
                 cases e679
                 replace p679 := eq_true p679
                 replace q679 := eq_true q679
                 obtain ⟨hnb98, hnc98⟩ := nn_ NB649_671
                 obtain ⟨hcz99_0, hcz99_1⟩ := bcs2_ BK649
                 obtain ⟨hfz99_0, hfz99_1⟩ := bz2_ BK649
                 have p680 : 0 ≤ (t647 : Int) := od_
                 have q680 : t647 < (t643.length : Int) := od_
                 obtain ⟨ad680, e680, hx680_0, hx680_1⟩ := at_T36 (Kd.R_reads' HO_649002.out).2.2 t647 p680 q680
                 (try rw [← Nbq88.out] at hx680_1)
                 cases e680
                 replace p680 := eq_true p680
                 replace q680 := eq_true q680
                 have p681 : 0 ≤ (t647 : Int) := od_
                 have q681 : t647 < (t643.length : Int) := od_
                 obtain ⟨ad681, e681, hx681_0, hx681_1⟩ := at_T36 (Kd.R_reads' HO_649002.out).2.2 t647 p681 q681
                 (try rw [← Nbq88.out] at hx681_1)
                 obtain rfl : ad680 = ad681 := (by injection e681)
                 replace p681 := eq_true p681
                 replace q681 := eq_true q681
                 go_wp2
                 go_ret
                 exact ⟨rt_, hB HB⟩
                rw [if_neg c90] at H
                have c90b0 : (((rd_T36 t643 t647).f0) == x72_2) = false := beq_eq_false_iff_ne.mpr c90
                have c90b1 : (((rd_T36 t643 t647).f0) != x72_2) = true := bne_iff_ne.mpr c90
                have H' := Aside0.mk H
                clear H
                obtain ⟨hnb100, hnc100⟩ := nn_ NB660_648
                obtain ⟨hnb101, hnc101⟩ := nn_ NB660_649
                obtain ⟨hnb102, hnc102⟩ := nn_ NB660_671
                obtain ⟨hcz103_0, hcz103_1, hcz103_2⟩ := bcs3_ BK660
                obtain ⟨hfz103_0, hfz103_1, hfz103_2⟩ := bz3_ BK660
                have p678 : 0 ≤ (x72_2 : Int) := od_
                have q678 : x72_2 < (t650.length : Int) := od_
                obtain ⟨ad678, e678, hx678_0⟩ := Kd.at_int (Kd.R_reads' HO_661000.out).2.2 x72_2 p678 q678
                cases e678
                replace p678 := eq_true p678
                replace q678 := eq_true q678
                obtain ⟨hnb104, hnc104⟩ := nn_ NB648_649
                obtain ⟨hnb105, hnc105⟩ := nn_ NB648_671
                obtain ⟨hcz106_0, hcz106_1, hcz106_2⟩ := bcs3_ BK648
                obtain ⟨hfz106_0, hfz106_1, hfz106_2⟩ := bz3_ BK648
                have p679 : 0 ≤ (x72_2 : Int) := od_
                have q679 : x72_2 < (t637.length : Int) := od_
                obtain ⟨ad679, e679, hx679_0⟩ := Kd.at_int (Kd.R_reads' HO_649000.out).2.2 x72_2 p679 q679
                cases e679
                replace p679 := eq_true p679
                replace q679 := eq_true q679
                obtain ⟨hnb107, hnc107⟩ := nn_ NB649_671
                obtain ⟨hcz108_0, hcz108_1⟩ := bcs2_ BK649
                obtain ⟨hfz108_0, hfz108_1⟩ := bz2_ BK649
                have p680 : 0 ≤ (t647 : Int) := od_
                have q680 : t647 < (t643.length : Int) := od_
                obtain ⟨ad680, e680, hx680_0, hx680_1⟩ := at_T36 (Kd.R_reads' HO_649002.out).2.2 t647 p680 q680
                (try rw [← Nbq88.out] at hx680_1)
                cases e680
                replace p680 := eq_true p680
                replace q680 := eq_true q680
                have p681 : 0 ≤ (t647 : Int) := od_
                have q681 : t647 < (t643.length : Int) := od_
                obtain ⟨ad681, e681, hx681_0, hx681_1⟩ := at_T36 (Kd.R_reads' HO_649002.out).2.2 t647 p681 q681
                (try rw [← Nbq88.out] at hx681_1)
                obtain rfl : ad680 = ad681 := (by injection e681)
                replace p681 := eq_true p681
                replace q681 := eq_true q681
                go_wp2
                go_roundg kj62
                case measure => have := HJ6.out; have := HK2.out; have := HJ62.out; omega
                case rel => exact ⟨(wrap64 (x72_2 + 1)), (by first | rfl | (simp; done) | (simp [*]; done)), H', ⟨by have := HJ6.out; have := HK2.out; have := HJ62.out; omega⟩, ⟨ra HO_649000.out⟩, ⟨ra HO_649001.out⟩, ⟨ra HO_649002.out⟩, ⟨ra HO_661000.out⟩, ⟨ra HO_661001.out⟩, ⟨ra HO_661002.out⟩, ⟨ra HO_672000.out⟩, ⟨ra HO_672001.out⟩, ⟨ra HO_672002.out⟩, ⟨bw0_ BK648⟩, ⟨bw0_ BK649⟩, ⟨bw0_ BK660⟩, ⟨bw0_ BK671⟩, ⟨hB HB⟩⟩
      case rest =>
       as_aux_lemma =>
        clear HC52
        try clear c1
        obtain ⟨kq, HA, HJ51, HO_649000, HO_649001, HO_649002, HO_661000, HO_661001, HO_661002, HO_672000, HO_672001, HO_672002, BK648, BK649, BK660, BK671, HB⟩ := hcut
        cases kq with
        | zero => exact absurd HA.out (by simp [laws_FnPairs.j3])
        | succ kj51 =>
         have H := HA.out
         clear HA
         simp only [laws_FnPairs.j3] at H
         replace H := Option.bind_eq_some_iff.mp H
         obtain ⟨⟨t682, t685, t688⟩, A1360, H⟩ := H
         replace H : ((impl_SettlePair.f kj51 t682 t685 t688).bind fun bt692 => ((spec_SettlePair.f kj51 t682 t685 t688).bind fun bt703 => ((impl_AreBoth.f kj51 t682 t685 t688).bind fun bt714 => ((spec_AreBoth.f kj51 t682 t685 t688).bind fun bt716 => ((spec_DrawNewPair.f l1).bind fun t718 => ((impl_NewPair.f t718).bind fun bt719 => ((spec_NewPair.f t718).bind fun bt730 => (if (bt692.2.2.2 == bt703.2.2.2) = true then ((laws_samePair.f kj51 bt692.1 bt692.2.1 bt692.2.2.1 bt703.1 bt703.2.1 bt703.2.2.1).bind fun t741 => (if t741 = true then (if (bt714.2 == bt716.2) = true then (if (bt714.1 == bt716.1) = true then (if (bt719.2.2.2 == bt730.2.2.2) = true then ((laws_samePair.f kj51 bt719.1 bt719.2.1 bt719.2.2.1 bt730.1 bt730.2.1 bt730.2.2.1).bind fun t742 => (some t742)) else (some false)) else (some false)) else (some false)) else (some false))) else (some false))))))))) = some r := H
         have A136 := Aside0.mk A1360
         clear A1360
         replace H := Option.bind_eq_some_iff.mp H
         obtain ⟨⟨t692, t695, t698, t701⟩, A1370, H⟩ := H
         replace H : ((spec_SettlePair.f kj51 t682 t685 t688).bind fun bt703 => ((impl_AreBoth.f kj51 t682 t685 t688).bind fun bt714 => ((spec_AreBoth.f kj51 t682 t685 t688).bind fun bt716 => ((spec_DrawNewPair.f l1).bind fun t718 => ((impl_NewPair.f t718).bind fun bt719 => ((spec_NewPair.f t718).bind fun bt730 => (if (t701 == bt703.2.2.2) = true then ((laws_samePair.f kj51 t692 t695 t698 bt703.1 bt703.2.1 bt703.2.2.1).bind fun t741 => (if t741 = true then (if (bt714.2 == bt716.2) = true then (if (bt714.1 == bt716.1) = true then (if (bt719.2.2.2 == bt730.2.2.2) = true then ((laws_samePair.f kj51 bt719.1 bt719.2.1 bt719.2.2.1 bt730.1 bt730.2.1 bt730.2.2.1).bind fun t742 => (some t742)) else (some false)) else (some false)) else (some false)) else (some false))) else (some false)))))))) = some r := H
         have A137 := Aside0.mk A1370
         clear A1370
         replace H := Option.bind_eq_some_iff.mp H
         obtain ⟨⟨t703, t706, t709, t712⟩, A1380, H⟩ := H
         replace H : ((impl_AreBoth.f kj51 t682 t685 t688).bind fun bt714 => ((spec_AreBoth.f kj51 t682 t685 t688).bind fun bt716 => ((spec_DrawNewPair.f l1).bind fun t718 => ((impl_NewPair.f t718).bind fun bt719 => ((spec_NewPair.f t718).bind fun bt730 => (if (t701 == t712) = true then ((laws_samePair.f kj51 t692 t695 t698 t703 t706 t709).bind fun t741 => (if t741 = true then (if (bt714.2 == bt716.2) = true then (if (bt714.1 == bt716.1) = true then (if (bt719.2.2.2 == bt730.2.2.2) = true then ((laws_samePair.f kj51 bt719.1 bt719.2.1 bt719.2.2.1 bt730.1 bt730.2.1 bt730.2.2.1).bind fun t742 => (some t742)) else (some false)) else (some false)) else (some false)) else (some false))) else (some false))))))) = some r := H
         have A138 := Aside0.mk A1380
         clear A1380
         replace H := Option.bind_eq_some_iff.mp H
         obtain ⟨⟨t714, t715⟩, A1390, H⟩ := H
         replace H : ((spec_AreBoth.f kj51 t682 t685 t688).bind fun bt716 => ((spec_DrawNewPair.f l1).bind fun t718 => ((impl_NewPair.f t718).bind fun bt719 => ((spec_NewPair.f t718).bind fun bt730 => (if (t701 == t712) = true then ((laws_samePair.f kj51 t692 t695 t698 t703 t706 t709).bind fun t741 => (if t741 = true then (if (t715 == bt716.2) = true then (if (t714 == bt716.1) = true then (if (bt719.2.2.2 == bt730.2.2.2) = true then ((laws_samePair.f kj51 bt719.1 bt719.2.1 bt719.2.2.1 bt730.1 bt730.2.1 bt730.2.2.1).bind fun t742 => (some t742)) else (some false)) else (some false)) else (some false)) else (some false))) else (some false)))))) = some r := H
         have A139 := Aside0.mk A1390
         clear A1390
         replace H := Option.bind_eq_some_iff.mp H
         obtain ⟨⟨t716, t717⟩, A1400, H⟩ := H
         replace H : ((spec_DrawNewPair.f l1).bind fun t718 => ((impl_NewPair.f t718).bind fun bt719 => ((spec_NewPair.f t718).bind fun bt730 => (if (t701 == t712) = true then ((laws_samePair.f kj51 t692 t695 t698 t703 t706 t709).bind fun t741 => (if t741 = true then (if (t715 == t717) = true then (if (t714 == t716) = true then (if (bt719.2.2.2 == bt730.2.2.2) = true then ((laws_samePair.f kj51 bt719.1 bt719.2.1 bt719.2.2.1 bt730.1 bt730.2.1 bt730.2.2.1).bind fun t742 => (some t742)) else (some false)) else (some false)) else (some false)) else (some false))) else (some false))))) = some r := H
         have A140 := Aside0.mk A1400
         clear A1400
         replace H := Option.bind_eq_some_iff.mp H
         obtain ⟨t718, A1410, H⟩ := H
         replace H : ((impl_NewPair.f t718).bind fun bt719 => ((spec_NewPair.f t718).bind fun bt730 => (if (t701 == t712) = true then ((laws_samePair.f kj51 t692 t695 t698 t703 t706 t709).bind fun t741 => (if t741 = true then (if (t715 == t717) = true then (if (t714 == t716) = true then (if (bt719.2.2.2 == bt730.2.2.2) = true then ((laws_samePair.f kj51 bt719.1 bt719.2.1 bt719.2.2.1 bt730.1 bt730.2.1 bt730.2.2.1).bind fun t742 => (some t742)) else (some false)) else (some false)) else (some false)) else (some false))) else (some false)))) = some r := H
         have A141 := Aside0.mk A1410
         clear A1410
         replace H := Option.bind_eq_some_iff.mp H
         obtain ⟨⟨t719, t722, t725, t728⟩, A1420, H⟩ := H
         replace H : ((spec_NewPair.f t718).bind fun bt730 => (if (t701 == t712) = true then ((laws_samePair.f kj51 t692 t695 t698 t703 t706 t709).bind fun t741 => (if t741 = true then (if (t715 == t717) = true then (if (t714 == t716) = true then (if (t728 == bt730.2.2.2) = true then ((laws_samePair.f kj51 t719 t722 t725 bt730.1 bt730.2.1 bt730.2.2.1).bind fun t742 => (some t742)) else (some false)) else (some false)) else (some false)) else (some false))) else (some false))) = some r := H
         have A142 := Aside0.mk A1420
         clear A1420
         replace H := Option.bind_eq_some_iff.mp H
         obtain ⟨⟨t730, t733, t736, t739⟩, A1430, H⟩ := H
         replace H : (if (t701 == t712) = true then ((laws_samePair.f kj51 t692 t695 t698 t703 t706 t709).bind fun t741 => (if t741 = true then (if (t715 == t717) = true then (if (t714 == t716) = true then (if (t728 == t739) = true then ((laws_samePair.f kj51 t719 t722 t725 t730 t733 t736).bind fun t742 => (some t742)) else (some false)) else (some false)) else (some false)) else (some false))) else (some false)) = some r := H
         have A143 := Aside0.mk A1430
         clear A1430
         as_aux_lemma =>
          go_upto_region 27 with (first | ((with_reducible refine gate_dst (N := 138) rfl ?_); refine goesL_ (some 138) rfl rfl Try.func10 (by kernel_rfl) rfl #[.slice A1 l1.length c1] rfl tm_ ?_; (with_reducible refine (spec_DrawSettlePair.calls kj51 _ _ l1 t682 t685 t688 _ ?side1 ?side2 A136.out).mono ?_); (case side1 => exact cb_ HR1 HB); (case side2 => exact HC1.out); rintro e w151 ⟨v683, v686, v689, rfl, ho0, ho1, ho2, hb⟩; refine ⟨_, rfl, ?_⟩; have HO684 := Aside0.mk (Kd.R_lower (Kd.R_new' (Kd.R_new' (Kd.R_new' (Kd.R_new' (Kd.R_new' (Kd.R_new' ho0 (rl_ HO_649000)) (rl_ HO_649001)) (rl_ HO_661000)) (rl_ HO_661001)) (rl_ HO_672000)) (rl_ HO_672001)) (below_size (hB HB))); have HO687 := Aside0.mk (Kd.R_lower (Kd.R_new' (Kd.R_new' (Kd.R_new' (Kd.R_new' (Kd.R_new' (Kd.R_new' ho1 (rl_ HO_649000)) (rl_ HO_649001)) (rl_ HO_661000)) (rl_ HO_661001)) (rl_ HO_672000)) (rl_ HO_672001)) (below_size (hB HB))); have HO690 := Aside0.mk (Kd.R_lower (Kd.R_new' (Kd.R_new' (Kd.R_new' ho2 (rl_ HO_649002)) (rl_ HO_661002)) (rl_ HO_672002)) (below_size (hB HB))); replace HO_649000 := rt2_ HO_649000 hb ho0 ho1; replace HO_649001 := rt2_ HO_649001 hb ho0 ho1; replace HO_649002 := re_ HO_649002 ho2 hb; replace HO_661000 := rt2_ HO_661000 hb ho0 ho1; replace HO_661001 := rt2_ HO_661001 hb ho0 ho1; replace HO_661002 := re_ HO_661002 ho2 hb; replace HO_672000 := rt2_ HO_672000 hb ho0 ho1; replace HO_672001 := rt2_ HO_672001 hb ho0 ho1; replace HO_672002 := re_ HO_672002 ho2 hb; replace BK648 := bb_ BK648 hb; replace BK649 := bb_ BK649 hb; replace BK660 := bb_ BK660 hb; replace BK671 := bb_ BK671 hb; replace HB := bst_ HB hb; clear hb ho0 ho1 ho2) | ((with_reducible refine gate_dst (N := 12) rfl ?_); refine bx_ev 12 #[.slice none 0 0, .slice none 0 0, .slice none 0 0] 26 ?_; intro gb691 hg w152 hbox hb; have BK691 := Aside0.mk (hbox); have GW691 := gw_ hg HB; have GE691 := gw_ hg HB; have NB648_691 := nl_ hg BK648; have NB691_648 := ng_ hg BK648; have NB649_691 := nl_ hg BK649; have NB691_649 := ng_ hg BK649; have NB660_691 := nl_ hg BK660; have NB691_660 := ng_ hg BK660; have NB671_691 := nl_ hg BK671; have NB691_671 := ng_ hg BK671; replace HO_649000 := rb_ HO_649000 hb; replace HO_649001 := rb_ HO_649001 hb; replace HO_649002 := rb_ HO_649002 hb; replace HO_661000 := rb_ HO_661000 hb; replace HO_661001 := rb_ HO_661001 hb; replace HO_661002 := rb_ HO_661002 hb; replace HO_672000 := rb_ HO_672000 hb; replace HO_672001 := rb_ HO_672001 hb; replace HO_672002 := rb_ HO_672002 hb; replace HO684 := rb_ HO684 hb; replace HO687 := rb_ HO687 hb; replace HO690 := rb_ HO690 hb; replace BK648 := bb_ BK648 hb; replace BK649 := bb_ BK649 hb; replace BK660 := bb_ BK660 hb; replace BK671 := bb_ BK671 hb; replace HB := bst_ HB hb; clear hb hbox hg; obtain ⟨Ao153, co153, eo153⟩ := Kd.R_slice HO684.out; subst eo153; obtain ⟨hnb154, hnc154⟩ := nn_ NB691_648; obtain ⟨hnb155, hnc155⟩ := nn_ NB691_649; obtain ⟨hnb156, hnc156⟩ := nn_ NB691_660; obtain ⟨hnb157, hnc157⟩ := nn_ NB691_671; obtain ⟨hcz158_0, hcz158_1, hcz158_2⟩ := bcs3_ BK691; obtain ⟨hfz158_0, hfz158_1, hfz158_2⟩ := bz3_ BK691; obtain ⟨Ao159, co159, eo159⟩ := Kd.R_slice HO687.out; subst eo159; obtain ⟨Ao160, co160, eo160⟩ := Kd.R_slice HO690.out; subst eo160) | ((with_reducible refine gate_dst (N := 141) rfl ?_); refine goesL_ (some 141) rfl rfl Try.func11 (by kernel_rfl) rfl #[.agg #[.slice Ao153 t682.length co153, .slice Ao159 t685.length co159, .slice Ao160 t688.length co160]] rfl tm_ ?_; (with_reducible refine (impl_SettlePair.calls kj51 _ _ t682 _ _ t685 _ _ t688 t692 t695 t698 t701 _ ?side1 ?side2 ?side3 ?side4 ?side5 ?side6 A137.out).mono ?_); (case side1 => exact rr_ (fm3_ HO684 BK691)); (case side2 => exact (Kd.R_reads' HO684.out).2.1); (case side3 => exact rr_ (fm3_ HO687 BK691)); (case side4 => exact (Kd.R_reads' HO687.out).2.1); (case side5 => exact rr_ (fm3_ HO690 BK691)); (case side6 => exact (Kd.R_reads' HO690.out).2.1); rintro e w161 ⟨v693, v696, v699, rfl, ho0, ho1, ho2, hb⟩; refine ⟨_, rfl, ?_⟩; have HO694 := Aside0.mk (Kd.R_lower (Kd.R_new' (Kd.R_new' (Kd.R_new' (Kd.R_new' (Kd.R_new' (Kd.R_new' (Kd.R_new' (Kd.R_new' ho0 (Kd.R_lt (ra (fm3_ HO_649000 BK691)))) (Kd.R_lt (ra (fm3_ HO_649001 BK691)))) (Kd.R_lt (ra (fm3_ HO_661000 BK691)))) (Kd.R_lt (ra (fm3_ HO_661001 BK691)))) (Kd.R_lt (ra (fm3_ HO_672000 BK691)))) (Kd.R_lt (ra (fm3_ HO_672001 BK691)))) (Kd.R_lt (ra (fm3_ HO684 BK691)))) (Kd.R_lt (ra (fm3_ HO687 BK691)))) (below_size (hB HB))); have HO697 := Aside0.mk (Kd.R_lower (Kd.R_new' (Kd.R_new' (Kd.R_new' (Kd.R_new' (Kd.R_new' (Kd.R_new' (Kd.R_new' (Kd.R_new' ho1 (Kd.R_lt (ra (fm3_ HO_649000 BK691)))) (Kd.R_lt (ra (fm3_ HO_649001 BK691)))) (Kd.R_lt (ra (fm3_ HO_661000 BK691)))) (Kd.R_lt (ra (fm3_ HO_661001 BK691)))) (Kd.R_lt (ra (fm3_ HO_672000 BK691)))) (Kd.R_lt (ra (fm3_ HO_672001 BK691)))) (Kd.R_lt (ra (fm3_ HO684 BK691)))) (Kd.R_lt (ra (fm3_ HO687 BK691)))) (below_size (hB HB))); have HO700 := Aside0.mk (Kd.R_lower (Kd.R_new' (Kd.R_new' (Kd.R_new' (Kd.R_new' ho2 (Kd.R_lt (ra (fm3_ HO_649002 BK691)))) (Kd.R_lt (ra (fm3_ HO_661002 BK691)))) (Kd.R_lt (ra (fm3_ HO_672002 BK691)))) (Kd.R_lt (ra (fm3_ HO690 BK691)))) (below_size (hB HB))); replace HO_649000 := Aside0.mk (Kd.R_mono (Kd.R_told (Kd.R_told (Kd.R_old (ra (fm3_ HO_649000 BK691)) hb) (Kd.R_base ho0)) (Kd.R_base ho1)) (fun _ h_ => h_.1)); replace HO_649001 := Aside0.mk (Kd.R_mono (Kd.R_told (Kd.R_told (Kd.R_old (ra (fm3_ HO_649001 BK691)) hb) (Kd.R_base ho0)) (Kd.R_base ho1)) (fun _ h_ => h_.1)); replace HO_649002 := Aside0.mk (Kd.R_elder' (ra (fm3_ HO_649002 BK691)) (Kd.R_base ho2) hb); replace HO_661000 := Aside0.mk (Kd.R_mono (Kd.R_told (Kd.R_told (Kd.R_old (ra (fm3_ HO_661000 BK691)) hb) (Kd.R_base ho0)) (Kd.R_base ho1)) (fun _ h_ => h_.1)); replace HO_661001 := Aside0.mk (Kd.R_mono (Kd.R_told (Kd.R_told (Kd.R_old (ra (fm3_ HO_661001 BK691)) hb) (Kd.R_base ho0)) (Kd.R_base ho1)) (fun _ h_ => h_.1)); replace HO_661002 := Aside0.mk (Kd.R_elder' (ra (fm3_ HO_661002 BK691)) (Kd.R_base ho2) hb); replace HO_672000 := Aside0.mk (Kd.R_mono (Kd.R_told (Kd.R_told (Kd.R_old (ra (fm3_ HO_672000 BK691)) hb) (Kd.R_base ho0)) (Kd.R_base ho1)) (fun _ h_ => h_.1)); replace HO_672001 := Aside0.mk (Kd.R_mono (Kd.R_told (Kd.R_told (Kd.R_old (ra (fm3_ HO_672001 BK691)) hb) (Kd.R_base ho0)) (Kd.R_base ho1)) (fun _ h_ => h_.1)); replace HO_672002 := Aside0.mk (Kd.R_elder' (ra (fm3_ HO_672002 BK691)) (Kd.R_base ho2) hb); replace HO684 := Aside0.mk (Kd.R_mono (Kd.R_told (Kd.R_told (Kd.R_old (ra (fm3_ HO684 BK691)) hb) (Kd.R_base ho0)) (Kd.R_base ho1)) (fun _ h_ => h_.1)); replace HO687 := Aside0.mk (Kd.R_mono (Kd.R_told (Kd.R_told (Kd.R_old (ra (fm3_ HO687 BK691)) hb) (Kd.R_base ho0)) (Kd.R_base ho1)) (fun _ h_ => h_.1)); replace HO690 := Aside0.mk (Kd.R_elder' (ra (fm3_ HO690 BK691)) (Kd.R_base ho2) hb); replace BK648 := Aside0.mk (blk_below (bx BK648) hb); replace BK649 := Aside0.mk (blk_below (bx BK649) hb); replace BK660 := Aside0.mk (blk_below (bx BK660) hb); replace BK671 := Aside0.mk (blk_below (bx BK671) hb); replace BK691 := Aside0.mk (blk_below (g := gb691) (o := .cells #[.slice Ao153 t682.length co153, .slice Ao159 t685.length co159, .slice Ao160 t688.length co160] 26 (0, 0)) (bw0_ BK691) hb); replace HB := bst_ HB hb; clear hb ho0 ho1 ho2) | ((with_reducible refine gate_dst (N := 13) rfl ?_); refine bx_ev 13 #[.slice none 0 0, .slice none 0 0, .slice none 0 0] 26 ?_; intro gb702 hg w162 hbox hb; have BK702 := Aside0.mk (hbox); have GW702 := gw_ hg HB; have GE702 := gw_ hg HB; have NB648_702 := nl_ hg BK648; have NB702_648 := ng_ hg BK648; have NB649_702 := nl_ hg BK649; have NB702_649 := ng_ hg BK649; have NB660_702 := nl_ hg BK660; have NB702_660 := ng_ hg BK660; have NB671_702 := nl_ hg BK671; have NB702_671 := ng_ hg BK671; have NB691_702 := nl_ hg BK691; have NB702_691 := ng_ hg BK691; replace HO_649000 := rb_ HO_649000 hb; replace HO_649001 := rb_ HO_649001 hb; replace HO_649002 := rb_ HO_649002 hb; replace HO_661000 := rb_ HO_661000 hb; replace HO_661001 := rb_ HO_661001 hb; replace HO_661002 := rb_ HO_661002 hb; replace HO_672000 := rb_ HO_672000 hb; replace HO_672001 := rb_ HO_672001 hb; replace HO_672002 := rb_ HO_672002 hb; replace HO684 := rb_ HO684 hb; replace HO687 := rb_ HO687 hb; replace HO690 := rb_ HO690 hb; replace HO694 := rb_ HO694 hb; replace HO697 := rb_ HO697 hb; replace HO700 := rb_ HO700 hb; replace BK648 := bb_ BK648 hb; replace BK649 := bb_ BK649 hb; replace BK660 := bb_ BK660 hb; replace BK671 := bb_ BK671 hb; replace BK691 := bb_ BK691 hb; replace HB := bst_ HB hb; clear hb hbox hg; obtain ⟨Ao163, co163, eo163⟩ := Kd.R_slice HO694.out; subst eo163; obtain ⟨hnb164, hnc164⟩ := nn_ NB702_648; obtain ⟨hnb165, hnc165⟩ := nn_ NB702_649; obtain ⟨hnb166, hnc166⟩ := nn_ NB702_660; obtain ⟨hnb167, hnc167⟩ := nn_ NB702_671; obtain ⟨hnb168, hnc168⟩ := nn_ NB702_691; obtain ⟨hcz169_0, hcz169_1, hcz169_2⟩ := bcs3_ BK702; obtain ⟨hfz169_0, hfz169_1, hfz169_2⟩ := bz3_ BK702; obtain ⟨Ao170, co170, eo170⟩ := Kd.R_slice HO697.out; subst eo170; obtain ⟨Ao171, co171, eo171⟩ := Kd.R_slice HO700.out; subst eo171; obtain ⟨hcz172_0, hcz172_1, hcz172_2⟩ := bcs3_ BK691; obtain ⟨hfz172_0, hfz172_1, hfz172_2⟩ := bz3_ BK691) | ((with_reducible refine gate_dst (N := 146) rfl ?_); refine goesL_ (some 146) rfl rfl Try.func12 (by kernel_rfl) rfl #[.agg #[.slice Ao153 t682.length co153, .slice Ao159 t685.length co159, .slice Ao160 t688.length co160]] rfl tm_ ?_; (with_reducible refine (spec_SettlePair.calls kj51 _ _ t682 _ _ t685 _ _ t688 t703 t706 t709 t712 _ ?side1 ?side2 ?side3 ?side4 ?side5 ?side6 A138.out).mono ?_); (case side1 => exact rr_ (fm3_ HO684 BK702)); (case side2 => exact (Kd.R_reads' HO684.out).2.1); (case side3 => exact rr_ (fm3_ HO687 BK702)); (case side4 => exact (Kd.R_reads' HO687.out).2.1); (case side5 => exact rr_ (fm3_ HO690 BK702)); (case side6 => exact (Kd.R_reads' HO690.out).2.1); rintro e w173 ⟨v704, v707, v710, rfl, ho0, ho1, ho2, hb⟩; refine ⟨_, rfl, ?_⟩; have HO705 := Aside0.mk (Kd.R_lower (Kd.R_new' (Kd.R_new' (Kd.R_new' (Kd.R_new' (Kd.R_new' (Kd.R_new' (Kd.R_new' (Kd.R_new' (Kd.R_new' (Kd.R_new' ho0 (Kd.R_lt (ra (fm3_ HO_649000 BK702)))) (Kd.R_lt (ra (fm3_ HO_649001 BK702)))) (Kd.R_lt (ra (fm3_ HO_661000 BK702)))) (Kd.R_lt (ra (fm3_ HO_661001 BK702)))) (Kd.R_lt (ra (fm3_ HO_672000 BK702)))) (Kd.R_lt (ra (fm3_ HO_672001 BK702)))) (Kd.R_lt (ra (fm3_ HO684 BK702)))) (Kd.R_lt (ra (fm3_ HO687 BK702)))) (Kd.R_lt (ra (fm3_ HO694 BK702)))) (Kd.R_lt (ra (fm3_ HO697 BK702)))) (below_size (hB HB))); have HO708 := Aside0.mk (Kd.R_lower (Kd.R_new' (Kd.R_new' (Kd.R_new' (Kd.R_new' (Kd.R_new' (Kd.R_new' (Kd.R_new' (Kd.R_new' (Kd.R_new' (Kd.R_new' ho1 (Kd.R_lt (ra (fm3_ HO_649000 BK702)))) (Kd.R_lt (ra (fm3_ HO_649001 BK702)))) (Kd.R_lt (ra (fm3_ HO_661000 BK702)))) (Kd.R_lt (ra (fm3_ HO_661001 BK702)))) (Kd.R_lt (ra (fm3_ HO_672000 BK702)))) (Kd.R_lt (ra (fm3_ HO_672001 BK702)))) (Kd.R_lt (ra (fm3_ HO684 BK702)))) (Kd.R_lt (ra (fm3_ HO687 BK702)))) (Kd.R_lt (ra (fm3_ HO694 BK702)))) (Kd.R_lt (ra (fm3_ HO697 BK702)))) (below_size (hB HB))); have HO711 := Aside0.mk (Kd.R_lower (Kd.R_new' (Kd.R_new' (Kd.R_new' (Kd.R_new' (Kd.R_new' ho2 (Kd.R_lt (ra (fm3_ HO_649002 BK702)))) (Kd.R_lt (ra (fm3_ HO_661002 BK702)))) (Kd.R_lt (ra (fm3_ HO_672002 BK702)))) (Kd.R_lt (ra (fm3_ HO690 BK702)))) (Kd.R_lt (ra (fm3_ HO700 BK702)))) (below_size (hB HB))); replace HO_649000 := Aside0.mk (Kd.R_mono (Kd.R_told (Kd.R_told (Kd.R_old (ra (fm3_ HO_649000 BK702)) hb) (Kd.R_base ho0)) (Kd.R_base ho1)) (fun _ h_ => h_.1)); replace HO_649001 := Aside0.mk (Kd.R_mono (Kd.R_told (Kd.R_told (Kd.R_old (ra (fm3_ HO_649001 BK702)) hb) (Kd.R_base ho0)) (Kd.R_base ho1)) (fun _ h_ => h_.1)); replace HO_649002 := Aside0.mk (Kd.R_elder' (ra (fm3_ HO_649002 BK702)) (Kd.R_base ho2) hb); replace HO_661000 := Aside0.mk (Kd.R_mono (Kd.R_told (Kd.R_told (Kd.R_old (ra (fm3_ HO_661000 BK702)) hb) (Kd.R_base ho0)) (Kd.R_base ho1)) (fun _ h_ => h_.1)); replace HO_661001 := Aside0.mk (Kd.R_mono (Kd.R_told (Kd.R_told (Kd.R_old (ra (fm3_ HO_661001 BK702)) hb) (Kd.R_base ho0)) (Kd.R_base ho1)) (fun _ h_ => h_.1)); replace HO_661002 := Aside0.mk (Kd.R_elder' (ra (fm3_ HO_661002 BK702)) (Kd.R_base ho2) hb); replace HO_672000 := Aside0.mk (Kd.R_mono (Kd.R_told (Kd.R_told (Kd.R_old (ra (fm3_ HO_672000 BK702)) hb) (Kd.R_base ho0)) (Kd.R_base ho1)) (fun _ h_ => h_.1)); replace HO_672001 := Aside0.mk (Kd.R_mono (Kd.R_told (Kd.R_told (Kd.R_old (ra (fm3_ HO_672001 BK702)) hb) (Kd.R_base ho0)) (Kd.R_base ho1)) (fun _ h_ => h_.1)); replace HO_672002 := Aside0.mk (Kd.R_elder' (ra (fm3_ HO_672002 BK702)) (Kd.R_base ho2) hb); replace HO684 := Aside0.mk (Kd.R_mono (Kd.R_told (Kd.R_told (Kd.R_old (ra (fm3_ HO684 BK702)) hb) (Kd.R_base ho0)) (Kd.R_base ho1)) (fun _ h_ => h_.1)); replace HO687 := Aside0.mk (Kd.R_mono (Kd.R_told (Kd.R_told (Kd.R_old (ra (fm3_ HO687 BK702)) hb) (Kd.R_base ho0)) (Kd.R_base ho1)) (fun _ h_ => h_.1)); replace HO690 := Aside0.mk (Kd.R_elder' (ra (fm3_ HO690 BK702)) (Kd.R_base ho2) hb); replace HO694 := Aside0.mk (Kd.R_mono (Kd.R_told (Kd.R_told (Kd.R_old (ra (fm3_ HO694 BK702)) hb) (Kd.R_base ho0)) (Kd.R_base ho1)) (fun _ h_ => h_.1)); replace HO697 := Aside0.mk (Kd.R_mono (Kd.R_told (Kd.R_told (Kd.R_old (ra (fm3_ HO697 BK702)) hb) (Kd.R_base ho0)) (Kd.R_base ho1)) (fun _ h_ => h_.1)); replace HO700 := Aside0.mk (Kd.R_elder' (ra (fm3_ HO700 BK702)) (Kd.R_base ho2) hb); replace BK648 := Aside0.mk (blk_below (bx BK648) hb); replace BK649 := Aside0.mk (blk_below (bx BK649) hb); replace BK660 := Aside0.mk (blk_below (bx BK660) hb); replace BK671 := Aside0.mk (blk_below (bx BK671) hb); replace BK691 := Aside0.mk (blk_below (bx BK691) hb); replace BK702 := Aside0.mk (blk_below (g := gb702) (o := .cells #[.slice Ao163 t692.length co163, .slice Ao170 t695.length co170, .slice Ao171 t698.length co171] 26 (0, 0)) (bw0_ BK702) hb); replace HB := bst_ HB hb; clear hb ho0 ho1 ho2) | ((with_reducible refine gate_dst (N := 15) rfl ?_); refine bx_ev 15 #[.slice none 0 0, .slice none 0 0, .slice none 0 0] 26 ?_; intro gb713 hg w174 hbox hb; have BK713 := Aside0.mk (hbox); have GW713 := gw_ hg HB; have GE713 := gw_ hg HB; have NB648_713 := nl_ hg BK648; have NB713_648 := ng_ hg BK648; have NB649_713 := nl_ hg BK649; have NB713_649 := ng_ hg BK649; have NB660_713 := nl_ hg BK660; have NB713_660 := ng_ hg BK660; have NB671_713 := nl_ hg BK671; have NB713_671 := ng_ hg BK671; have NB691_713 := nl_ hg BK691; have NB713_691 := ng_ hg BK691; have NB702_713 := nl_ hg BK702; have NB713_702 := ng_ hg BK702; replace HO_649000 := rb_ HO_649000 hb; replace HO_649001 := rb_ HO_649001 hb; replace HO_649002 := rb_ HO_649002 hb; replace HO_661000 := rb_ HO_661000 hb; replace HO_661001 := rb_ HO_661001 hb; replace HO_661002 := rb_ HO_661002 hb; replace HO_672000 := rb_ HO_672000 hb; replace HO_672001 := rb_ HO_672001 hb; replace HO_672002 := rb_ HO_672002 hb; replace HO684 := rb_ HO684 hb; replace HO687 := rb_ HO687 hb; replace HO690 := rb_ HO690 hb; replace HO694 := rb_ HO694 hb; replace HO697 := rb_ HO697 hb; replace HO700 := rb_ HO700 hb; replace HO705 := rb_ HO705 hb; replace HO708 := rb_ HO708 hb; replace HO711 := rb_ HO711 hb; replace BK648 := bb_ BK648 hb; replace BK649 := bb_ BK649 hb; replace BK660 := bb_ BK660 hb; replace BK671 := bb_ BK671 hb; replace BK691 := bb_ BK691 hb; replace BK702 := bb_ BK702 hb; replace HB := bst_ HB hb; clear hb hbox hg; obtain ⟨Ao175, co175, eo175⟩ := Kd.R_slice HO705.out; subst eo175; obtain ⟨hnb176, hnc176⟩ := nn_ NB713_648; obtain ⟨hnb177, hnc177⟩ := nn_ NB713_649; obtain ⟨hnb178, hnc178⟩ := nn_ NB713_660; obtain ⟨hnb179, hnc179⟩ := nn_ NB713_671; obtain ⟨hnb180, hnc180⟩ := nn_ NB713_691; obtain ⟨hnb181, hnc181⟩ := nn_ NB713_702; obtain ⟨hcz182_0, hcz182_1, hcz182_2⟩ := bcs3_ BK713; obtain ⟨hfz182_0, hfz182_1, hfz182_2⟩ := bz3_ BK713; obtain ⟨Ao183, co183, eo183⟩ := Kd.R_slice HO708.out; subst eo183; obtain ⟨Ao184, co184, eo184⟩ := Kd.R_slice HO711.out; subst eo184; obtain ⟨hcz185_0, hcz185_1, hcz185_2⟩ := bcs3_ BK691; obtain ⟨hfz185_0, hfz185_1, hfz185_2⟩ := bz3_ BK691) | ((with_reducible refine gate_dst (N := 151) rfl ?_); refine goesL_ (some 151) rfl rfl Try.func13 (by kernel_rfl) rfl #[.agg #[.slice Ao153 t682.length co153, .slice Ao159 t685.length co159, .slice Ao160 t688.length co160]] rfl tm_ ?_; (with_reducible refine (impl_AreBoth.calls kj51 _ _ t682 _ _ t685 _ _ t688 t714 t715 _ ?side1 ?side2 ?side3 ?side4 ?side5 ?side6 A139.out).mono ?_); (case side1 => exact rr_ (fm3_ HO684 BK713)); (case side2 => exact (Kd.R_reads' HO684.out).2.1); (case side3 => exact rr_ (fm3_ HO687 BK713)); (case side4 => exact (Kd.R_reads' HO687.out).2.1); (case side5 => exact rr_ (fm3_ HO690 BK713)); (case side6 => exact (Kd.R_reads' HO690.out).2.1); rintro e w186 ⟨rfl, hb⟩; refine ⟨_, rfl, ?_⟩; replace HO_649000 := rb3_ HO_649000 BK713 hb; replace HO_649001 := rb3_ HO_649001 BK713 hb; replace HO_649002 := rb3_ HO_649002 BK713 hb; replace HO_661000 := rb3_ HO_661000 BK713 hb; replace HO_661001 := rb3_ HO_661001 BK713 hb; replace HO_661002 := rb3_ HO_661002 BK713 hb; replace HO_672000 := rb3_ HO_672000 BK713 hb; replace HO_672001 := rb3_ HO_672001 BK713 hb; replace HO_672002 := rb3_ HO_672002 BK713 hb; replace HO684 := rb3_ HO684 BK713 hb; replace HO687 := rb3_ HO687 BK713 hb; replace HO690 := rb3_ HO690 BK713 hb; replace HO694 := rb3_ HO694 BK713 hb; replace HO697 := rb3_ HO697 BK713 hb; replace HO700 := rb3_ HO700 BK713 hb; replace HO705 := rb3_ HO705 BK713 hb; replace HO708 := rb3_ HO708 BK713 hb; replace HO711 := rb3_ HO711 BK713 hb; replace BK648 := Aside0.mk (blk_below (bx BK648) hb); replace BK649 := Aside0.mk (blk_below (bx BK649) hb); replace BK660 := Aside0.mk (blk_below (bx BK660) hb); replace BK671 := Aside0.mk (blk_below (bx BK671) hb); replace BK691 := Aside0.mk (blk_below (bx BK691) hb); replace BK702 := Aside0.mk (blk_below (bx BK702) hb); replace BK713 := Aside0.mk (blk_below (g := gb713) (o := .cells #[.slice Ao175 t703.length co175, .slice Ao183 t706.length co183, .slice Ao184 t709.length co184] 26 (0, 0)) (bw0_ BK713) hb); replace HB := bst_ HB hb; clear hb; obtain ⟨hcz187_0, hcz187_1, hcz187_2⟩ := bcs3_ BK691; obtain ⟨hfz187_0, hfz187_1, hfz187_2⟩ := bz3_ BK691) | ((with_reducible refine gate_dst (N := 156) rfl ?_); refine goesL_ (some 156) rfl rfl Try.func14 (by kernel_rfl) rfl #[.agg #[.slice Ao153 t682.length co153, .slice Ao159 t685.length co159, .slice Ao160 t688.length co160]] rfl tm_ ?_; (with_reducible refine (spec_AreBoth.calls kj51 _ _ t682 _ _ t685 _ _ t688 t716 t717 _ ?side1 ?side2 ?side3 ?side4 ?side5 ?side6 A140.out).mono ?_); (case side1 => exact ca (Kd.R_reads' HO684.out).2.2); (case side2 => exact (Kd.R_reads' HO684.out).2.1); (case side3 => exact ca (Kd.R_reads' HO687.out).2.2); (case side4 => exact (Kd.R_reads' HO687.out).2.1); (case side5 => exact ca (Kd.R_reads' HO690.out).2.2); (case side6 => exact (Kd.R_reads' HO690.out).2.1); rintro e w188 ⟨rfl, hb⟩; refine ⟨_, rfl, ?_⟩; replace HO_649000 := rb_ HO_649000 hb; replace HO_649001 := rb_ HO_649001 hb; replace HO_649002 := rb_ HO_649002 hb; replace HO_661000 := rb_ HO_661000 hb; replace HO_661001 := rb_ HO_661001 hb; replace HO_661002 := rb_ HO_661002 hb; replace HO_672000 := rb_ HO_672000 hb; replace HO_672001 := rb_ HO_672001 hb; replace HO_672002 := rb_ HO_672002 hb; replace HO684 := rb_ HO684 hb; replace HO687 := rb_ HO687 hb; replace HO690 := rb_ HO690 hb; replace HO694 := rb_ HO694 hb; replace HO697 := rb_ HO697 hb; replace HO700 := rb_ HO700 hb; replace HO705 := rb_ HO705 hb; replace HO708 := rb_ HO708 hb; replace HO711 := rb_ HO711 hb; replace BK648 := bb_ BK648 hb; replace BK649 := bb_ BK649 hb; replace BK660 := bb_ BK660 hb; replace BK671 := bb_ BK671 hb; replace BK691 := bb_ BK691 hb; replace BK702 := bb_ BK702 hb; replace BK713 := bb_ BK713 hb; replace HB := bst_ HB hb; clear hb) | ((with_reducible refine gate_dst (N := 160) rfl ?_); refine goesL_ (some 160) rfl rfl Try.func15 (by kernel_rfl) rfl #[.slice A1 l1.length c1] rfl tm_ ?_; (with_reducible refine (spec_DrawNewPair.calls _ _ l1 t718 _ ?side1 ?side2 A141.out).mono ?_); (case side1 => exact cb_ HR1 HB); (case side2 => exact HC1.out); rintro e w189 ⟨rfl, hb⟩; refine ⟨_, rfl, ?_⟩; replace HO_649000 := rb_ HO_649000 hb; replace HO_649001 := rb_ HO_649001 hb; replace HO_649002 := rb_ HO_649002 hb; replace HO_661000 := rb_ HO_661000 hb; replace HO_661001 := rb_ HO_661001 hb; replace HO_661002 := rb_ HO_661002 hb; replace HO_672000 := rb_ HO_672000 hb; replace HO_672001 := rb_ HO_672001 hb; replace HO_672002 := rb_ HO_672002 hb; replace HO684 := rb_ HO684 hb; replace HO687 := rb_ HO687 hb; replace HO690 := rb_ HO690 hb; replace HO694 := rb_ HO694 hb; replace HO697 := rb_ HO697 hb; replace HO700 := rb_ HO700 hb; replace HO705 := rb_ HO705 hb; replace HO708 := rb_ HO708 hb; replace HO711 := rb_ HO711 hb; replace BK648 := bb_ BK648 hb; replace BK649 := bb_ BK649 hb; replace BK660 := bb_ BK660 hb; replace BK671 := bb_ BK671 hb; replace BK691 := bb_ BK691 hb; replace BK702 := bb_ BK702 hb; replace BK713 := bb_ BK713 hb; replace HB := bst_ HB hb; clear hb) | ((with_reducible refine gate_dst (N := 163) rfl ?_); refine goesL_ (some 163) rfl rfl Try.func16 (by kernel_rfl) rfl #[.int .i64 t718] rfl tm_ ?_; (with_reducible refine (impl_NewPair.calls t718 t719 t722 t725 t728 _ A142.out).mono ?_); rintro e w190 ⟨v720, v723, v726, rfl, ho0, ho1, ho2, hb⟩; refine ⟨_, rfl, ?_⟩; have HO721 := Aside0.mk (Kd.R_lower (Kd.R_new' (Kd.R_new' (Kd.R_new' (Kd.R_new' (Kd.R_new' (Kd.R_new' (Kd.R_new' (Kd.R_new' (Kd.R_new' (Kd.R_new' (Kd.R_new' (Kd.R_new' ho0 (rl_ HO_649000)) (rl_ HO_649001)) (rl_ HO_661000)) (rl_ HO_661001)) (rl_ HO_672000)) (rl_ HO_672001)) (rl_ HO684)) (rl_ HO687)) (rl_ HO694)) (rl_ HO697)) (rl_ HO705)) (rl_ HO708)) (below_size (hB HB))); have HO724 := Aside0.mk (Kd.R_lower (Kd.R_new' (Kd.R_new' (Kd.R_new' (Kd.R_new' (Kd.R_new' (Kd.R_new' (Kd.R_new' (Kd.R_new' (Kd.R_new' (Kd.R_new' (Kd.R_new' (Kd.R_new' ho1 (rl_ HO_649000)) (rl_ HO_649001)) (rl_ HO_661000)) (rl_ HO_661001)) (rl_ HO_672000)) (rl_ HO_672001)) (rl_ HO684)) (rl_ HO687)) (rl_ HO694)) (rl_ HO697)) (rl_ HO705)) (rl_ HO708)) (below_size (hB HB))); have HO727 := Aside0.mk (Kd.R_lower (Kd.R_new' (Kd.R_new' (Kd.R_new' (Kd.R_new' (Kd.R_new' (Kd.R_new' ho2 (rl_ HO_649002)) (rl_ HO_661002)) (rl_ HO_672002)) (rl_ HO690)) (rl_ HO700)) (rl_ HO711)) (below_size (hB HB))); replace HO_649000 := rt2_ HO_649000 hb ho0 ho1; replace HO_649001 := rt2_ HO_649001 hb ho0 ho1; replace HO_649002 := re_ HO_649002 ho2 hb; replace HO_661000 := rt2_ HO_661000 hb ho0 ho1; replace HO_661001 := rt2_ HO_661001 hb ho0 ho1; replace HO_661002 := re_ HO_661002 ho2 hb; replace HO_672000 := rt2_ HO_672000 hb ho0 ho1; replace HO_672001 := rt2_ HO_672001 hb ho0 ho1; replace HO_672002 := re_ HO_672002 ho2 hb; replace HO684 := rt2_ HO684 hb ho0 ho1; replace HO687 := rt2_ HO687 hb ho0 ho1; replace HO690 := re_ HO690 ho2 hb; replace HO694 := rt2_ HO694 hb ho0 ho1; replace HO697 := rt2_ HO697 hb ho0 ho1; replace HO700 := re_ HO700 ho2 hb; replace HO705 := rt2_ HO705 hb ho0 ho1; replace HO708 := rt2_ HO708 hb ho0 ho1; replace HO711 := re_ HO711 ho2 hb; replace BK648 := bb_ BK648 hb; replace BK649 := bb_ BK649 hb; replace BK660 := bb_ BK660 hb; replace BK671 := bb_ BK671 hb; replace BK691 := bb_ BK691 hb; replace BK702 := bb_ BK702 hb; replace BK713 := bb_ BK713 hb; replace HB := bst_ HB hb; clear hb ho0 ho1 ho2) | ((with_reducible refine gate_dst (N := 22) rfl ?_); refine bx_ev 22 #[.slice none 0 0, .slice none 0 0, .slice none 0 0] 26 ?_; intro gb729 hg w191 hbox hb; have BK729 := Aside0.mk (hbox); have GW729 := gw_ hg HB; have GE729 := gw_ hg HB; have NB648_729 := nl_ hg BK648; have NB729_648 := ng_ hg BK648; have NB649_729 := nl_ hg BK649; have NB729_649 := ng_ hg BK649; have NB660_729 := nl_ hg BK660; have NB729_660 := ng_ hg BK660; have NB671_729 := nl_ hg BK671; have NB729_671 := ng_ hg BK671; have NB691_729 := nl_ hg BK691; have NB729_691 := ng_ hg BK691; have NB702_729 := nl_ hg BK702; have NB729_702 := ng_ hg BK702; have NB713_729 := nl_ hg BK713; have NB729_713 := ng_ hg BK713; replace HO_649000 := rb_ HO_649000 hb; replace HO_649001 := rb_ HO_649001 hb; replace HO_649002 := rb_ HO_649002 hb; replace HO_661000 := rb_ HO_661000 hb; replace HO_661001 := rb_ HO_661001 hb; replace HO_661002 := rb_ HO_661002 hb; replace HO_672000 := rb_ HO_672000 hb; replace HO_672001 := rb_ HO_672001 hb; replace HO_672002 := rb_ HO_672002 hb; replace HO684 := rb_ HO684 hb; replace HO687 := rb_ HO687 hb; replace HO690 := rb_ HO690 hb; replace HO694 := rb_ HO694 hb; replace HO697 := rb_ HO697 hb; replace HO700 := rb_ HO700 hb; replace HO705 := rb_ HO705 hb; replace HO708 := rb_ HO708 hb; replace HO711 := rb_ HO711 hb; replace HO721 := rb_ HO721 hb; replace HO724 := rb_ HO724 hb; replace HO727 := rb_ HO727 hb; replace BK648 := bb_ BK648 hb; replace BK649 := bb_ BK649 hb; replace BK660 := bb_ BK660 hb; replace BK671 := bb_ BK671 hb; replace BK691 := bb_ BK691 hb; replace BK702 := bb_ BK702 hb; replace BK713 := bb_ BK713 hb; replace HB := bst_ HB hb; clear hb hbox hg; obtain ⟨Ao192, co192, eo192⟩ := Kd.R_slice HO721.out; subst eo192; obtain ⟨hnb193, hnc193⟩ := nn_ NB729_648; obtain ⟨hnb194, hnc194⟩ := nn_ NB729_649; obtain ⟨hnb195, hnc195⟩ := nn_ NB729_660; obtain ⟨hnb196, hnc196⟩ := nn_ NB729_671; obtain ⟨hnb197, hnc197⟩ := nn_ NB729_691; obtain ⟨hnb198, hnc198⟩ := nn_ NB729_702; obtain ⟨hnb199, hnc199⟩ := nn_ NB729_713; obtain ⟨hcz200_0, hcz200_1, hcz200_2⟩ := bcs3_ BK729; obtain ⟨hfz200_0, hfz200_1, hfz200_2⟩ := bz3_ BK729; obtain ⟨Ao201, co201, eo201⟩ := Kd.R_slice HO724.out; subst eo201; obtain ⟨Ao202, co202, eo202⟩ := Kd.R_slice HO727.out; subst eo202) | ((with_reducible refine gate_dst (N := 168) rfl ?_); refine goesL_ (some 168) rfl rfl Try.func17 (by kernel_rfl) rfl #[.int .i64 t718] rfl tm_ ?_; (with_reducible refine (spec_NewPair.calls t718 t730 t733 t736 t739 _ A143.out).mono ?_); rintro e w203 ⟨v731, v734, v737, rfl, ho0, ho1, ho2, hb⟩; refine ⟨_, rfl, ?_⟩; have HO732 := Aside0.mk (Kd.R_lower (Kd.R_new' (Kd.R_new' (Kd.R_new' (Kd.R_new' (Kd.R_new' (Kd.R_new' (Kd.R_new' (Kd.R_new' (Kd.R_new' (Kd.R_new' (Kd.R_new' (Kd.R_new' (Kd.R_new' (Kd.R_new' ho0 (Kd.R_lt (ra (fm3_ HO_649000 BK729)))) (Kd.R_lt (ra (fm3_ HO_649001 BK729)))) (Kd.R_lt (ra (fm3_ HO_661000 BK729)))) (Kd.R_lt (ra (fm3_ HO_661001 BK729)))) (Kd.R_lt (ra (fm3_ HO_672000 BK729)))) (Kd.R_lt (ra (fm3_ HO_672001 BK729)))) (Kd.R_lt (ra (fm3_ HO684 BK729)))) (Kd.R_lt (ra (fm3_ HO687 BK729)))) (Kd.R_lt (ra (fm3_ HO694 BK729)))) (Kd.R_lt (ra (fm3_ HO697 BK729)))) (Kd.R_lt (ra (fm3_ HO705 BK729)))) (Kd.R_lt (ra (fm3_ HO708 BK729)))) (Kd.R_lt (ra (fm3_ HO721 BK729)))) (Kd.R_lt (ra (fm3_ HO724 BK729)))) (below_size (hB HB))); have HO735 := Aside0.mk (Kd.R_lower (Kd.R_new' (Kd.R_new' (Kd.R_new' (Kd.R_new' (Kd.R_new' (Kd.R_new' (Kd.R_new' (Kd.R_new' (Kd.R_new' (Kd.R_new' (Kd.R_new' (Kd.R_new' (Kd.R_new' (Kd.R_new' ho1 (Kd.R_lt (ra (fm3_ HO_649000 BK729)))) (Kd.R_lt (ra (fm3_ HO_649001 BK729)))) (Kd.R_lt (ra (fm3_ HO_661000 BK729)))) (Kd.R_lt (ra (fm3_ HO_661001 BK729)))) (Kd.R_lt (ra (fm3_ HO_672000 BK729)))) (Kd.R_lt (ra (fm3_ HO_672001 BK729)))) (Kd.R_lt (ra (fm3_ HO684 BK729)))) (Kd.R_lt (ra (fm3_ HO687 BK729)))) (Kd.R_lt (ra (fm3_ HO694 BK729)))) (Kd.R_lt (ra (fm3_ HO697 BK729)))) (Kd.R_lt (ra (fm3_ HO705 BK729)))) (Kd.R_lt (ra (fm3_ HO708 BK729)))) (Kd.R_lt (ra (fm3_ HO721 BK729)))) (Kd.R_lt (ra (fm3_ HO724 BK729)))) (below_size (hB HB))); have HO738 := Aside0.mk (Kd.R_lower (Kd.R_new' (Kd.R_new' (Kd.R_new' (Kd.R_new' (Kd.R_new' (Kd.R_new' (Kd.R_new' ho2 (Kd.R_lt (ra (fm3_ HO_649002 BK729)))) (Kd.R_lt (ra (fm3_ HO_661002 BK729)))) (Kd.R_lt (ra (fm3_ HO_672002 BK729)))) (Kd.R_lt (ra (fm3_ HO690 BK729)))) (Kd.R_lt (ra (fm3_ HO700 BK729)))) (Kd.R_lt (ra (fm3_ HO711 BK729)))) (Kd.R_lt (ra (fm3_ HO727 BK729)))) (below_size (hB HB))); replace HO_649000 := Aside0.mk (Kd.R_mono (Kd.R_told (Kd.R_told (Kd.R_old (ra (fm3_ HO_649000 BK729)) hb) (Kd.R_base ho0)) (Kd.R_base ho1)) (fun _ h_ => h_.1)); replace HO_649001 := Aside0.mk (Kd.R_mono (Kd.R_told (Kd.R_told (Kd.R_old (ra (fm3_ HO_649001 BK729)) hb) (Kd.R_base ho0)) (Kd.R_base ho1)) (fun _ h_ => h_.1)); replace HO_649002 := Aside0.mk (Kd.R_elder' (ra (fm3_ HO_649002 BK729)) (Kd.R_base ho2) hb); replace HO_661000 := Aside0.mk (Kd.R_mono (Kd.R_told (Kd.R_told (Kd.R_old (ra (fm3_ HO_661000 BK729)) hb) (Kd.R_base ho0)) (Kd.R_base ho1)) (fun _ h_ => h_.1)); replace HO_661001 := Aside0.mk (Kd.R_mono (Kd.R_told (Kd.R_told (Kd.R_old (ra (fm3_ HO_661001 BK729)) hb) (Kd.R_base ho0)) (Kd.R_base ho1)) (fun _ h_ => h_.1)); replace HO_661002 := Aside0.mk (Kd.R_elder' (ra (fm3_ HO_661002 BK729)) (Kd.R_base ho2) hb); replace HO_672000 := Aside0.mk (Kd.R_mono (Kd.R_told (Kd.R_told (Kd.R_old (ra (fm3_ HO_672000 BK729)) hb) (Kd.R_base ho0)) (Kd.R_base ho1)) (fun _ h_ => h_.1)); replace HO_672001 := Aside0.mk (Kd.R_mono (Kd.R_told (Kd.R_told (Kd.R_old (ra (fm3_ HO_672001 BK729)) hb) (Kd.R_base ho0)) (Kd.R_base ho1)) (fun _ h_ => h_.1)); replace HO_672002 := Aside0.mk (Kd.R_elder' (ra (fm3_ HO_672002 BK729)) (Kd.R_base ho2) hb); replace HO684 := Aside0.mk (Kd.R_mono (Kd.R_told (Kd.R_told (Kd.R_old (ra (fm3_ HO684 BK729)) hb) (Kd.R_base ho0)) (Kd.R_base ho1)) (fun _ h_ => h_.1)); replace HO687 := Aside0.mk (Kd.R_mono (Kd.R_told (Kd.R_told (Kd.R_old (ra (fm3_ HO687 BK729)) hb) (Kd.R_base ho0)) (Kd.R_base ho1)) (fun _ h_ => h_.1)); replace HO690 := Aside0.mk (Kd.R_elder' (ra (fm3_ HO690 BK729)) (Kd.R_base ho2) hb); replace HO694 := Aside0.mk (Kd.R_mono (Kd.R_told (Kd.R_told (Kd.R_old (ra (fm3_ HO694 BK729)) hb) (Kd.R_base ho0)) (Kd.R_base ho1)) (fun _ h_ => h_.1)); replace HO697 := Aside0.mk (Kd.R_mono (Kd.R_told (Kd.R_told (Kd.R_old (ra (fm3_ HO697 BK729)) hb) (Kd.R_base ho0)) (Kd.R_base ho1)) (fun _ h_ => h_.1)); replace HO700 := Aside0.mk (Kd.R_elder' (ra (fm3_ HO700 BK729)) (Kd.R_base ho2) hb); replace HO705 := Aside0.mk (Kd.R_mono (Kd.R_told (Kd.R_told (Kd.R_old (ra (fm3_ HO705 BK729)) hb) (Kd.R_base ho0)) (Kd.R_base ho1)) (fun _ h_ => h_.1)); replace HO708 := Aside0.mk (Kd.R_mono (Kd.R_told (Kd.R_told (Kd.R_old (ra (fm3_ HO708 BK729)) hb) (Kd.R_base ho0)) (Kd.R_base ho1)) (fun _ h_ => h_.1)); replace HO711 := Aside0.mk (Kd.R_elder' (ra (fm3_ HO711 BK729)) (Kd.R_base ho2) hb); replace HO721 := Aside0.mk (Kd.R_mono (Kd.R_told (Kd.R_told (Kd.R_old (ra (fm3_ HO721 BK729)) hb) (Kd.R_base ho0)) (Kd.R_base ho1)) (fun _ h_ => h_.1)); replace HO724 := Aside0.mk (Kd.R_mono (Kd.R_told (Kd.R_told (Kd.R_old (ra (fm3_ HO724 BK729)) hb) (Kd.R_base ho0)) (Kd.R_base ho1)) (fun _ h_ => h_.1)); replace HO727 := Aside0.mk (Kd.R_elder' (ra (fm3_ HO727 BK729)) (Kd.R_base ho2) hb); replace BK648 := Aside0.mk (blk_below (bx BK648) hb); replace BK649 := Aside0.mk (blk_below (bx BK649) hb); replace BK660 := Aside0.mk (blk_below (bx BK660) hb); replace BK671 := Aside0.mk (blk_below (bx BK671) hb); replace BK691 := Aside0.mk (blk_below (bx BK691) hb); replace BK702 := Aside0.mk (blk_below (bx BK702) hb); replace BK713 := Aside0.mk (blk_below (bx BK713) hb); replace BK729 := Aside0.mk (blk_below (g := gb729) (o := .cells #[.slice Ao192 t719.length co192, .slice Ao201 t722.length co201, .slice Ao202 t725.length co202] 26 (0, 0)) (bw0_ BK729) hb); replace HB := bst_ HB hb; clear hb ho0 ho1 ho2) | ((with_reducible refine gate_dst (N := 24) rfl ?_); refine bx_ev 24 #[.slice none 0 0, .slice none 0 0, .slice none 0 0] 26 ?_; intro gb740 hg w204 hbox hb; have BK740 := Aside0.mk (hbox); have GW740 := gw_ hg HB; have GE740 := gw_ hg HB; have NB648_740 := nl_ hg BK648; have NB740_648 := ng_ hg BK648; have NB649_740 := nl_ hg BK649; have NB740_649 := ng_ hg BK649; have NB660_740 := nl_ hg BK660; have NB740_660 := ng_ hg BK660; have NB671_740 := nl_ hg BK671; have NB740_671 := ng_ hg BK671; have NB691_740 := nl_ hg BK691; have NB740_691 := ng_ hg BK691; have NB702_740 := nl_ hg BK702; have NB740_702 := ng_ hg BK702; have NB713_740 := nl_ hg BK713; have NB740_713 := ng_ hg BK713; have NB729_740 := nl_ hg BK729; have NB740_729 := ng_ hg BK729; replace HO_649000 := rb_ HO_649000 hb; replace HO_649001 := rb_ HO_649001 hb; replace HO_649002 := rb_ HO_649002 hb; replace HO_661000 := rb_ HO_661000 hb; replace HO_661001 := rb_ HO_661001 hb; replace HO_661002 := rb_ HO_661002 hb; replace HO_672000 := rb_ HO_672000 hb; replace HO_672001 := rb_ HO_672001 hb; replace HO_672002 := rb_ HO_672002 hb; replace HO684 := rb_ HO684 hb; replace HO687 := rb_ HO687 hb; replace HO690 := rb_ HO690 hb; replace HO694 := rb_ HO694 hb; replace HO697 := rb_ HO697 hb; replace HO700 := rb_ HO700 hb; replace HO705 := rb_ HO705 hb; replace HO708 := rb_ HO708 hb; replace HO711 := rb_ HO711 hb; replace HO721 := rb_ HO721 hb; replace HO724 := rb_ HO724 hb; replace HO727 := rb_ HO727 hb; replace HO732 := rb_ HO732 hb; replace HO735 := rb_ HO735 hb; replace HO738 := rb_ HO738 hb; replace BK648 := bb_ BK648 hb; replace BK649 := bb_ BK649 hb; replace BK660 := bb_ BK660 hb; replace BK671 := bb_ BK671 hb; replace BK691 := bb_ BK691 hb; replace BK702 := bb_ BK702 hb; replace BK713 := bb_ BK713 hb; replace BK729 := bb_ BK729 hb; replace HB := bst_ HB hb; clear hb hbox hg; obtain ⟨Ao205, co205, eo205⟩ := Kd.R_slice HO732.out; subst eo205; obtain ⟨hnb206, hnc206⟩ := nn_ NB740_648; obtain ⟨hnb207, hnc207⟩ := nn_ NB740_649; obtain ⟨hnb208, hnc208⟩ := nn_ NB740_660; obtain ⟨hnb209, hnc209⟩ := nn_ NB740_671; obtain ⟨hnb210, hnc210⟩ := nn_ NB740_691; obtain ⟨hnb211, hnc211⟩ := nn_ NB740_702; obtain ⟨hnb212, hnc212⟩ := nn_ NB740_713; obtain ⟨hnb213, hnc213⟩ := nn_ NB740_729; obtain ⟨hcz214_0, hcz214_1, hcz214_2⟩ := bcs3_ BK740; obtain ⟨hfz214_0, hfz214_1, hfz214_2⟩ := bz3_ BK740; obtain ⟨Ao215, co215, eo215⟩ := Kd.R_slice HO735.out; subst eo215; obtain ⟨Ao216, co216, eo216⟩ := Kd.R_slice HO738.out; subst eo216; obtain ⟨hcz217_0, hcz217_1, hcz217_2⟩ := bcs3_ BK702; obtain ⟨hfz217_0, hfz217_1, hfz217_2⟩ := bz3_ BK702; obtain ⟨hcz218_0, hcz218_1, hcz218_2⟩ := bcs3_ BK713; obtain ⟨hfz218_0, hfz218_1, hfz218_2⟩ := bz3_ BK713))
          by_cases c144 : (t701 == t712) = true
          rotate_left
          ·rw [if_neg c144] at H
           have c144b0 : (t701 == t712) = false := by simpa using c144
           (try (have c144b1 : decide (t701 = t712) = false := by simpa using c144))
           (try (have c144b2 : (t701 == t712) = false := by simpa using c144))
           (try (have c144b3 : ¬ (t701 = t712) := by simpa using c144))
           clear c144
           obtain rfl := Option.some.inj H
           go_wp2
           go_ret
           exact ⟨rt_, hB HB⟩
          rw [if_pos c144] at H
          have c144b0 : (t701 == t712) = true := c144
          (try (have c144b1 : decide (t701 = t712) = true := by simpa using c144))
          (try (have c144b2 : (t701 == t712) = true := by simpa using c144))
          clear c144
          replace H := Option.bind_eq_some_iff.mp H
          obtain ⟨t741, A1450, H⟩ := H
          replace H : (if t741 = true then (if (t715 == t717) = true then (if (t714 == t716) = true then (if (t728 == t739) = true then ((laws_samePair.f kj51 t719 t722 t725 t730 t733 t736).bind fun t742 => (some t742)) else (some false)) else (some false)) else (some false)) else (some false)) = some r := H
          have A145 := Aside0.mk A1450
          clear A1450
          by_cases c146 : t741 = true
          rotate_left
          ·replace c146 := Bool.eq_false_iff.mpr c146
           subst c146
           rw [if_neg (show ¬ (false = true) by decide)] at H
           obtain rfl := Option.some.inj H
           as_aux_lemma =>
            go_wp2_with (first | (go_at_call 7; (with_reducible refine (laws_samePair.calls kj51 _ _ t692 _ _ t695 _ _ t698 _ _ t703 _ _ t706 _ _ t709 false _ ?side1 ?side2 ?side3 ?side4 ?side5 ?side6 ?side7 ?side8 ?side9 ?side10 ?side11 ?side12 A145.out).mono ?_); (case side1 => exact rr_ (fm3_ HO694 BK740)); (case side2 => exact (Kd.R_reads' HO694.out).2.1); (case side3 => exact rr_ (fm3_ HO697 BK740)); (case side4 => exact (Kd.R_reads' HO697.out).2.1); (case side5 => exact rr_ (fm3_ HO700 BK740)); (case side6 => exact (Kd.R_reads' HO700.out).2.1); (case side7 => exact rr_ (fm3_ HO705 BK740)); (case side8 => exact (Kd.R_reads' HO705.out).2.1); (case side9 => exact rr_ (fm3_ HO708 BK740)); (case side10 => exact (Kd.R_reads' HO708.out).2.1); (case side11 => exact rr_ (fm3_ HO711 BK740)); (case side12 => exact (Kd.R_reads' HO711.out).2.1); rintro e w498 ⟨rfl, hb⟩; replace HO_649000 := rb3_ HO_649000 BK740 hb; replace HO_649001 := rb3_ HO_649001 BK740 hb; replace HO_649002 := rb3_ HO_649002 BK740 hb; replace HO_661000 := rb3_ HO_661000 BK740 hb; replace HO_661001 := rb3_ HO_661001 BK740 hb; replace HO_661002 := rb3_ HO_661002 BK740 hb; replace HO_672000 := rb3_ HO_672000 BK740 hb; replace HO_672001 := rb3_ HO_672001 BK740 hb; replace HO_672002 := rb3_ HO_672002 BK740 hb; replace HO684 := rb3_ HO684 BK740 hb; replace HO687 := rb3_ HO687 BK740 hb; replace HO690 := rb3_ HO690 BK740 hb; replace HO694 := rb3_ HO694 BK740 hb; replace HO697 := rb3_ HO697 BK740 hb; replace HO700 := rb3_ HO700 BK740 hb; replace HO705 := rb3_ HO705 BK740 hb; replace HO708 := rb3_ HO708 BK740 hb; replace HO711 := rb3_ HO711 BK740 hb; replace HO721 := rb3_ HO721 BK740 hb; replace HO724 := rb3_ HO724 BK740 hb; replace HO727 := rb3_ HO727 BK740 hb; replace HO732 := rb3_ HO732 BK740 hb; replace HO735 := rb3_ HO735 BK740 hb; replace HO738 := rb3_ HO738 BK740 hb; replace BK648 := Aside0.mk (blk_below (bx BK648) hb); replace BK649 := Aside0.mk (blk_below (bx BK649) hb); replace BK660 := Aside0.mk (blk_below (bx BK660) hb); replace BK671 := Aside0.mk (blk_below (bx BK671) hb); replace BK691 := Aside0.mk (blk_below (bx BK691) hb); replace BK702 := Aside0.mk (blk_below (bx BK702) hb); replace BK713 := Aside0.mk (blk_below (bx BK713) hb); replace BK729 := Aside0.mk (blk_below (bx BK729) hb); replace BK740 := Aside0.mk (blk_below (g := gb740) (o := .cells #[.slice Ao205 t730.length co205, .slice Ao215 t733.length co215, .slice Ao216 t736.length co216] 26 (0, 0)) (bw0_ BK740) hb); replace HB := bst_ HB hb; clear hb))
            go_ret
            exact ⟨rt_, hB HB⟩
          subst c146
          rw [if_pos rfl] at H
          by_cases c147 : (t715 == t717) = true
          rotate_left
          ·rw [if_neg c147] at H
           have c147b0 : (t715 == t717) = false := by simpa using c147
           (try (have c147b1 : decide (t715 = t717) = false := by simpa using c147))
           (try (have c147b2 : (t715 == t717) = false := by simpa using c147))
           (try (have c147b3 : ¬ (t715 = t717) := by simpa using c147))
           clear c147
           obtain rfl := Option.some.inj H
           as_aux_lemma =>
            go_wp2_with (first | (go_at_call 7; (with_reducible refine (laws_samePair.calls kj51 _ _ t692 _ _ t695 _ _ t698 _ _ t703 _ _ t706 _ _ t709 true _ ?side1 ?side2 ?side3 ?side4 ?side5 ?side6 ?side7 ?side8 ?side9 ?side10 ?side11 ?side12 A145.out).mono ?_); (case side1 => exact rr_ (fm3_ HO694 BK740)); (case side2 => exact (Kd.R_reads' HO694.out).2.1); (case side3 => exact rr_ (fm3_ HO697 BK740)); (case side4 => exact (Kd.R_reads' HO697.out).2.1); (case side5 => exact rr_ (fm3_ HO700 BK740)); (case side6 => exact (Kd.R_reads' HO700.out).2.1); (case side7 => exact rr_ (fm3_ HO705 BK740)); (case side8 => exact (Kd.R_reads' HO705.out).2.1); (case side9 => exact rr_ (fm3_ HO708 BK740)); (case side10 => exact (Kd.R_reads' HO708.out).2.1); (case side11 => exact rr_ (fm3_ HO711 BK740)); (case side12 => exact (Kd.R_reads' HO711.out).2.1); rintro e w219 ⟨rfl, hb⟩; replace HO_649000 := rb3_ HO_649000 BK740 hb; replace HO_649001 := rb3_ HO_649001 BK740 hb; replace HO_649002 := rb3_ HO_649002 BK740 hb; replace HO_661000 := rb3_ HO_661000 BK740 hb; replace HO_661001 := rb3_ HO_661001 BK740 hb; replace HO_661002 := rb3_ HO_661002 BK740 hb; replace HO_672000 := rb3_ HO_672000 BK740 hb; replace HO_672001 := rb3_ HO_672001 BK740 hb; replace HO_672002 := rb3_ HO_672002 BK740 hb; replace HO684 := rb3_ HO684 BK740 hb; replace HO687 := rb3_ HO687 BK740 hb; replace HO690 := rb3_ HO690 BK740 hb; replace HO694 := rb3_ HO694 BK740 hb; replace HO697 := rb3_ HO697 BK740 hb; replace HO700 := rb3_ HO700 BK740 hb; replace HO705 := rb3_ HO705 BK740 hb; replace HO708 := rb3_ HO708 BK740 hb; replace HO711 := rb3_ HO711 BK740 hb; replace HO721 := rb3_ HO721 BK740 hb; replace HO724 := rb3_ HO724 BK740 hb; replace HO727 := rb3_ HO727 BK740 hb; replace HO732 := rb3_ HO732 BK740 hb; replace HO735 := rb3_ HO735 BK740 hb; replace HO738 := rb3_ HO738 BK740 hb; replace BK648 := Aside0.mk (blk_below (bx BK648) hb); replace BK649 := Aside0.mk (blk_below (bx BK649) hb); replace BK660 := Aside0.mk (blk_below (bx BK660) hb); replace BK671 := Aside0.mk (blk_below (bx BK671) hb); replace BK691 := Aside0.mk (blk_below (bx BK691) hb); replace BK702 := Aside0.mk (blk_below (bx BK702) hb); replace BK713 := Aside0.mk (blk_below (bx BK713) hb); replace BK729 := Aside0.mk (blk_below (bx BK729) hb); replace BK740 := Aside0.mk (blk_below (g := gb740) (o := .cells #[.slice Ao205 t730.length co205, .slice Ao215 t733.length co215, .slice Ao216 t736.length co216] 26 (0, 0)) (bw0_ BK740) hb); replace HB := bst_ HB hb; clear hb))
            go_ret
            exact ⟨rt_, hB HB⟩
          rw [if_pos c147] at H
          have c147b0 : (t715 == t717) = true := c147
          (try (have c147b1 : decide (t715 = t717) = true := by simpa using c147))
          (try (have c147b2 : (t715 == t717) = true := by simpa using c147))
          clear c147
          by_cases c148 : (t714 == t716) = true
          rotate_left
          ·rw [if_neg c148] at H
           have c148b0 : (t714 == t716) = false := by simpa using c148
           (try (have c148b1 : decide (t714 = t716) = false := by simpa using c148))
           (try (have c148b2 : (t714 == t716) = false := by simpa using c148))
           (try (have c148b3 : ¬ (t714 = t716) := by simpa using c148))
           clear c148
           obtain rfl := Option.some.inj H
           as_aux_lemma =>
            go_wp2_with (first | (go_at_call 7; (with_reducible refine (laws_samePair.calls kj51 _ _ t692 _ _ t695 _ _ t698 _ _ t703 _ _ t706 _ _ t709 true _ ?side1 ?side2 ?side3 ?side4 ?side5 ?side6 ?side7 ?side8 ?side9 ?side10 ?side11 ?side12 A145.out).mono ?_); (case side1 => exact rr_ (fm3_ HO694 BK740)); (case side2 => exact (Kd.R_reads' HO694.out).2.1); (case side3 => exact rr_ (fm3_ HO697 BK740)); (case side4 => exact (Kd.R_reads' HO697.out).2.1); (case side5 => exact rr_ (fm3_ HO700 BK740)); (case side6 => exact (Kd.R_reads' HO700.out).2.1); (case side7 => exact rr_ (fm3_ HO705 BK740)); (case side8 => exact (Kd.R_reads' HO705.out).2.1); (case side9 => exact rr_ (fm3_ HO708 BK740)); (case side10 => exact (Kd.R_reads' HO708.out).2.1); (case side11 => exact rr_ (fm3_ HO711 BK740)); (case side12 => exact (Kd.R_reads' HO711.out).2.1); rintro e w219 ⟨rfl, hb⟩; replace HO_649000 := rb3_ HO_649000 BK740 hb; replace HO_649001 := rb3_ HO_649001 BK740 hb; replace HO_649002 := rb3_ HO_649002 BK740 hb; replace HO_661000 := rb3_ HO_661000 BK740 hb; replace HO_661001 := rb3_ HO_661001 BK740 hb; replace HO_661002 := rb3_ HO_661002 BK740 hb; replace HO_672000 := rb3_ HO_672000 BK740 hb; replace HO_672001 := rb3_ HO_672001 BK740 hb; replace HO_672002 := rb3_ HO_672002 BK740 hb; replace HO684 := rb3_ HO684 BK740 hb; replace HO687 := rb3_ HO687 BK740 hb; replace HO690 := rb3_ HO690 BK740 hb; replace HO694 := rb3_ HO694 BK740 hb; replace HO697 := rb3_ HO697 BK740 hb; replace HO700 := rb3_ HO700 BK740 hb; replace HO705 := rb3_ HO705 BK740 hb; replace HO708 := rb3_ HO708 BK740 hb; replace HO711 := rb3_ HO711 BK740 hb; replace HO721 := rb3_ HO721 BK740 hb; replace HO724 := rb3_ HO724 BK740 hb; replace HO727 := rb3_ HO727 BK740 hb; replace HO732 := rb3_ HO732 BK740 hb; replace HO735 := rb3_ HO735 BK740 hb; replace HO738 := rb3_ HO738 BK740 hb; replace BK648 := Aside0.mk (blk_below (bx BK648) hb); replace BK649 := Aside0.mk (blk_below (bx BK649) hb); replace BK660 := Aside0.mk (blk_below (bx BK660) hb); replace BK671 := Aside0.mk (blk_below (bx BK671) hb); replace BK691 := Aside0.mk (blk_below (bx BK691) hb); replace BK702 := Aside0.mk (blk_below (bx BK702) hb); replace BK713 := Aside0.mk (blk_below (bx BK713) hb); replace BK729 := Aside0.mk (blk_below (bx BK729) hb); replace BK740 := Aside0.mk (blk_below (g := gb740) (o := .cells #[.slice Ao205 t730.length co205, .slice Ao215 t733.length co215, .slice Ao216 t736.length co216] 26 (0, 0)) (bw0_ BK740) hb); replace HB := bst_ HB hb; clear hb))
            go_ret
            exact ⟨rt_, hB HB⟩
          rw [if_pos c148] at H
          have c148b0 : (t714 == t716) = true := c148
          (try (have c148b1 : decide (t714 = t716) = true := by simpa using c148))
          (try (have c148b2 : (t714 == t716) = true := by simpa using c148))
          clear c148
          by_cases c149 : (t728 == t739) = true
          rotate_left
          ·rw [if_neg c149] at H
           have c149b0 : (t728 == t739) = false := by simpa using c149
           (try (have c149b1 : decide (t728 = t739) = false := by simpa using c149))
           (try (have c149b2 : (t728 == t739) = false := by simpa using c149))
           (try (have c149b3 : ¬ (t728 = t739) := by simpa using c149))
           clear c149
           obtain rfl := Option.some.inj H
           as_aux_lemma =>
            go_wp2_with (first | (go_at_call 7; (with_reducible refine (laws_samePair.calls kj51 _ _ t692 _ _ t695 _ _ t698 _ _ t703 _ _ t706 _ _ t709 true _ ?side1 ?side2 ?side3 ?side4 ?side5 ?side6 ?side7 ?side8 ?side9 ?side10 ?side11 ?side12 A145.out).mono ?_); (case side1 => exact rr_ (fm3_ HO694 BK740)); (case side2 => exact (Kd.R_reads' HO694.out).2.1); (case side3 => exact rr_ (fm3_ HO697 BK740)); (case side4 => exact (Kd.R_reads' HO697.out).2.1); (case side5 => exact rr_ (fm3_ HO700 BK740)); (case side6 => exact (Kd.R_reads' HO700.out).2.1); (case side7 => exact rr_ (fm3_ HO705 BK740)); (case side8 => exact (Kd.R_reads' HO705.out).2.1); (case side9 => exact rr_ (fm3_ HO708 BK740)); (case side10 => exact (Kd.R_reads' HO708.out).2.1); (case side11 => exact rr_ (fm3_ HO711 BK740)); (case side12 => exact (Kd.R_reads' HO711.out).2.1); rintro e w219 ⟨rfl, hb⟩; replace HO_649000 := rb3_ HO_649000 BK740 hb; replace HO_649001 := rb3_ HO_649001 BK740 hb; replace HO_649002 := rb3_ HO_649002 BK740 hb; replace HO_661000 := rb3_ HO_661000 BK740 hb; replace HO_661001 := rb3_ HO_661001 BK740 hb; replace HO_661002 := rb3_ HO_661002 BK740 hb; replace HO_672000 := rb3_ HO_672000 BK740 hb; replace HO_672001 := rb3_ HO_672001 BK740 hb; replace HO_672002 := rb3_ HO_672002 BK740 hb; replace HO684 := rb3_ HO684 BK740 hb; replace HO687 := rb3_ HO687 BK740 hb; replace HO690 := rb3_ HO690 BK740 hb; replace HO694 := rb3_ HO694 BK740 hb; replace HO697 := rb3_ HO697 BK740 hb; replace HO700 := rb3_ HO700 BK740 hb; replace HO705 := rb3_ HO705 BK740 hb; replace HO708 := rb3_ HO708 BK740 hb; replace HO711 := rb3_ HO711 BK740 hb; replace HO721 := rb3_ HO721 BK740 hb; replace HO724 := rb3_ HO724 BK740 hb; replace HO727 := rb3_ HO727 BK740 hb; replace HO732 := rb3_ HO732 BK740 hb; replace HO735 := rb3_ HO735 BK740 hb; replace HO738 := rb3_ HO738 BK740 hb; replace BK648 := Aside0.mk (blk_below (bx BK648) hb); replace BK649 := Aside0.mk (blk_below (bx BK649) hb); replace BK660 := Aside0.mk (blk_below (bx BK660) hb); replace BK671 := Aside0.mk (blk_below (bx BK671) hb); replace BK691 := Aside0.mk (blk_below (bx BK691) hb); replace BK702 := Aside0.mk (blk_below (bx BK702) hb); replace BK713 := Aside0.mk (blk_below (bx BK713) hb); replace BK729 := Aside0.mk (blk_below (bx BK729) hb); replace BK740 := Aside0.mk (blk_below (g := gb740) (o := .cells #[.slice Ao205 t730.length co205, .slice Ao215 t733.length co215, .slice Ao216 t736.length co216] 26 (0, 0)) (bw0_ BK740) hb); replace HB := bst_ HB hb; clear hb))
            go_ret
            exact ⟨rt_, hB HB⟩
          rw [if_pos c149] at H
          have c149b0 : (t728 == t739) = true := c149
          (try (have c149b1 : decide (t728 = t739) = true := by simpa using c149))
          (try (have c149b2 : (t728 == t739) = true := by simpa using c149))
          clear c149
          replace H := Option.bind_eq_some_iff.mp H
          obtain ⟨t742, A1500, H⟩ := H
          replace H : (some t742) = some r := H
          have A150 := Aside0.mk A1500
          clear A1500
          obtain rfl := Option.some.inj H
          as_aux_lemma =>
           go_wp2_with (first | (go_at_call 7; (with_reducible refine (laws_samePair.calls kj51 _ _ t692 _ _ t695 _ _ t698 _ _ t703 _ _ t706 _ _ t709 true _ ?side1 ?side2 ?side3 ?side4 ?side5 ?side6 ?side7 ?side8 ?side9 ?side10 ?side11 ?side12 A145.out).mono ?_); (case side1 => exact rr_ (fm3_ HO694 BK740)); (case side2 => exact (Kd.R_reads' HO694.out).2.1); (case side3 => exact rr_ (fm3_ HO697 BK740)); (case side4 => exact (Kd.R_reads' HO697.out).2.1); (case side5 => exact rr_ (fm3_ HO700 BK740)); (case side6 => exact (Kd.R_reads' HO700.out).2.1); (case side7 => exact rr_ (fm3_ HO705 BK740)); (case side8 => exact (Kd.R_reads' HO705.out).2.1); (case side9 => exact rr_ (fm3_ HO708 BK740)); (case side10 => exact (Kd.R_reads' HO708.out).2.1); (case side11 => exact rr_ (fm3_ HO711 BK740)); (case side12 => exact (Kd.R_reads' HO711.out).2.1); rintro e w219 ⟨rfl, hb⟩; replace HO_649000 := rb3_ HO_649000 BK740 hb; replace HO_649001 := rb3_ HO_649001 BK740 hb; replace HO_649002 := rb3_ HO_649002 BK740 hb; replace HO_661000 := rb3_ HO_661000 BK740 hb; replace HO_661001 := rb3_ HO_661001 BK740 hb; replace HO_661002 := rb3_ HO_661002 BK740 hb; replace HO_672000 := rb3_ HO_672000 BK740 hb; replace HO_672001 := rb3_ HO_672001 BK740 hb; replace HO_672002 := rb3_ HO_672002 BK740 hb; replace HO684 := rb3_ HO684 BK740 hb; replace HO687 := rb3_ HO687 BK740 hb; replace HO690 := rb3_ HO690 BK740 hb; replace HO694 := rb3_ HO694 BK740 hb; replace HO697 := rb3_ HO697 BK740 hb; replace HO700 := rb3_ HO700 BK740 hb; replace HO705 := rb3_ HO705 BK740 hb; replace HO708 := rb3_ HO708 BK740 hb; replace HO711 := rb3_ HO711 BK740 hb; replace HO721 := rb3_ HO721 BK740 hb; replace HO724 := rb3_ HO724 BK740 hb; replace HO727 := rb3_ HO727 BK740 hb; replace HO732 := rb3_ HO732 BK740 hb; replace HO735 := rb3_ HO735 BK740 hb; replace HO738 := rb3_ HO738 BK740 hb; replace BK648 := Aside0.mk (blk_below (bx BK648) hb); replace BK649 := Aside0.mk (blk_below (bx BK649) hb); replace BK660 := Aside0.mk (blk_below (bx BK660) hb); replace BK671 := Aside0.mk (blk_below (bx BK671) hb); replace BK691 := Aside0.mk (blk_below (bx BK691) hb); replace BK702 := Aside0.mk (blk_below (bx BK702) hb); replace BK713 := Aside0.mk (blk_below (bx BK713) hb); replace BK729 := Aside0.mk (blk_below (bx BK729) hb); replace BK740 := Aside0.mk (blk_below (g := gb740) (o := .cells #[.slice Ao205 t730.length co205, .slice Ao215 t733.length co215, .slice Ao216 t736.length co216] 26 (0, 0)) (bw0_ BK740) hb); replace HB := bst_ HB hb; clear hb; obtain ⟨hcz220_0, hcz220_1, hcz220_2⟩ := bcs3_ BK729; obtain ⟨hfz220_0, hfz220_1, hfz220_2⟩ := bz3_ BK729; obtain ⟨hcz221_0, hcz221_1, hcz221_2⟩ := bcs3_ BK740; obtain ⟨hfz221_0, hfz221_1, hfz221_2⟩ := bz3_ BK740) | (go_at_call 7; (with_reducible refine (laws_samePair.calls kj51 _ _ t719 _ _ t722 _ _ t725 _ _ t730 _ _ t733 _ _ t736 t742 _ ?side1 ?side2 ?side3 ?side4 ?side5 ?side6 ?side7 ?side8 ?side9 ?side10 ?side11 ?side12 A150.out).mono ?_); (case side1 => exact ca (Kd.R_reads' HO721.out).2.2); (case side2 => exact (Kd.R_reads' HO721.out).2.1); (case side3 => exact ca (Kd.R_reads' HO724.out).2.2); (case side4 => exact (Kd.R_reads' HO724.out).2.1); (case side5 => exact ca (Kd.R_reads' HO727.out).2.2); (case side6 => exact (Kd.R_reads' HO727.out).2.1); (case side7 => exact ca (Kd.R_reads' HO732.out).2.2); (case side8 => exact (Kd.R_reads' HO732.out).2.1); (case side9 => exact ca (Kd.R_reads' HO735.out).2.2); (case side10 => exact (Kd.R_reads' HO735.out).2.1); (case side11 => exact ca (Kd.R_reads' HO738.out).2.2); (case side12 => exact (Kd.R_reads' HO738.out).2.1); rintro e w222 ⟨rfl, hb⟩; replace HO_649000 := rb_ HO_649000 hb; replace HO_649001 := rb_ HO_649001 hb; replace HO_649002 := rb_ HO_649002 hb; replace HO_661000 := rb_ HO_661000 hb; replace HO_661001 := rb_ HO_661001 hb; replace HO_661002 := rb_ HO_661002 hb; replace HO_672000 := rb_ HO_672000 hb; replace HO_672001 := rb_ HO_672001 hb; replace HO_672002 := rb_ HO_672002 hb; replace HO684 := rb_ HO684 hb; replace HO687 := rb_ HO687 hb; replace HO690 := rb_ HO690 hb; replace HO694 := rb_ HO694 hb; replace HO697 := rb_ HO697 hb; replace HO700 := rb_ HO700 hb; replace HO705 := rb_ HO705 hb; replace HO708 := rb_ HO708 hb; replace HO711 := rb_ HO711 hb; replace HO721 := rb_ HO721 hb; replace HO724 := rb_ HO724 hb; replace HO727 := rb_ HO727 hb; replace HO732 := rb_ HO732 hb; replace HO735 := rb_ HO735 hb; replace HO738 := rb_ HO738 hb; replace BK648 := bb_ BK648 hb; replace BK649 := bb_ BK649 hb; replace BK660 := bb_ BK660 hb; replace BK671 := bb_ BK671 hb; replace BK691 := bb_ BK691 hb; replace BK702 := bb_ BK702 hb; replace BK713 := bb_ BK713 hb; replace BK729 := bb_ BK729 hb; replace BK740 := bb_ BK740 hb; replace HB := bst_ HB hb; clear hb))
           go_ret
           exact ⟨rt_, hB HB⟩

/-- THE ONE PURE STATEMENT of laws_FnPairs: yours. -/
def laws_FnPairs.Pure : Prop := ∀ (l0 : List Int) (l1 : List Int), l0.length ≤ maxLen → l0.length * 1 ≤ 140737488351232 → (∀ x ∈ l0, (Lit.int .u8 x).wf = true) → l1.length ≤ maxLen → l1.length * 1 ≤ 140737488351232 → (∀ x ∈ l1, (Lit.int .u8 x).wf = true) → ∃ k, laws_FnPairs.f k l0 l1 = some true
theorem laws_FnPairs.walk (P : laws_FnPairs.Pure) (a0 : Option Addr) (len0 cap0 : Nat) (z0 : List Int) (a1 : Option Addr) (len1 cap1 : Nat) (z1 : List Int) (w : World) (w0 : (a0 = none ∧ len0 = 0 ∧ cap0 = 0 ∧ z0 = []) ∨ ∃ x, a0 = some x ∧ len0 ≤ cap0 ∧ cap0 ≤ maxLen ∧ z0.length = cap0 ∧ (∀ i, i < z0.length → w.cell? (x.add i) = some (.int .u8 (z0.getD i 0))) ∧ ∀ n ∈ z0, (Lit.int .u8 n).wf = true) (y0 : len0 * 1 ≤ 140737488351232) (w1 : (a1 = none ∧ len1 = 0 ∧ cap1 = 0 ∧ z1 = []) ∨ ∃ x, a1 = some x ∧ len1 ≤ cap1 ∧ cap1 ≤ maxLen ∧ z1.length = cap1 ∧ (∀ i, i < z1.length → w.cell? (x.add i) = some (.int .u8 (z1.getD i 0))) ∧ ∀ n ∈ z1, (Lit.int .u8 n).wf = true) (y1 : len1 * 1 ≤ 140737488351232) :
  Calls Try.prog 3 #[.slice a0 len0 cap0, .slice a1 len1 cap1] w fun e w' => e = .returned (.bool true) ∧ Below w.heap.size w w' := by
 obtain ⟨l0, rfl, hr0, hm0, hw0, hc0⟩ := ReadsInt.ofRowC w0
 obtain ⟨l1, rfl, hr1, hm1, hw1, hc1⟩ := ReadsInt.ofRowC w1
 obtain ⟨k, h⟩ := P l0 l1 hm0 y0 hw0 hm1 y1 hw1
 refine (laws_FnPairs.calls k _ _ l0 _ _ l1 true w (Kd.C_of_reads (d := (0 : Int)) (h1 := fun _ => rfl) hr0) hc0 (Kd.C_of_reads (d := (0 : Int)) (h1 := fun _ => rfl) hr1) hc1 h).mono ?_
 rintro e w' ⟨rfl, hd⟩
 exact ⟨rfl, hd⟩

end Go.Proofs.Ytefdgdloghhnaaa.P
