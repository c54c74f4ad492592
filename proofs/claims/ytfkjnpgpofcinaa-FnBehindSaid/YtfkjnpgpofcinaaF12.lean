import Derived.Test.YtfkjnpgpofcinaaF0
import Derived.Test.YtfkjnpgpofcinaaF7
import Derived.Test.YtfkjnpgpofcinaaF9
import Derived.Test.YtfkjnpgpofcinaaF10
import Derived.Test.YtfkjnpgpofcinaaF11
import Derived.Test.YtfkjnpgpofcinaaF26
namespace Go.Proofs.Ytfkjnpgpofcinaa.P
open Go.RowKit Go.Proofs.YtfkjnpgpofcinaaW.PrintWords Go.Proofs.YtfkjnpgpofcinaaW.PrintLast Go.Proofs.YtfkjnpgpofcinaaW.PrintMore
attribute [local go_sem] max2_int min2_int max_two min_two max_three min_three max_four min_four   -- for this text's walks alone
set_option linter.unusedVariables false
set_option linter.unusedSimpArgs false
attribute [local go_sem high] eqA45 eqA76 eqA83

mutual
def laws_FnBehind.j0 : Nat → List Int → List Int → Int → Int → List Int → Bool → Bool → Option (Bool)
 | 0, _, _, _, _, _, _, _ => none
 | k + 1, x1, x5, x6, x7, x8, x9, x70 => if x70 = true then (some false) else (if x9 = true then ((impl_BehindOf.f k x5 x7 x6).bind fun bt1571 => ((impl_SpreadOn.f k x5 x6).bind fun bt1575 => (if bt1571.2 = true then (if bt1575.2 = true then (if (wrap64 ((x8.length : Int) + (bt1571.1.length : Int))) = (wrap64 ((bt1575.1.length : Int) + 1)) then ((laws_has.f k x8 x7).bind fun t1579 => (if t1579 = true then ((laws_has.f k bt1571.1 x6).bind fun t1580 => (laws_FnBehind.j1 k x1 x8 bt1571.1 (!t1580))) else (laws_FnBehind.j1 k x1 x8 bt1571.1 true))) else (laws_FnBehind.j1 k x1 x8 bt1571.1 true)) else (laws_FnBehind.j1 k x1 x8 bt1571.1 true)) else (laws_FnBehind.j1 k x1 x8 bt1571.1 true)))) else (laws_FnBehind.j3 k x1))
def laws_FnBehind.j3 : Nat → List Int → Option (Bool)
 | 0, _ => none
 | k + 1, x1 => (spec_DrawBranchesAt.f k x1).bind fun bt1583 => ((impl_BranchesAt.f k bt1583.1 bt1583.2).bind fun bt1587 => ((spec_BranchesAt.f k bt1583.1 bt1583.2).bind fun bt1591 => ((spec_DrawJoinSpot.f k x1).bind fun bt1595 => ((impl_JoinSpot.f k bt1595.1 bt1595.2).bind fun bt1599 => ((spec_JoinSpot.f k bt1595.1 bt1595.2).bind fun bt1603 => ((impl_LeaveSpot.f k bt1595.1 bt1595.2).bind fun bt1607 => ((spec_LeaveSpot.f k bt1595.1 bt1595.2).bind fun bt1611 => (if (bt1587.2 != bt1591.2) = true then (laws_FnBehind.j4 k bt1595.2 bt1599.1 bt1599.2 bt1607.1 true) else ((laws_sameInts.f k bt1587.1 bt1591.1).bind fun t1615 => (if t1615 = true then (if (bt1599.2 != bt1603.2) = true then (laws_FnBehind.j4 k bt1595.2 bt1599.1 bt1599.2 bt1607.1 true) else ((laws_sameInts.f k bt1599.1 bt1603.1).bind fun t1616 => (if t1616 = true then (if (bt1607.2 != bt1611.2) = true then (laws_FnBehind.j4 k bt1595.2 bt1599.1 bt1599.2 bt1607.1 true) else ((laws_sameInts.f k bt1607.1 bt1611.1).bind fun t1617 => (laws_FnBehind.j4 k bt1595.2 bt1599.1 bt1599.2 bt1607.1 (!t1617)))) else (laws_FnBehind.j4 k bt1595.2 bt1599.1 bt1599.2 bt1607.1 true)))) else (laws_FnBehind.j4 k bt1595.2 bt1599.1 bt1599.2 bt1607.1 true)))))))))))
def laws_FnBehind.j4 : Nat → Int → List Int → Bool → List Int → Bool → Option (Bool)
 | 0, _, _, _, _, _ => none
 | k + 1, x25, x26, x27, x30, x200 => if x200 = true then (some false) else (if x27 = true then ((impl_LeaveSpot.f k x26 x25).bind fun bt1618 => (if bt1618.2 = true then ((laws_sameInts.f k bt1618.1 x30).bind fun t1622 => (if t1622 = true then ((laws_has.f k x26 x25).bind fun t1623 => (some t1623)) else (some false))) else (some false))) else (some true))
def laws_FnBehind.j1 : Nat → List Int → List Int → List Int → Bool → Option (Bool)
 | 0, _, _, _, _ => none
 | k + 1, x1, x8, x12, x113 => if x113 = true then (some false) else (laws_FnBehind.l0 k x1 x12 x8 (x8.length : Int) 0)
def laws_FnBehind.l0 : Nat → List Int → List Int → List Int → Int → Int → Option (Bool)
 | 0, _, _, _, _, _ => none
 | k + 1, x1, x12, x114, x115, x116 => if x116 < x115 then (if 0 ≤ x116 then (if x116 < (x114.length : Int) then ((laws_has.f k x12 (rd x114 x116)).bind fun t1582 => (if t1582 = true then (some false) else (laws_FnBehind.l0 k x1 x12 x114 x115 (wrap64 (x116 + 1))))) else (none)) else (none)) else (laws_FnBehind.j3 k x1)
end
def laws_FnBehind.f (k : Nat) (l0 : List Int) (l1 : List Int) : Option (Bool) := if (wrap64 ((l0.length : Int) + (l1.length : Int))) > 1048576 then (some true) else ((spec_DrawBehindOf.f k l0).bind fun bt1557 => ((impl_BehindOf.f k bt1557.1 bt1557.2.1 bt1557.2.2).bind fun bt1562 => ((spec_BehindOf.f k bt1557.1 bt1557.2.1 bt1557.2.2).bind fun bt1566 => (if (bt1562.2 != bt1566.2) = true then (laws_FnBehind.j0 k l1 bt1557.1 bt1557.2.1 bt1557.2.2 bt1562.1 bt1562.2 true) else ((laws_sameInts.f k bt1562.1 bt1566.1).bind fun t1570 => (laws_FnBehind.j0 k l1 bt1557.1 bt1557.2.1 bt1557.2.2 bt1562.1 bt1562.2 (!t1570)))))))
theorem laws_FnBehind.mono_l : ∀ k, (∀ y0 y1 y2 y3 y4 y5 y6, LeO (laws_FnBehind.j0 k y0 y1 y2 y3 y4 y5 y6) (laws_FnBehind.j0 (k + 1) y0 y1 y2 y3 y4 y5 y6)) ∧ (∀ y0, LeO (laws_FnBehind.j3 k y0) (laws_FnBehind.j3 (k + 1) y0)) ∧ (∀ y0 y1 y2 y3 y4, LeO (laws_FnBehind.j4 k y0 y1 y2 y3 y4) (laws_FnBehind.j4 (k + 1) y0 y1 y2 y3 y4)) ∧ (∀ y0 y1 y2 y3, LeO (laws_FnBehind.j1 k y0 y1 y2 y3) (laws_FnBehind.j1 (k + 1) y0 y1 y2 y3)) ∧ (∀ y0 y1 y2 y3 y4, LeO (laws_FnBehind.l0 k y0 y1 y2 y3 y4) (laws_FnBehind.l0 (k + 1) y0 y1 y2 y3 y4))
 | 0 => ⟨fun _ _ _ _ _ _ _ r h => by simp [laws_FnBehind.j0] at h, fun _ r h => by simp [laws_FnBehind.j3] at h, fun _ _ _ _ _ r h => by simp [laws_FnBehind.j4] at h, fun _ _ _ _ r h => by simp [laws_FnBehind.j1] at h, fun _ _ _ _ _ r h => by simp [laws_FnBehind.l0] at h⟩
 | k + 1 => by
  obtain ⟨ih0, ih1, ih2, ih3, ih4⟩ := laws_FnBehind.mono_l k
  refine ⟨?_, ?_, ?_, ?_, ?_⟩
  ·intro y0 y1 y2 y3 y4 y5 y6
   unfold laws_FnBehind.j0
   repeat' first
   | (with_reducible exact ih0 _ _ _ _ _ _ _)
   | (with_reducible exact ih1 _)
   | (with_reducible exact ih2 _ _ _ _ _)
   | (with_reducible exact ih3 _ _ _ _)
   | (with_reducible exact ih4 _ _ _ _ _)
   | (with_reducible exact impl_BehindOf.mono _ _ _ _)
   | (with_reducible exact impl_BranchesAt.mono _ _ _)
   | (with_reducible exact impl_JoinSpot.mono _ _ _)
   | (with_reducible exact impl_LeaveSpot.mono _ _ _)
   | (with_reducible exact impl_SpreadOn.mono _ _ _)
   | (with_reducible exact laws_has.mono _ _ _)
   | (with_reducible exact laws_sameInts.mono _ _ _)
   | (with_reducible exact spec_BehindOf.mono _ _ _ _)
   | (with_reducible exact spec_BranchesAt.mono _ _ _)
   | (with_reducible exact spec_DrawBehindOf.mono _ _)
   | (with_reducible exact spec_DrawBranchesAt.mono _ _)
   | (with_reducible exact spec_DrawJoinSpot.mono _ _)
   | (with_reducible exact spec_JoinSpot.mono _ _ _)
   | (with_reducible exact spec_LeaveSpot.mono _ _ _)
   | (with_reducible exact LeO.refl _)
   | (with_reducible exact LeO.none _)
   | (with_reducible refine LeO.ite ?_ ?_)
   | (with_reducible refine LeO.bind ?_ (fun _ => ?_))
  ·intro y0
   unfold laws_FnBehind.j3
   repeat' first
   | (with_reducible exact ih0 _ _ _ _ _ _ _)
   | (with_reducible exact ih1 _)
   | (with_reducible exact ih2 _ _ _ _ _)
   | (with_reducible exact ih3 _ _ _ _)
   | (with_reducible exact ih4 _ _ _ _ _)
   | (with_reducible exact impl_BehindOf.mono _ _ _ _)
   | (with_reducible exact impl_BranchesAt.mono _ _ _)
   | (with_reducible exact impl_JoinSpot.mono _ _ _)
   | (with_reducible exact impl_LeaveSpot.mono _ _ _)
   | (with_reducible exact impl_SpreadOn.mono _ _ _)
   | (with_reducible exact laws_has.mono _ _ _)
   | (with_reducible exact laws_sameInts.mono _ _ _)
   | (with_reducible exact spec_BehindOf.mono _ _ _ _)
   | (with_reducible exact spec_BranchesAt.mono _ _ _)
   | (with_reducible exact spec_DrawBehindOf.mono _ _)
   | (with_reducible exact spec_DrawBranchesAt.mono _ _)
   | (with_reducible exact spec_DrawJoinSpot.mono _ _)
   | (with_reducible exact spec_JoinSpot.mono _ _ _)
   | (with_reducible exact spec_LeaveSpot.mono _ _ _)
   | (with_reducible exact LeO.refl _)
   | (with_reducible exact LeO.none _)
   | (with_reducible refine LeO.ite ?_ ?_)
   | (with_reducible refine LeO.bind ?_ (fun _ => ?_))
  ·intro y0 y1 y2 y3 y4
   unfold laws_FnBehind.j4
   repeat' first
   | (with_reducible exact ih0 _ _ _ _ _ _ _)
   | (with_reducible exact ih1 _)
   | (with_reducible exact ih2 _ _ _ _ _)
   | (with_reducible exact ih3 _ _ _ _)
   | (with_reducible exact ih4 _ _ _ _ _)
   | (with_reducible exact impl_BehindOf.mono _ _ _ _)
   | (with_reducible exact impl_BranchesAt.mono _ _ _)
   | (with_reducible exact impl_JoinSpot.mono _ _ _)
   | (with_reducible exact impl_LeaveSpot.mono _ _ _)
   | (with_reducible exact impl_SpreadOn.mono _ _ _)
   | (with_reducible exact laws_has.mono _ _ _)
   | (with_reducible exact laws_sameInts.mono _ _ _)
   | (with_reducible exact spec_BehindOf.mono _ _ _ _)
   | (with_reducible exact spec_BranchesAt.mono _ _ _)
   | (with_reducible exact spec_DrawBehindOf.mono _ _)
   | (with_reducible exact spec_DrawBranchesAt.mono _ _)
   | (with_reducible exact spec_DrawJoinSpot.mono _ _)
   | (with_reducible exact spec_JoinSpot.mono _ _ _)
   | (with_reducible exact spec_LeaveSpot.mono _ _ _)
   | (with_reducible exact LeO.refl _)
   | (with_reducible exact LeO.none _)
   | (with_reducible refine LeO.ite ?_ ?_)
   | (with_reducible refine LeO.bind ?_ (fun _ => ?_))
  ·intro y0 y1 y2 y3
   unfold laws_FnBehind.j1
   repeat' first
   | (with_reducible exact ih0 _ _ _ _ _ _ _)
   | (with_reducible exact ih1 _)
   | (with_reducible exact ih2 _ _ _ _ _)
   | (with_reducible exact ih3 _ _ _ _)
   | (with_reducible exact ih4 _ _ _ _ _)
   | (with_reducible exact impl_BehindOf.mono _ _ _ _)
   | (with_reducible exact impl_BranchesAt.mono _ _ _)
   | (with_reducible exact impl_JoinSpot.mono _ _ _)
   | (with_reducible exact impl_LeaveSpot.mono _ _ _)
   | (with_reducible exact impl_SpreadOn.mono _ _ _)
   | (with_reducible exact laws_has.mono _ _ _)
   | (with_reducible exact laws_sameInts.mono _ _ _)
   | (with_reducible exact spec_BehindOf.mono _ _ _ _)
   | (with_reducible exact spec_BranchesAt.mono _ _ _)
   | (with_reducible exact spec_DrawBehindOf.mono _ _)
   | (with_reducible exact spec_DrawBranchesAt.mono _ _)
   | (with_reducible exact spec_DrawJoinSpot.mono _ _)
   | (with_reducible exact spec_JoinSpot.mono _ _ _)
   | (with_reducible exact spec_LeaveSpot.mono _ _ _)
   | (with_reducible exact LeO.refl _)
   | (with_reducible exact LeO.none _)
   | (with_reducible refine LeO.ite ?_ ?_)
   | (with_reducible refine LeO.bind ?_ (fun _ => ?_))
  ·intro y0 y1 y2 y3 y4
   unfold laws_FnBehind.l0
   repeat' first
   | (with_reducible exact ih0 _ _ _ _ _ _ _)
   | (with_reducible exact ih1 _)
   | (with_reducible exact ih2 _ _ _ _ _)
   | (with_reducible exact ih3 _ _ _ _)
   | (with_reducible exact ih4 _ _ _ _ _)
   | (with_reducible exact impl_BehindOf.mono _ _ _ _)
   | (with_reducible exact impl_BranchesAt.mono _ _ _)
   | (with_reducible exact impl_JoinSpot.mono _ _ _)
   | (with_reducible exact impl_LeaveSpot.mono _ _ _)
   | (with_reducible exact impl_SpreadOn.mono _ _ _)
   | (with_reducible exact laws_has.mono _ _ _)
   | (with_reducible exact laws_sameInts.mono _ _ _)
   | (with_reducible exact spec_BehindOf.mono _ _ _ _)
   | (with_reducible exact spec_BranchesAt.mono _ _ _)
   | (with_reducible exact spec_DrawBehindOf.mono _ _)
   | (with_reducible exact spec_DrawBranchesAt.mono _ _)
   | (with_reducible exact spec_DrawJoinSpot.mono _ _)
   | (with_reducible exact spec_JoinSpot.mono _ _ _)
   | (with_reducible exact spec_LeaveSpot.mono _ _ _)
   | (with_reducible exact LeO.refl _)
   | (with_reducible exact LeO.none _)
   | (with_reducible refine LeO.ite ?_ ?_)
   | (with_reducible refine LeO.bind ?_ (fun _ => ?_))
theorem laws_FnBehind.mono : ∀ a0 a1 k, LeO (laws_FnBehind.f k a0 a1) (laws_FnBehind.f (k + 1) a0 a1) := by
 intro a0 a1 k
 obtain ⟨ih0, ih1, ih2, ih3, ih4⟩ := laws_FnBehind.mono_l k
 unfold laws_FnBehind.f
 repeat' first
   | (with_reducible exact ih0 _ _ _ _ _ _ _)
   | (with_reducible exact ih1 _)
   | (with_reducible exact ih2 _ _ _ _ _)
   | (with_reducible exact ih3 _ _ _ _)
   | (with_reducible exact ih4 _ _ _ _ _)
   | (with_reducible exact impl_BehindOf.mono _ _ _ _)
   | (with_reducible exact impl_BranchesAt.mono _ _ _)
   | (with_reducible exact impl_JoinSpot.mono _ _ _)
   | (with_reducible exact impl_LeaveSpot.mono _ _ _)
   | (with_reducible exact impl_SpreadOn.mono _ _ _)
   | (with_reducible exact laws_has.mono _ _ _)
   | (with_reducible exact laws_sameInts.mono _ _ _)
   | (with_reducible exact spec_BehindOf.mono _ _ _ _)
   | (with_reducible exact spec_BranchesAt.mono _ _ _)
   | (with_reducible exact spec_DrawBehindOf.mono _ _)
   | (with_reducible exact spec_DrawBranchesAt.mono _ _)
   | (with_reducible exact spec_DrawJoinSpot.mono _ _)
   | (with_reducible exact spec_JoinSpot.mono _ _ _)
   | (with_reducible exact spec_LeaveSpot.mono _ _ _)
   | (with_reducible exact LeO.refl _)
   | (with_reducible exact LeO.none _)
   | (with_reducible refine LeO.ite ?_ ?_)
   | (with_reducible refine LeO.bind ?_ (fun _ => ?_))
set_option maxHeartbeats 8000000 in
set_option maxRecDepth 100000 in
theorem laws_FnBehind.calls (k : Nat) (A0 : Option Addr) (c0 : Nat) (l0 : List Int) (A1 : Option Addr) (c1 : Nat) (l1 : List Int) (r : Bool) (w : World) (hr0 : Kd.C (Kd.int .u8) w A0 l0.length l0) (hc0 : l0.length ≤ c0) (hr1 : Kd.C (Kd.int .u8) w A1 l1.length l1) (hc1 : l1.length ≤ c1) (h : laws_FnBehind.f k l0 l1 = some r) :
  Calls Try.prog 6 #[.slice A0 l0.length c0, .slice A1 l1.length c1] w fun e w' => e = .returned (.bool r) ∧ Below w.heap.size w w' := by
 have HR0 := Aside0.mk hr0
 have HC0 := Aside0.mk hc0
 clear hr0 hc0
 have HR1 := Aside0.mk hr1
 have HC1 := Aside0.mk hc1
 clear hr1 hc1
 have HB := Aside0.mk (Below.refl w.heap.size w)
 have H : (if (wrap64 ((l0.length : Int) + (l1.length : Int))) > 1048576 then (some true) else ((spec_DrawBehindOf.f k l0).bind fun bt1557 => ((impl_BehindOf.f k bt1557.1 bt1557.2.1 bt1557.2.2).bind fun bt1562 => ((spec_BehindOf.f k bt1557.1 bt1557.2.1 bt1557.2.2).bind fun bt1566 => (if (bt1562.2 != bt1566.2) = true then (laws_FnBehind.j0 k l1 bt1557.1 bt1557.2.1 bt1557.2.2 bt1562.1 bt1562.2 true) else ((laws_sameInts.f k bt1562.1 bt1566.1).bind fun t1570 => (laws_FnBehind.j0 k l1 bt1557.1 bt1557.2.1 bt1557.2.2 bt1562.1 bt1562.2 (!t1570)))))))) = some r := h
 clear h
 by_cases c3 : (wrap64 ((l0.length : Int) + (l1.length : Int))) > 1048576
 ·rw [if_pos c3] at H
  have c3b0 : decide (1048576 < (wrap64 ((l0.length : Int) + (l1.length : Int)))) = true := decide_eq_true c3
  clear c3
  obtain rfl := Option.some.inj H
  as_aux_lemma =>
   go_enter Try.func6, Try.ntmps6
   go_wp2
   go_ret
   exact ⟨by first | rfl | (simp [errW_none, errW_some] <;> rfl) | (simp [*, errW_none, errW_some] <;> rfl), by repeat (first | (with_reducible first | exact HB.out | apply below_alloc | apply pw_below_drewN | apply below_drew1) | exact HB.out)⟩
 rw [if_neg c3] at H
 have c3b0 : decide (1048576 < (wrap64 ((l0.length : Int) + (l1.length : Int)))) = false := decide_eq_false c3
 clear c3
 replace H := Option.bind_eq_some_iff.mp H
 obtain ⟨⟨t1557, t1558, t1559⟩, A40, H⟩ := H
 replace H : ((impl_BehindOf.f k t1557 t1558 t1559).bind fun bt1562 => ((spec_BehindOf.f k t1557 t1558 t1559).bind fun bt1566 => (if (bt1562.2 != bt1566.2) = true then (laws_FnBehind.j0 k l1 t1557 t1558 t1559 bt1562.1 bt1562.2 true) else ((laws_sameInts.f k bt1562.1 bt1566.1).bind fun t1570 => (laws_FnBehind.j0 k l1 t1557 t1558 t1559 bt1562.1 bt1562.2 (!t1570)))))) = some r := H
 have A4 := Aside0.mk A40
 clear A40
 replace H := Option.bind_eq_some_iff.mp H
 obtain ⟨⟨t1562, t1563⟩, A50, H⟩ := H
 replace H : ((spec_BehindOf.f k t1557 t1558 t1559).bind fun bt1566 => (if (t1563 != bt1566.2) = true then (laws_FnBehind.j0 k l1 t1557 t1558 t1559 t1562 t1563 true) else ((laws_sameInts.f k t1562 bt1566.1).bind fun t1570 => (laws_FnBehind.j0 k l1 t1557 t1558 t1559 t1562 t1563 (!t1570))))) = some r := H
 have A5 := Aside0.mk A50
 clear A50
 replace H := Option.bind_eq_some_iff.mp H
 obtain ⟨⟨t1566, t1569⟩, A60, H⟩ := H
 replace H : (if (t1563 != t1569) = true then (laws_FnBehind.j0 k l1 t1557 t1558 t1559 t1562 t1563 true) else ((laws_sameInts.f k t1562 t1566).bind fun t1570 => (laws_FnBehind.j0 k l1 t1557 t1558 t1559 t1562 t1563 (!t1570)))) = some r := H
 have A6 := Aside0.mk A60
 clear A60
 have HC7 := Aside0.mk H
 clear H
 as_aux_lemma =>
  go_enter Try.func6, Try.ntmps6
  as_aux_lemma =>
   go_upto_region 6 with (first | ((with_reducible refine gate_callee (f := 39) rfl ?_); refine goesL_ (some 44) rfl rfl Try.func39 (by kernel_rfl) rfl #[.slice A0 l0.length c0] rfl tm_ ?_; (with_reducible refine (spec_DrawBehindOf.calls k _ _ l0 t1557 t1558 t1559 _ ?side1 ?side2 A4.out).mono ?_); (case side1 => exact ca HR0.out); (case side2 => exact HC0.out); rintro e w8 ⟨v1560, rfl, ho0, hb⟩; refine ⟨_, rfl, ?_⟩; have HO1561 := Aside0.mk (Kd.R_lower ho0 (below_size (hB HB))); replace HB := bst_ HB hb; clear hb ho0; obtain ⟨Ao9, co9, eo9⟩ := Kd.R_slice HO1561.out; subst eo9) | ((with_reducible refine gate_callee (f := 40) rfl ?_); refine goesL_ (some 52) rfl rfl Try.func40 (by kernel_rfl) rfl #[.slice Ao9 t1557.length co9, .int .i64 t1558, .int .i64 t1559] rfl tm_ ?_; (with_reducible refine (impl_BehindOf.calls k _ _ t1557 t1558 t1559 t1562 t1563 _ ?side1 ?side2 A5.out).mono ?_); (case side1 => exact ca (Kd.R_reads' HO1561.out).2.2); (case side2 => exact (Kd.R_reads' HO1561.out).2.1); rintro e w10 ⟨v1564, rfl, ho0, hb⟩; refine ⟨_, rfl, ?_⟩; have HO1565 := Aside0.mk (Kd.R_lower (Kd.R_new' ho0 (rl_ HO1561)) (below_size (hB HB))); replace HO1561 := re_ HO1561 ho0 hb; replace HB := bst_ HB hb; clear hb ho0) | ((with_reducible refine gate_callee (f := 41) rfl ?_); refine goesL_ (some 59) rfl rfl Try.func41 (by kernel_rfl) rfl #[.slice Ao9 t1557.length co9, .int .i64 t1558, .int .i64 t1559] rfl tm_ ?_; (with_reducible refine (spec_BehindOf.calls k _ _ t1557 t1558 t1559 t1566 t1569 _ ?side1 ?side2 A6.out).mono ?_); (case side1 => exact ca (Kd.R_reads' HO1561.out).2.2); (case side2 => exact (Kd.R_reads' HO1561.out).2.1); rintro e w11 ⟨v1567, rfl, ho0, hb⟩; refine ⟨_, rfl, ?_⟩; have HO1568 := Aside0.mk (Kd.V_lower (Kd.V_mono (ok' := fun k_ => no_ (.slice Ao9 t1557.length co9) k_ ∧ no_ v1564 k_) ho0 (fun k_ hk_ => ⟨(Kd.fresh' (rl_ HO1561) k_ hk_), (Kd.fresh' (rl_ HO1565) k_ hk_)⟩)) (below_size (hB HB))); replace HO1561 := rb_ HO1561 hb; replace HO1565 := rb_ HO1565 hb; replace HB := bst_ HB hb; clear hb ho0))
   (try simp only [Act.put, List.setIfInBounds_toArray, List.set_cons_zero, List.set_cons_succ])
   go_cut [70] (fun v70 wc => ∃ (kq : Nat) (x70_6 : Bool), v70 = .bool x70_6 ∧ Aside0 (laws_FnBehind.j0 kq l1 t1557 t1558 t1559 t1562 t1563 x70_6 = some r) ∧ Aside0 (kq ≤ k) ∧ Aside0 (Kd.R (Kd.int .i64) 3 wc w.heap.size (fun k_ => no_ v1564 k_) (.slice Ao9 t1557.length co9) t1557) ∧ Aside0 (Kd.R (Kd.int .i64) 3 wc w.heap.size (fun k_ => no_ (.slice Ao9 t1557.length co9) k_) v1564 t1562) ∧ Aside0 (Below w.heap.size w wc))
   case first =>
    as_aux_lemma =>
     have H := HC7.out
     clear HC7
     by_cases c12 : (t1563 != t1569) = true
     ·rw [if_pos c12] at H
      have c12b0 : (t1563 != t1569) = true := c12
      (try (have c12b1 : decide (t1563 = t1569) = false := by simpa using c12))
      (try (have c12b2 : (t1563 == t1569) = false := by simpa using c12))
      (try (have c12b3 : ¬ (t1563 = t1569) := by simpa using c12))
      clear c12
      (first | rw [c12b0] | (simp only [i64_w, i32_w]; rw [c12b0]) | skip)
      have H' := Aside0.mk H
      clear H
      go_wp2
      go_meet
      case rel => exact ⟨_, (true), (by first | rfl | (simp; done) | (simp [*]; done)), H', ⟨by first | omega | exact Nat.le_refl _⟩, rm_ HO1561 (fun _ hk => hk.2), rm_ HO1565 (fun _ hk => hk.2), ⟨hB HB⟩⟩
     rw [if_neg c12] at H
     have c12b0 : (t1563 != t1569) = false := by simpa using c12
     (try (have c12b1 : decide (t1563 = t1569) = true := by simpa using c12))
     (try (have c12b2 : (t1563 == t1569) = true := by simpa using c12))
     clear c12
     (first | rw [c12b0] | (simp only [i64_w, i32_w]; rw [c12b0]) | skip)
     replace H := Option.bind_eq_some_iff.mp H
     obtain ⟨t1570, A130, H⟩ := H
     replace H : (laws_FnBehind.j0 k l1 t1557 t1558 t1559 t1562 t1563 (!t1570)) = some r := H
     have A13 := Aside0.mk A130
     clear A130
     have H' := Aside0.mk H
     clear H
     obtain ⟨Ao14, co14, eo14⟩ := Kd.R_slice HO1565.out
     subst eo14
     obtain ⟨Ao15, co15, eo15⟩ := Kd.V_slice HO1568.out
     subst eo15
     as_aux_lemma =>
      go_wp2_with (first | (go_at_call 35; (with_reducible refine (laws_sameInts.calls k _ _ t1562 _ _ t1566 t1570 _ ?side1 ?side2 ?side3 ?side4 A13.out).mono ?_); (case side1 => exact ca (Kd.R_reads' HO1565.out).2.2); (case side2 => exact (Kd.R_reads' HO1565.out).2.1); (case side3 => repeat (first | exact (Kd.V_reads' HO1568.out).2.2 | (with_reducible refine Kd.C_alloc ?_ _) | (with_reducible refine Kd.C_drewN ?_ _) | (with_reducible refine Kd.C_drew ?_))); (case side4 => exact (Kd.V_reads' HO1568.out).2.1); rintro e w' ⟨rfl, ⟨nd, rfl⟩⟩))
      go_meet
      case rel => exact ⟨_, (!t1570), (by first | rfl | (simp; done) | (simp [*]; done)), H', ⟨by first | omega | exact Nat.le_refl _⟩, rm_ HO1561 (fun _ hk => hk.2), rm_ HO1565 (fun _ hk => hk.2), ⟨hB HB⟩⟩
   case rest =>
    as_aux_lemma =>
     clear HC7
     try clear c1
     try clear c3
     try clear c3b0
     obtain ⟨kq, x70_6, rfl, HA, HJ6, HO_5, HO_8, HB⟩ := hcut
     cases kq with
     | zero => exact absurd HA.out (by simp [laws_FnBehind.j0])
     | succ kj6 =>
      have H := HA.out
      clear HA
      simp only [laws_FnBehind.j0] at H
      by_cases c16 : x70_6 = true
      ·subst c16
       rw [if_pos rfl] at H
       obtain rfl := Option.some.inj H
       go_wp2
       go_ret
       exact ⟨by first | rfl | (simp [errW_none, errW_some] <;> rfl) | (simp [*, errW_none, errW_some] <;> rfl), by repeat (first | (with_reducible first | exact HB.out | apply below_alloc | apply pw_below_drewN | apply below_drew1) | exact HB.out)⟩
      replace c16 := Bool.eq_false_iff.mpr c16
      subst c16
      rw [if_neg (show ¬ (false = true) by decide)] at H
      have HC17 := Aside0.mk H
      clear H
      go_upto_if 71 with (fail)
      go_cut [] (fun wc => ∃ (kq : Nat), Aside0 (laws_FnBehind.j3 kq l1 = some r) ∧ Aside0 (kq ≤ kj6) ∧ Aside0 (Below w.heap.size w wc))
      case first =>
       as_aux_lemma =>
        have H := HC17.out
        clear HC17
        by_cases c18 : t1563 = true
        rotate_left
        ·replace c18 := Bool.eq_false_iff.mpr c18
         subst c18
         rw [if_neg (show ¬ (false = true) by decide)] at H
         have H' := Aside0.mk H
         clear H
         go_wp2
         go_meet
         case rel => exact ⟨_, H', ⟨by have := HJ6.out; first | omega | exact Nat.le_refl _⟩, ⟨hB HB⟩⟩
        subst c18
        rw [if_pos rfl] at H
        replace H := Option.bind_eq_some_iff.mp H
        obtain ⟨⟨t1571, t1572⟩, A190, H⟩ := H
        replace H : ((impl_SpreadOn.f kj6 t1557 t1558).bind fun bt1575 => (if t1572 = true then (if bt1575.2 = true then (if (wrap64 ((t1562.length : Int) + (t1571.length : Int))) = (wrap64 ((bt1575.1.length : Int) + 1)) then ((laws_has.f kj6 t1562 t1559).bind fun t1579 => (if t1579 = true then ((laws_has.f kj6 t1571 t1558).bind fun t1580 => (laws_FnBehind.j1 kj6 l1 t1562 t1571 (!t1580))) else (laws_FnBehind.j1 kj6 l1 t1562 t1571 true))) else (laws_FnBehind.j1 kj6 l1 t1562 t1571 true)) else (laws_FnBehind.j1 kj6 l1 t1562 t1571 true)) else (laws_FnBehind.j1 kj6 l1 t1562 t1571 true))) = some r := H
        have A19 := Aside0.mk A190
        clear A190
        replace H := Option.bind_eq_some_iff.mp H
        obtain ⟨⟨t1575, t1576⟩, A200, H⟩ := H
        replace H : (if t1572 = true then (if t1576 = true then (if (wrap64 ((t1562.length : Int) + (t1571.length : Int))) = (wrap64 ((t1575.length : Int) + 1)) then ((laws_has.f kj6 t1562 t1559).bind fun t1579 => (if t1579 = true then ((laws_has.f kj6 t1571 t1558).bind fun t1580 => (laws_FnBehind.j1 kj6 l1 t1562 t1571 (!t1580))) else (laws_FnBehind.j1 kj6 l1 t1562 t1571 true))) else (laws_FnBehind.j1 kj6 l1 t1562 t1571 true)) else (laws_FnBehind.j1 kj6 l1 t1562 t1571 true)) else (laws_FnBehind.j1 kj6 l1 t1562 t1571 true)) = some r := H
        have A20 := Aside0.mk A200
        clear A200
        have HC21 := Aside0.mk H
        clear H
        as_aux_lemma =>
         go_upto_region 11 with (first | ((with_reducible refine gate_callee (f := 40) rfl ?_); refine goesL_ (some 76) rfl rfl Try.func40 (by kernel_rfl) rfl #[.slice Ao9 t1557.length co9, .int .i64 t1559, .int .i64 t1558] rfl tm_ ?_; (with_reducible refine (impl_BehindOf.calls kj6 _ _ t1557 t1559 t1558 t1571 t1572 _ ?side1 ?side2 A19.out).mono ?_); (case side1 => exact ca (Kd.R_reads' HO_5.out).2.2); (case side2 => exact (Kd.R_reads' HO_5.out).2.1); rintro e w22 ⟨v1573, rfl, ho0, hb⟩; refine ⟨_, rfl, ?_⟩; have HO1574 := Aside0.mk (Kd.R_lower (Kd.R_new' (Kd.R_new' ho0 (rl_ HO_5)) (rl_ HO_8)) (below_size (hB HB))); replace HO_5 := re_ HO_5 ho0 hb; replace HO_8 := re_ HO_8 ho0 hb; replace HB := bst_ HB hb; clear hb ho0) | ((with_reducible refine gate_callee (f := 42) rfl ?_); refine goesL_ (some 82) rfl rfl Try.func42 (by kernel_rfl) rfl #[.slice Ao9 t1557.length co9, .int .i64 t1558] rfl tm_ ?_; (with_reducible refine (impl_SpreadOn.calls kj6 _ _ t1557 t1558 t1575 t1576 _ ?side1 ?side2 A20.out).mono ?_); (case side1 => exact ca (Kd.R_reads' HO_5.out).2.2); (case side2 => exact (Kd.R_reads' HO_5.out).2.1); rintro e w23 ⟨v1577, rfl, ho0, hb⟩; refine ⟨_, rfl, ?_⟩; have HO1578 := Aside0.mk (Kd.R_lower ho0 (below_size (hB HB))); replace HO_5 := rb_ HO_5 hb; replace HO_8 := rb_ HO_8 hb; replace HO1574 := rb_ HO1574 hb; replace HB := bst_ HB hb; clear hb ho0))
         (try simp only [Act.put, List.setIfInBounds_toArray, List.set_cons_zero, List.set_cons_succ])
         go_cut [113] (fun v113 wc => ∃ (kq : Nat) (x113_20 : Bool), v113 = .bool x113_20 ∧ Aside0 (laws_FnBehind.j1 kq l1 t1562 t1571 x113_20 = some r) ∧ Aside0 (kq ≤ kj6) ∧ Aside0 (Kd.R (Kd.int .i64) 3 wc w.heap.size (fun k_ => no_ v1573 k_) v1564 t1562) ∧ Aside0 (Kd.R (Kd.int .i64) 3 wc w.heap.size (fun k_ => no_ v1564 k_) v1573 t1571) ∧ Aside0 (Below w.heap.size w wc))
         case first =>
          as_aux_lemma =>
           have H := HC21.out
           clear HC21
           by_cases c24 : t1572 = true
           rotate_left
           ·replace c24 := Bool.eq_false_iff.mpr c24
            subst c24
            rw [if_neg (show ¬ (false = true) by decide)] at H
            have H' := Aside0.mk H
            clear H
            go_wp2
            go_meet
            case rel => exact ⟨_, (true), (by first | rfl | (simp; done) | (simp [*]; done)), H', ⟨by have := HJ6.out; first | omega | exact Nat.le_refl _⟩, rm_ HO_8 (fun _ hk => hk.2), rm_ HO1574 (fun _ hk => hk.2), ⟨hB HB⟩⟩
           subst c24
           rw [if_pos rfl] at H
           by_cases c25 : t1576 = true
           rotate_left
           ·replace c25 := Bool.eq_false_iff.mpr c25
            subst c25
            rw [if_neg (show ¬ (false = true) by decide)] at H
            have H' := Aside0.mk H
            clear H
            go_wp2
            go_meet
            case rel => exact ⟨_, (true), (by first | rfl | (simp; done) | (simp [*]; done)), H', ⟨by have := HJ6.out; first | omega | exact Nat.le_refl _⟩, rm_ HO_8 (fun _ hk => hk.2), rm_ HO1574 (fun _ hk => hk.2), ⟨hB HB⟩⟩
           subst c25
           rw [if_pos rfl] at H
           by_cases c26 : (wrap64 ((t1562.length : Int) + (t1571.length : Int))) = (wrap64 ((t1575.length : Int) + 1))
           rotate_left
           ·rw [if_neg c26] at H
            have c26b0 : ((wrap64 ((t1562.length : Int) + (t1571.length : Int))) == (wrap64 ((t1575.length : Int) + 1))) = false := beq_eq_false_iff_ne.mpr c26
            have c26b1 : ((wrap64 ((t1562.length : Int) + (t1571.length : Int))) != (wrap64 ((t1575.length : Int) + 1))) = true := bne_iff_ne.mpr c26
            (first | rw [c26b0] | (simp only [i64_w, i32_w]; rw [c26b0]) | skip)
            have H' := Aside0.mk H
            clear H
            obtain ⟨Ao36, co36, eo36⟩ := Kd.R_slice HO_8.out
            subst eo36
            obtain ⟨Ao37, co37, eo37⟩ := Kd.R_slice HO1574.out
            subst eo37
            obtain ⟨Ao38, co38, eo38⟩ := Kd.R_slice HO1578.out
            subst eo38
            go_wp2
            go_meet
            case rel => exact ⟨_, (true), (by first | rfl | (simp; done) | (simp [*]; done)), H', ⟨by have := HJ6.out; first | omega | exact Nat.le_refl _⟩, rm_ HO_8 (fun _ hk => hk.2), rm_ HO1574 (fun _ hk => hk.2), ⟨hB HB⟩⟩
           rw [if_pos c26] at H
           have c26b0 : ((wrap64 ((t1562.length : Int) + (t1571.length : Int))) == (wrap64 ((t1575.length : Int) + 1))) = true := beq_iff_eq.mpr c26
           have c26b1 : ((wrap64 ((t1562.length : Int) + (t1571.length : Int))) != (wrap64 ((t1575.length : Int) + 1))) = false := bne_eq_false_iff_eq.mpr c26
           clear c26
           (first | rw [c26b0] | (simp only [i64_w, i32_w]; rw [c26b0]) | skip)
           replace H := Option.bind_eq_some_iff.mp H
           obtain ⟨t1579, A270, H⟩ := H
           replace H : (if t1579 = true then ((laws_has.f kj6 t1571 t1558).bind fun t1580 => (laws_FnBehind.j1 kj6 l1 t1562 t1571 (!t1580))) else (laws_FnBehind.j1 kj6 l1 t1562 t1571 true)) = some r := H
           have A27 := Aside0.mk A270
           clear A270
           by_cases c28 : t1579 = true
           rotate_left
           ·replace c28 := Bool.eq_false_iff.mpr c28
            subst c28
            rw [if_neg (show ¬ (false = true) by decide)] at H
            have H' := Aside0.mk H
            clear H
            obtain ⟨Ao33, co33, eo33⟩ := Kd.R_slice HO_8.out
            subst eo33
            obtain ⟨Ao34, co34, eo34⟩ := Kd.R_slice HO1574.out
            subst eo34
            obtain ⟨Ao35, co35, eo35⟩ := Kd.R_slice HO1578.out
            subst eo35
            as_aux_lemma =>
             go_wp2_with (first | (go_at_call 43; (with_reducible refine (laws_has.calls kj6 _ _ t1562 t1559 false _ ?side1 ?side2 A27.out).mono ?_); (case side1 => exact ca (Kd.R_reads' HO_8.out).2.2); (case side2 => exact (Kd.R_reads' HO_8.out).2.1); rintro e w' ⟨rfl, ⟨nd, rfl⟩⟩))
             go_meet
             case rel => exact ⟨_, (true), (by first | rfl | (simp; done) | (simp [*]; done)), H', ⟨by have := HJ6.out; first | omega | exact Nat.le_refl _⟩, rm_ HO_8 (fun _ hk => hk.2), rm_ HO1574 (fun _ hk => hk.2), ⟨hB HB⟩⟩
           subst c28
           rw [if_pos rfl] at H
           replace H := Option.bind_eq_some_iff.mp H
           obtain ⟨t1580, A290, H⟩ := H
           replace H : (laws_FnBehind.j1 kj6 l1 t1562 t1571 (!t1580)) = some r := H
           have A29 := Aside0.mk A290
           clear A290
           have H' := Aside0.mk H
           clear H
           obtain ⟨Ao30, co30, eo30⟩ := Kd.R_slice HO_8.out
           subst eo30
           obtain ⟨Ao31, co31, eo31⟩ := Kd.R_slice HO1574.out
           subst eo31
           obtain ⟨Ao32, co32, eo32⟩ := Kd.R_slice HO1578.out
           subst eo32
           as_aux_lemma =>
            go_wp2_with (first | (go_at_call 43; (with_reducible refine (laws_has.calls kj6 _ _ t1562 t1559 true _ ?side1 ?side2 A27.out).mono ?_); (case side1 => exact ca (Kd.R_reads' HO_8.out).2.2); (case side2 => exact (Kd.R_reads' HO_8.out).2.1); rintro e w' ⟨rfl, ⟨nd, rfl⟩⟩) | (go_at_call 43; (with_reducible refine (laws_has.calls kj6 _ _ t1571 t1558 t1580 _ ?side1 ?side2 A29.out).mono ?_); (case side1 => exact ca (Kd.R_reads' HO1574.out).2.2); (case side2 => exact (Kd.R_reads' HO1574.out).2.1); rintro e w' ⟨rfl, ⟨nd, rfl⟩⟩))
            go_meet
            case rel => exact ⟨_, (!t1580), (by first | rfl | (simp; done) | (simp [*]; done)), H', ⟨by have := HJ6.out; first | omega | exact Nat.le_refl _⟩, rm_ HO_8 (fun _ hk => hk.2), rm_ HO1574 (fun _ hk => hk.2), ⟨hB HB⟩⟩
         case rest =>
          as_aux_lemma =>
           clear HC21
           try clear c1
           try clear c3
           try clear c3b0
           try clear c16
           try clear c18
           obtain ⟨kq, x113_20, rfl, HA, HJ20, HO_8, HO_12, HB⟩ := hcut
           cases kq with
           | zero => exact absurd HA.out (by simp [laws_FnBehind.j1])
           | succ kj20 =>
            have H := HA.out
            clear HA
            simp only [laws_FnBehind.j1] at H
            by_cases c39 : x113_20 = true
            ·subst c39
             rw [if_pos rfl] at H
             obtain rfl := Option.some.inj H
             go_wp2
             go_ret
             exact ⟨by first | rfl | (simp [errW_none, errW_some] <;> rfl) | (simp [*, errW_none, errW_some] <;> rfl), by repeat (first | (with_reducible first | exact HB.out | apply below_alloc | apply pw_below_drewN | apply below_drew1) | exact HB.out)⟩
            replace c39 := Bool.eq_false_iff.mpr c39
            subst c39
            rw [if_neg (show ¬ (false = true) by decide)] at H
            have H' := Aside0.mk H
            clear H
            obtain ⟨Ao40, co40, eo40⟩ := Kd.R_slice HO_8.out
            subst eo40
            go_wp2
            go_loopg [116] kj20 (fun kq v116 w' => ∃ (x116_3 : Int), v116 = .int .i64 x116_3 ∧ Aside0 (laws_FnBehind.l0 kq l1 t1571 t1562 (t1562.length : Int) x116_3 = some r) ∧ Aside0 (kq ≤ kj20) ∧ Aside0 (Kd.R (Kd.int .i64) 3 w' w.heap.size (fun k_ => no_ (.slice Ao40 t1562.length co40) k_) v1573 t1571) ∧ Aside0 (Kd.R (Kd.int .i64) 3 w' w.heap.size (fun k_ => no_ v1573 k_) (.slice Ao40 t1562.length co40) t1562) ∧ Aside0 (Below w.heap.size w w'))
            case atStart => exact ⟨(0), (by first | rfl | (simp; done) | (simp [*]; done)), H', ⟨Nat.le_refl _⟩, ⟨ra HO_12.out⟩, ⟨ra HO_8.out⟩, ⟨hB HB⟩⟩
            case round =>
             as_aux_lemma =>
              clear H'
              try clear c1
              try clear c3
              try clear c3b0
              try clear c16
              try clear c18
              try clear c39
              obtain ⟨x116_3, rfl, HA, HK3, HO_12, HO_114, HB⟩ := hrel
              cases gk with
              | zero => exact absurd HA.out (by simp [laws_FnBehind.l0])
              | succ k3 =>
               have H := HA.out
               clear HA
               simp only [laws_FnBehind.l0] at H
               by_cases c41 : x116_3 < (t1562.length : Int)
               rotate_left
               ·rw [if_neg c41] at H
                have c41b0 : decide (x116_3 < (t1562.length : Int)) = false := decide_eq_false c41
                clear c41
                have H' := Aside0.mk H
                clear H
                go_wp2
                go_meet
                case rel => exact ⟨_, H', ⟨by have := HJ6.out; have := HJ20.out; have := HK3.out; first | omega | exact Nat.le_refl _⟩, ⟨hB HB⟩⟩
               rw [if_pos c41] at H
               have c41b0 : decide (x116_3 < (t1562.length : Int)) = true := decide_eq_true c41
               clear c41
               by_cases c42 : 0 ≤ x116_3
               rotate_left
               ·rw [if_neg c42] at H
                exact absurd H (by simp)
               rw [if_pos c42] at H
               have c42b0 : decide (0 ≤ x116_3) = true := decide_eq_true c42
               clear c42
               by_cases c43 : x116_3 < (t1562.length : Int)
               rotate_left
               ·rw [if_neg c43] at H
                exact absurd H (by simp)
               rw [if_pos c43] at H
               have c43b0 : decide (x116_3 < (t1562.length : Int)) = true := decide_eq_true c43
               clear c43
               replace H := Option.bind_eq_some_iff.mp H
               obtain ⟨t1582, A440, H⟩ := H
               replace H : (if t1582 = true then (some false) else (laws_FnBehind.l0 k3 l1 t1571 t1562 (t1562.length : Int) (wrap64 (x116_3 + 1)))) = some r := H
               have A44 := Aside0.mk A440
               clear A440
               by_cases c45 : t1582 = true
               ·subst c45
                rw [if_pos rfl] at H
                obtain rfl := Option.some.inj H
                have p1581 : 0 ≤ (x116_3 : Int) := of_decide_eq_true (by first | (with_reducible assumption) | assumption)
                have q1581 : x116_3 < (t1562.length : Int) := of_decide_eq_true (by first | (with_reducible assumption) | assumption)
                obtain ⟨ad1581, e1581, hx1581_0⟩ := Kd.at_int (Kd.R_reads' HO_114.out).2.2 x116_3 p1581 q1581
                cases e1581
                replace p1581 := eq_true p1581
                replace q1581 := eq_true q1581
                obtain ⟨Ao46, co46, eo46⟩ := Kd.R_slice HO_12.out
                subst eo46
                as_aux_lemma =>
                 go_wp2_with (first | ((with_reducible refine gate_callee (f := 43) rfl ?_); refine goesL_ (some 122) rfl rfl Try.func43 (by kernel_rfl) rfl #[.slice Ao46 t1571.length co46, .int .i64 (rd t1562 x116_3)] rfl tm_ ?_; (with_reducible refine (laws_has.calls k3 _ _ t1571 (rd t1562 x116_3) true _ ?side1 ?side2 A44.out).mono ?_); (case side1 => exact ca (Kd.R_reads' HO_12.out).2.2); (case side2 => exact (Kd.R_reads' HO_12.out).2.1); rintro e w' ⟨rfl, ⟨nd, rfl⟩⟩; refine ⟨_, rfl, ?_⟩))
                 go_ret
                 exact ⟨by first | rfl | (simp [errW_none, errW_some] <;> rfl) | (simp [*, errW_none, errW_some] <;> rfl), by repeat (first | (with_reducible first | exact HB.out | apply below_alloc | apply pw_below_drewN | apply below_drew1) | exact HB.out)⟩
               replace c45 := Bool.eq_false_iff.mpr c45
               subst c45
               rw [if_neg (show ¬ (false = true) by decide)] at H
               have H' := Aside0.mk H
               clear H
               have p1581 : 0 ≤ (x116_3 : Int) := of_decide_eq_true (by first | (with_reducible assumption) | assumption)
               have q1581 : x116_3 < (t1562.length : Int) := of_decide_eq_true (by first | (with_reducible assumption) | assumption)
               obtain ⟨ad1581, e1581, hx1581_0⟩ := Kd.at_int (Kd.R_reads' HO_114.out).2.2 x116_3 p1581 q1581
               cases e1581
               replace p1581 := eq_true p1581
               replace q1581 := eq_true q1581
               obtain ⟨Ao47, co47, eo47⟩ := Kd.R_slice HO_12.out
               subst eo47
               as_aux_lemma =>
                go_wp2_with (first | ((with_reducible refine gate_callee (f := 43) rfl ?_); refine goesL_ (some 122) rfl rfl Try.func43 (by kernel_rfl) rfl #[.slice Ao47 t1571.length co47, .int .i64 (rd t1562 x116_3)] rfl tm_ ?_; (with_reducible refine (laws_has.calls k3 _ _ t1571 (rd t1562 x116_3) false _ ?side1 ?side2 A44.out).mono ?_); (case side1 => exact ca (Kd.R_reads' HO_12.out).2.2); (case side2 => exact (Kd.R_reads' HO_12.out).2.1); rintro e w' ⟨rfl, ⟨nd, rfl⟩⟩; refine ⟨_, rfl, ?_⟩))
                go_roundg k3
                case measure => have := HJ6.out; have := HJ20.out; have := HK3.out; omega
                case rel => exact ⟨(wrap64 (x116_3 + 1)), (by first | rfl | (simp; done) | (simp [*]; done)), H', ⟨by have := HJ6.out; have := HJ20.out; have := HK3.out; omega⟩, ⟨ra HO_12.out⟩, ⟨ra HO_114.out⟩, ⟨hB HB⟩⟩
      case rest =>
       as_aux_lemma =>
        clear HC17
        try clear c1
        try clear c3
        try clear c3b0
        try clear c16
        obtain ⟨kq, HA, HJ16, HB⟩ := hcut
        cases kq with
        | zero => exact absurd HA.out (by simp [laws_FnBehind.j3])
        | succ kj16 =>
         have H := HA.out
         clear HA
         simp only [laws_FnBehind.j3] at H
         replace H := Option.bind_eq_some_iff.mp H
         obtain ⟨⟨t1583, t1584⟩, A480, H⟩ := H
         replace H : ((impl_BranchesAt.f kj16 t1583 t1584).bind fun bt1587 => ((spec_BranchesAt.f kj16 t1583 t1584).bind fun bt1591 => ((spec_DrawJoinSpot.f kj16 l1).bind fun bt1595 => ((impl_JoinSpot.f kj16 bt1595.1 bt1595.2).bind fun bt1599 => ((spec_JoinSpot.f kj16 bt1595.1 bt1595.2).bind fun bt1603 => ((impl_LeaveSpot.f kj16 bt1595.1 bt1595.2).bind fun bt1607 => ((spec_LeaveSpot.f kj16 bt1595.1 bt1595.2).bind fun bt1611 => (if (bt1587.2 != bt1591.2) = true then (laws_FnBehind.j4 kj16 bt1595.2 bt1599.1 bt1599.2 bt1607.1 true) else ((laws_sameInts.f kj16 bt1587.1 bt1591.1).bind fun t1615 => (if t1615 = true then (if (bt1599.2 != bt1603.2) = true then (laws_FnBehind.j4 kj16 bt1595.2 bt1599.1 bt1599.2 bt1607.1 true) else ((laws_sameInts.f kj16 bt1599.1 bt1603.1).bind fun t1616 => (if t1616 = true then (if (bt1607.2 != bt1611.2) = true then (laws_FnBehind.j4 kj16 bt1595.2 bt1599.1 bt1599.2 bt1607.1 true) else ((laws_sameInts.f kj16 bt1607.1 bt1611.1).bind fun t1617 => (laws_FnBehind.j4 kj16 bt1595.2 bt1599.1 bt1599.2 bt1607.1 (!t1617)))) else (laws_FnBehind.j4 kj16 bt1595.2 bt1599.1 bt1599.2 bt1607.1 true)))) else (laws_FnBehind.j4 kj16 bt1595.2 bt1599.1 bt1599.2 bt1607.1 true))))))))))) = some r := H
         have A48 := Aside0.mk A480
         clear A480
         replace H := Option.bind_eq_some_iff.mp H
         obtain ⟨⟨t1587, t1588⟩, A490, H⟩ := H
         replace H : ((spec_BranchesAt.f kj16 t1583 t1584).bind fun bt1591 => ((spec_DrawJoinSpot.f kj16 l1).bind fun bt1595 => ((impl_JoinSpot.f kj16 bt1595.1 bt1595.2).bind fun bt1599 => ((spec_JoinSpot.f kj16 bt1595.1 bt1595.2).bind fun bt1603 => ((impl_LeaveSpot.f kj16 bt1595.1 bt1595.2).bind fun bt1607 => ((spec_LeaveSpot.f kj16 bt1595.1 bt1595.2).bind fun bt1611 => (if (t1588 != bt1591.2) = true then (laws_FnBehind.j4 kj16 bt1595.2 bt1599.1 bt1599.2 bt1607.1 true) else ((laws_sameInts.f kj16 t1587 bt1591.1).bind fun t1615 => (if t1615 = true then (if (bt1599.2 != bt1603.2) = true then (laws_FnBehind.j4 kj16 bt1595.2 bt1599.1 bt1599.2 bt1607.1 true) else ((laws_sameInts.f kj16 bt1599.1 bt1603.1).bind fun t1616 => (if t1616 = true then (if (bt1607.2 != bt1611.2) = true then (laws_FnBehind.j4 kj16 bt1595.2 bt1599.1 bt1599.2 bt1607.1 true) else ((laws_sameInts.f kj16 bt1607.1 bt1611.1).bind fun t1617 => (laws_FnBehind.j4 kj16 bt1595.2 bt1599.1 bt1599.2 bt1607.1 (!t1617)))) else (laws_FnBehind.j4 kj16 bt1595.2 bt1599.1 bt1599.2 bt1607.1 true)))) else (laws_FnBehind.j4 kj16 bt1595.2 bt1599.1 bt1599.2 bt1607.1 true)))))))))) = some r := H
         have A49 := Aside0.mk A490
         clear A490
         replace H := Option.bind_eq_some_iff.mp H
         obtain ⟨⟨t1591, t1594⟩, A500, H⟩ := H
         replace H : ((spec_DrawJoinSpot.f kj16 l1).bind fun bt1595 => ((impl_JoinSpot.f kj16 bt1595.1 bt1595.2).bind fun bt1599 => ((spec_JoinSpot.f kj16 bt1595.1 bt1595.2).bind fun bt1603 => ((impl_LeaveSpot.f kj16 bt1595.1 bt1595.2).bind fun bt1607 => ((spec_LeaveSpot.f kj16 bt1595.1 bt1595.2).bind fun bt1611 => (if (t1588 != t1594) = true then (laws_FnBehind.j4 kj16 bt1595.2 bt1599.1 bt1599.2 bt1607.1 true) else ((laws_sameInts.f kj16 t1587 t1591).bind fun t1615 => (if t1615 = true then (if (bt1599.2 != bt1603.2) = true then (laws_FnBehind.j4 kj16 bt1595.2 bt1599.1 bt1599.2 bt1607.1 true) else ((laws_sameInts.f kj16 bt1599.1 bt1603.1).bind fun t1616 => (if t1616 = true then (if (bt1607.2 != bt1611.2) = true then (laws_FnBehind.j4 kj16 bt1595.2 bt1599.1 bt1599.2 bt1607.1 true) else ((laws_sameInts.f kj16 bt1607.1 bt1611.1).bind fun t1617 => (laws_FnBehind.j4 kj16 bt1595.2 bt1599.1 bt1599.2 bt1607.1 (!t1617)))) else (laws_FnBehind.j4 kj16 bt1595.2 bt1599.1 bt1599.2 bt1607.1 true)))) else (laws_FnBehind.j4 kj16 bt1595.2 bt1599.1 bt1599.2 bt1607.1 true))))))))) = some r := H
         have A50 := Aside0.mk A500
         clear A500
         replace H := Option.bind_eq_some_iff.mp H
         obtain ⟨⟨t1595, t1598⟩, A510, H⟩ := H
         replace H : ((impl_JoinSpot.f kj16 t1595 t1598).bind fun bt1599 => ((spec_JoinSpot.f kj16 t1595 t1598).bind fun bt1603 => ((impl_LeaveSpot.f kj16 t1595 t1598).bind fun bt1607 => ((spec_LeaveSpot.f kj16 t1595 t1598).bind fun bt1611 => (if (t1588 != t1594) = true then (laws_FnBehind.j4 kj16 t1598 bt1599.1 bt1599.2 bt1607.1 true) else ((laws_sameInts.f kj16 t1587 t1591).bind fun t1615 => (if t1615 = true then (if (bt1599.2 != bt1603.2) = true then (laws_FnBehind.j4 kj16 t1598 bt1599.1 bt1599.2 bt1607.1 true) else ((laws_sameInts.f kj16 bt1599.1 bt1603.1).bind fun t1616 => (if t1616 = true then (if (bt1607.2 != bt1611.2) = true then (laws_FnBehind.j4 kj16 t1598 bt1599.1 bt1599.2 bt1607.1 true) else ((laws_sameInts.f kj16 bt1607.1 bt1611.1).bind fun t1617 => (laws_FnBehind.j4 kj16 t1598 bt1599.1 bt1599.2 bt1607.1 (!t1617)))) else (laws_FnBehind.j4 kj16 t1598 bt1599.1 bt1599.2 bt1607.1 true)))) else (laws_FnBehind.j4 kj16 t1598 bt1599.1 bt1599.2 bt1607.1 true)))))))) = some r := H
         have A51 := Aside0.mk A510
         clear A510
         replace H := Option.bind_eq_some_iff.mp H
         obtain ⟨⟨t1599, t1600⟩, A520, H⟩ := H
         replace H : ((spec_JoinSpot.f kj16 t1595 t1598).bind fun bt1603 => ((impl_LeaveSpot.f kj16 t1595 t1598).bind fun bt1607 => ((spec_LeaveSpot.f kj16 t1595 t1598).bind fun bt1611 => (if (t1588 != t1594) = true then (laws_FnBehind.j4 kj16 t1598 t1599 t1600 bt1607.1 true) else ((laws_sameInts.f kj16 t1587 t1591).bind fun t1615 => (if t1615 = true then (if (t1600 != bt1603.2) = true then (laws_FnBehind.j4 kj16 t1598 t1599 t1600 bt1607.1 true) else ((laws_sameInts.f kj16 t1599 bt1603.1).bind fun t1616 => (if t1616 = true then (if (bt1607.2 != bt1611.2) = true then (laws_FnBehind.j4 kj16 t1598 t1599 t1600 bt1607.1 true) else ((laws_sameInts.f kj16 bt1607.1 bt1611.1).bind fun t1617 => (laws_FnBehind.j4 kj16 t1598 t1599 t1600 bt1607.1 (!t1617)))) else (laws_FnBehind.j4 kj16 t1598 t1599 t1600 bt1607.1 true)))) else (laws_FnBehind.j4 kj16 t1598 t1599 t1600 bt1607.1 true))))))) = some r := H
         have A52 := Aside0.mk A520
         clear A520
         replace H := Option.bind_eq_some_iff.mp H
         obtain ⟨⟨t1603, t1604⟩, A530, H⟩ := H
         replace H : ((impl_LeaveSpot.f kj16 t1595 t1598).bind fun bt1607 => ((spec_LeaveSpot.f kj16 t1595 t1598).bind fun bt1611 => (if (t1588 != t1594) = true then (laws_FnBehind.j4 kj16 t1598 t1599 t1600 bt1607.1 true) else ((laws_sameInts.f kj16 t1587 t1591).bind fun t1615 => (if t1615 = true then (if (t1600 != t1604) = true then (laws_FnBehind.j4 kj16 t1598 t1599 t1600 bt1607.1 true) else ((laws_sameInts.f kj16 t1599 t1603).bind fun t1616 => (if t1616 = true then (if (bt1607.2 != bt1611.2) = true then (laws_FnBehind.j4 kj16 t1598 t1599 t1600 bt1607.1 true) else ((laws_sameInts.f kj16 bt1607.1 bt1611.1).bind fun t1617 => (laws_FnBehind.j4 kj16 t1598 t1599 t1600 bt1607.1 (!t1617)))) else (laws_FnBehind.j4 kj16 t1598 t1599 t1600 bt1607.1 true)))) else (laws_FnBehind.j4 kj16 t1598 t1599 t1600 bt1607.1 true)))))) = some r := H
         have A53 := Aside0.mk A530
         clear A530
         replace H := Option.bind_eq_some_iff.mp H
         obtain ⟨⟨t1607, t1608⟩, A540, H⟩ := H
         replace H : ((spec_LeaveSpot.f kj16 t1595 t1598).bind fun bt1611 => (if (t1588 != t1594) = true then (laws_FnBehind.j4 kj16 t1598 t1599 t1600 t1607 true) else ((laws_sameInts.f kj16 t1587 t1591).bind fun t1615 => (if t1615 = true then (if (t1600 != t1604) = true then (laws_FnBehind.j4 kj16 t1598 t1599 t1600 t1607 true) else ((laws_sameInts.f kj16 t1599 t1603).bind fun t1616 => (if t1616 = true then (if (t1608 != bt1611.2) = true then (laws_FnBehind.j4 kj16 t1598 t1599 t1600 t1607 true) else ((laws_sameInts.f kj16 t1607 bt1611.1).bind fun t1617 => (laws_FnBehind.j4 kj16 t1598 t1599 t1600 t1607 (!t1617)))) else (laws_FnBehind.j4 kj16 t1598 t1599 t1600 t1607 true)))) else (laws_FnBehind.j4 kj16 t1598 t1599 t1600 t1607 true))))) = some r := H
         have A54 := Aside0.mk A540
         clear A540
         replace H := Option.bind_eq_some_iff.mp H
         obtain ⟨⟨t1611, t1612⟩, A550, H⟩ := H
         replace H : (if (t1588 != t1594) = true then (laws_FnBehind.j4 kj16 t1598 t1599 t1600 t1607 true) else ((laws_sameInts.f kj16 t1587 t1591).bind fun t1615 => (if t1615 = true then (if (t1600 != t1604) = true then (laws_FnBehind.j4 kj16 t1598 t1599 t1600 t1607 true) else ((laws_sameInts.f kj16 t1599 t1603).bind fun t1616 => (if t1616 = true then (if (t1608 != t1612) = true then (laws_FnBehind.j4 kj16 t1598 t1599 t1600 t1607 true) else ((laws_sameInts.f kj16 t1607 t1611).bind fun t1617 => (laws_FnBehind.j4 kj16 t1598 t1599 t1600 t1607 (!t1617)))) else (laws_FnBehind.j4 kj16 t1598 t1599 t1600 t1607 true)))) else (laws_FnBehind.j4 kj16 t1598 t1599 t1600 t1607 true)))) = some r := H
         have A55 := Aside0.mk A550
         clear A550
         have HC56 := Aside0.mk H
         clear H
         as_aux_lemma =>
          go_upto_region 27 with (first | ((with_reducible refine gate_callee (f := 44) rfl ?_); refine goesL_ (some 126) rfl rfl Try.func44 (by kernel_rfl) rfl #[.slice A1 l1.length c1] rfl tm_ ?_; (with_reducible refine (spec_DrawBranchesAt.calls kj16 _ _ l1 t1583 t1584 _ ?side1 ?side2 A48.out).mono ?_); (case side1 => exact ca (Kd.C_below HR1.out HB.out)); (case side2 => exact HC1.out); rintro e w57 ⟨v1585, rfl, ho0, hb⟩; refine ⟨_, rfl, ?_⟩; have HO1586 := Aside0.mk (Kd.R_lower ho0 (below_size (hB HB))); replace HB := bst_ HB hb; clear hb ho0; obtain ⟨Ao58, co58, eo58⟩ := Kd.R_slice HO1586.out; subst eo58) | ((with_reducible refine gate_callee (f := 45) rfl ?_); refine goesL_ (some 132) rfl rfl Try.func45 (by kernel_rfl) rfl #[.slice Ao58 t1583.length co58, .int .i64 t1584] rfl tm_ ?_; (with_reducible refine (impl_BranchesAt.calls kj16 _ _ t1583 t1584 t1587 t1588 _ ?side1 ?side2 A49.out).mono ?_); (case side1 => exact ca (Kd.R_reads' HO1586.out).2.2); (case side2 => exact (Kd.R_reads' HO1586.out).2.1); rintro e w59 ⟨v1589, rfl, ho0, hb⟩; refine ⟨_, rfl, ?_⟩; have HO1590 := Aside0.mk (Kd.R_lower (Kd.R_new' ho0 (rl_ HO1586)) (below_size (hB HB))); replace HO1586 := re_ HO1586 ho0 hb; replace HB := bst_ HB hb; clear hb ho0) | ((with_reducible refine gate_callee (f := 46) rfl ?_); refine goesL_ (some 138) rfl rfl Try.func46 (by kernel_rfl) rfl #[.slice Ao58 t1583.length co58, .int .i64 t1584] rfl tm_ ?_; (with_reducible refine (spec_BranchesAt.calls kj16 _ _ t1583 t1584 t1591 t1594 _ ?side1 ?side2 A50.out).mono ?_); (case side1 => exact ca (Kd.R_reads' HO1586.out).2.2); (case side2 => exact (Kd.R_reads' HO1586.out).2.1); rintro e w60 ⟨v1592, rfl, ho0, hb⟩; refine ⟨_, rfl, ?_⟩; have HO1593 := Aside0.mk (Kd.V_lower (Kd.V_mono (ok' := fun k_ => no_ (.slice Ao58 t1583.length co58) k_ ∧ no_ v1589 k_) ho0 (fun k_ hk_ => ⟨(Kd.fresh' (rl_ HO1586) k_ hk_), (Kd.fresh' (rl_ HO1590) k_ hk_)⟩)) (below_size (hB HB))); replace HO1586 := rb_ HO1586 hb; replace HO1590 := rb_ HO1590 hb; replace HB := bst_ HB hb; clear hb ho0) | ((with_reducible refine gate_callee (f := 47) rfl ?_); refine goesL_ (some 143) rfl rfl Try.func47 (by kernel_rfl) rfl #[.slice A1 l1.length c1] rfl tm_ ?_; (with_reducible refine (spec_DrawJoinSpot.calls kj16 _ _ l1 t1595 t1598 _ ?side1 ?side2 A51.out).mono ?_); (case side1 => exact ca (Kd.C_below HR1.out HB.out)); (case side2 => exact HC1.out); rintro e w61 ⟨v1596, rfl, ho0, hb⟩; refine ⟨_, rfl, ?_⟩; have HO1597 := Aside0.mk (Kd.V_lower (Kd.V_mono (ok' := fun k_ => no_ (.slice Ao58 t1583.length co58) k_ ∧ no_ v1589 k_) ho0 (fun k_ hk_ => ⟨(Kd.fresh' (rl_ HO1586) k_ hk_), (Kd.fresh' (rl_ HO1590) k_ hk_)⟩)) (below_size (hB HB))); replace HO1586 := rb_ HO1586 hb; replace HO1590 := rb_ HO1590 hb; replace HO1593 := Aside0.mk (Kd.V_below (by (with_reducible repeat (first | apply Kd.V_alloc | apply Kd.V_drewN | apply Kd.V_drew)); exact HO1593.out) hb); replace HB := bst_ HB hb; clear hb ho0; obtain ⟨Ao62, co62, eo62⟩ := Kd.V_slice HO1597.out; subst eo62) | ((with_reducible refine gate_callee (f := 48) rfl ?_); refine goesL_ (some 149) rfl rfl Try.func48 (by kernel_rfl) rfl #[.slice Ao62 t1595.length co62, .int .i64 t1598] rfl tm_ ?_; (with_reducible refine (impl_JoinSpot.calls kj16 _ _ t1595 t1598 t1599 t1600 _ ?side1 ?side2 A52.out).mono ?_); (case side1 => repeat (first | exact (Kd.V_reads' HO1597.out).2.2 | (with_reducible refine Kd.C_alloc ?_ _) | (with_reducible refine Kd.C_drewN ?_ _) | (with_reducible refine Kd.C_drew ?_))); (case side2 => exact (Kd.V_reads' HO1597.out).2.1); rintro e w63 ⟨v1601, rfl, ho0, hb⟩; refine ⟨_, rfl, ?_⟩; have HO1602 := Aside0.mk (Kd.R_lower (Kd.R_new' (Kd.R_new' ho0 (rl_ HO1586)) (rl_ HO1590)) (below_size (hB HB))); replace HO1586 := re_ HO1586 ho0 hb; replace HO1590 := re_ HO1590 ho0 hb; replace HO1593 := Aside0.mk (Kd.V_elder' (by (with_reducible repeat (first | apply Kd.V_alloc | apply Kd.V_drewN | apply Kd.V_drew)); exact HO1593.out) (Kd.R_base ho0) hb); replace HO1597 := Aside0.mk (Kd.V_elder' (by (with_reducible repeat (first | apply Kd.V_alloc | apply Kd.V_drewN | apply Kd.V_drew)); exact HO1597.out) (Kd.R_base ho0) hb); replace HB := bst_ HB hb; clear hb ho0) | ((with_reducible refine gate_callee (f := 49) rfl ?_); refine goesL_ (some 155) rfl rfl Try.func49 (by kernel_rfl) rfl #[.slice Ao62 t1595.length co62, .int .i64 t1598] rfl tm_ ?_; (with_reducible refine (spec_JoinSpot.calls kj16 _ _ t1595 t1598 t1603 t1604 _ ?side1 ?side2 A53.out).mono ?_); (case side1 => repeat (first | exact (Kd.V_reads' HO1597.out).2.2 | (with_reducible refine Kd.C_alloc ?_ _) | (with_reducible refine Kd.C_drewN ?_ _) | (with_reducible refine Kd.C_drew ?_))); (case side2 => exact (Kd.V_reads' HO1597.out).2.1); rintro e w64 ⟨v1605, rfl, ho0, hb⟩; refine ⟨_, rfl, ?_⟩; have HO1606 := Aside0.mk (Kd.R_lower (Kd.R_new' (Kd.R_new' (Kd.R_new' ho0 (rl_ HO1586)) (rl_ HO1590)) (rl_ HO1602)) (below_size (hB HB))); replace HO1586 := re_ HO1586 ho0 hb; replace HO1590 := re_ HO1590 ho0 hb; replace HO1593 := Aside0.mk (Kd.V_elder' (by (with_reducible repeat (first | apply Kd.V_alloc | apply Kd.V_drewN | apply Kd.V_drew)); exact HO1593.out) (Kd.R_base ho0) hb); replace HO1597 := Aside0.mk (Kd.V_elder' (by (with_reducible repeat (first | apply Kd.V_alloc | apply Kd.V_drewN | apply Kd.V_drew)); exact HO1597.out) (Kd.R_base ho0) hb); replace HO1602 := re_ HO1602 ho0 hb; replace HB := bst_ HB hb; clear hb ho0) | ((with_reducible refine gate_callee (f := 50) rfl ?_); refine goesL_ (some 161) rfl rfl Try.func50 (by kernel_rfl) rfl #[.slice Ao62 t1595.length co62, .int .i64 t1598] rfl tm_ ?_; (with_reducible refine (impl_LeaveSpot.calls kj16 _ _ t1595 t1598 t1607 t1608 _ ?side1 ?side2 A54.out).mono ?_); (case side1 => repeat (first | exact (Kd.V_reads' HO1597.out).2.2 | (with_reducible refine Kd.C_alloc ?_ _) | (with_reducible refine Kd.C_drewN ?_ _) | (with_reducible refine Kd.C_drew ?_))); (case side2 => exact (Kd.V_reads' HO1597.out).2.1); rintro e w65 ⟨v1609, rfl, ho0, hb⟩; refine ⟨_, rfl, ?_⟩; have HO1610 := Aside0.mk (Kd.R_lower (Kd.R_new' (Kd.R_new' (Kd.R_new' (Kd.R_new' ho0 (rl_ HO1586)) (rl_ HO1590)) (rl_ HO1602)) (rl_ HO1606)) (below_size (hB HB))); replace HO1586 := re_ HO1586 ho0 hb; replace HO1590 := re_ HO1590 ho0 hb; replace HO1593 := Aside0.mk (Kd.V_elder' (by (with_reducible repeat (first | apply Kd.V_alloc | apply Kd.V_drewN | apply Kd.V_drew)); exact HO1593.out) (Kd.R_base ho0) hb); replace HO1597 := Aside0.mk (Kd.V_elder' (by (with_reducible repeat (first | apply Kd.V_alloc | apply Kd.V_drewN | apply Kd.V_drew)); exact HO1597.out) (Kd.R_base ho0) hb); replace HO1602 := re_ HO1602 ho0 hb; replace HO1606 := re_ HO1606 ho0 hb; replace HB := bst_ HB hb; clear hb ho0) | ((with_reducible refine gate_callee (f := 51) rfl ?_); refine goesL_ (some 167) rfl rfl Try.func51 (by kernel_rfl) rfl #[.slice Ao62 t1595.length co62, .int .i64 t1598] rfl tm_ ?_; (with_reducible refine (spec_LeaveSpot.calls kj16 _ _ t1595 t1598 t1611 t1612 _ ?side1 ?side2 A55.out).mono ?_); (case side1 => repeat (first | exact (Kd.V_reads' HO1597.out).2.2 | (with_reducible refine Kd.C_alloc ?_ _) | (with_reducible refine Kd.C_drewN ?_ _) | (with_reducible refine Kd.C_drew ?_))); (case side2 => exact (Kd.V_reads' HO1597.out).2.1); rintro e w66 ⟨v1613, rfl, ho0, hb⟩; refine ⟨_, rfl, ?_⟩; have HO1614 := Aside0.mk (Kd.R_lower (Kd.R_new' (Kd.R_new' (Kd.R_new' (Kd.R_new' (Kd.R_new' ho0 (rl_ HO1586)) (rl_ HO1590)) (rl_ HO1602)) (rl_ HO1606)) (rl_ HO1610)) (below_size (hB HB))); replace HO1586 := re_ HO1586 ho0 hb; replace HO1590 := re_ HO1590 ho0 hb; replace HO1593 := Aside0.mk (Kd.V_elder' (by (with_reducible repeat (first | apply Kd.V_alloc | apply Kd.V_drewN | apply Kd.V_drew)); exact HO1593.out) (Kd.R_base ho0) hb); replace HO1597 := Aside0.mk (Kd.V_elder' (by (with_reducible repeat (first | apply Kd.V_alloc | apply Kd.V_drewN | apply Kd.V_drew)); exact HO1597.out) (Kd.R_base ho0) hb); replace HO1602 := re_ HO1602 ho0 hb; replace HO1606 := re_ HO1606 ho0 hb; replace HO1610 := re_ HO1610 ho0 hb; replace HB := bst_ HB hb; clear hb ho0))
          (try simp only [Act.put, List.setIfInBounds_toArray, List.set_cons_zero, List.set_cons_succ])
          go_cut [200] (fun v200 wc => ∃ (kq : Nat) (x200_55 : Bool), v200 = .bool x200_55 ∧ Aside0 (laws_FnBehind.j4 kq t1598 t1599 t1600 t1607 x200_55 = some r) ∧ Aside0 (kq ≤ kj16) ∧ Aside0 (Kd.R (Kd.int .i64) 3 wc w.heap.size (fun k_ => no_ v1609 k_) v1601 t1599) ∧ Aside0 (Kd.R (Kd.int .i64) 3 wc w.heap.size (fun k_ => no_ v1601 k_) v1609 t1607) ∧ Aside0 (Below w.heap.size w wc))
          case first =>
           as_aux_lemma =>
            have H := HC56.out
            clear HC56
            by_cases c67 : (t1588 != t1594) = true
            ·rw [if_pos c67] at H
             have c67b0 : (t1588 != t1594) = true := c67
             (try (have c67b1 : decide (t1588 = t1594) = false := by simpa using c67))
             (try (have c67b2 : (t1588 == t1594) = false := by simpa using c67))
             (try (have c67b3 : ¬ (t1588 = t1594) := by simpa using c67))
             clear c67
             (first | rw [c67b0] | (simp only [i64_w, i32_w]; rw [c67b0]) | skip)
             have H' := Aside0.mk H
             clear H
             go_wp2
             go_meet
             case rel => exact ⟨_, (true), (by first | rfl | (simp; done) | (simp [*]; done)), H', ⟨by have := HJ6.out; have := HJ16.out; first | omega | exact Nat.le_refl _⟩, rm_ HO1602 (fun _ hk => hk.1.2), rm_ HO1610 (fun _ hk => hk.1.1.2), ⟨hB HB⟩⟩
            rw [if_neg c67] at H
            have c67b0 : (t1588 != t1594) = false := by simpa using c67
            (try (have c67b1 : decide (t1588 = t1594) = true := by simpa using c67))
            (try (have c67b2 : (t1588 == t1594) = true := by simpa using c67))
            clear c67
            (first | rw [c67b0] | (simp only [i64_w, i32_w]; rw [c67b0]) | skip)
            replace H := Option.bind_eq_some_iff.mp H
            obtain ⟨t1615, A680, H⟩ := H
            replace H : (if t1615 = true then (if (t1600 != t1604) = true then (laws_FnBehind.j4 kj16 t1598 t1599 t1600 t1607 true) else ((laws_sameInts.f kj16 t1599 t1603).bind fun t1616 => (if t1616 = true then (if (t1608 != t1612) = true then (laws_FnBehind.j4 kj16 t1598 t1599 t1600 t1607 true) else ((laws_sameInts.f kj16 t1607 t1611).bind fun t1617 => (laws_FnBehind.j4 kj16 t1598 t1599 t1600 t1607 (!t1617)))) else (laws_FnBehind.j4 kj16 t1598 t1599 t1600 t1607 true)))) else (laws_FnBehind.j4 kj16 t1598 t1599 t1600 t1607 true)) = some r := H
            have A68 := Aside0.mk A680
            clear A680
            by_cases c69 : t1615 = true
            rotate_left
            ·replace c69 := Bool.eq_false_iff.mpr c69
             subst c69
             rw [if_neg (show ¬ (false = true) by decide)] at H
             have H' := Aside0.mk H
             clear H
             obtain ⟨Ao91, co91, eo91⟩ := Kd.R_slice HO1590.out
             subst eo91
             obtain ⟨Ao92, co92, eo92⟩ := Kd.V_slice HO1593.out
             subst eo92
             as_aux_lemma =>
              go_wp2_with (first | (go_at_call 35; (with_reducible refine (laws_sameInts.calls kj16 _ _ t1587 _ _ t1591 false _ ?side1 ?side2 ?side3 ?side4 A68.out).mono ?_); (case side1 => exact ca (Kd.R_reads' HO1590.out).2.2); (case side2 => exact (Kd.R_reads' HO1590.out).2.1); (case side3 => repeat (first | exact (Kd.V_reads' HO1593.out).2.2 | (with_reducible refine Kd.C_alloc ?_ _) | (with_reducible refine Kd.C_drewN ?_ _) | (with_reducible refine Kd.C_drew ?_))); (case side4 => exact (Kd.V_reads' HO1593.out).2.1); rintro e w' ⟨rfl, ⟨nd, rfl⟩⟩))
              go_meet
              case rel => exact ⟨_, (true), (by first | rfl | (simp; done) | (simp [*]; done)), H', ⟨by have := HJ6.out; have := HJ16.out; first | omega | exact Nat.le_refl _⟩, rm_ HO1602 (fun _ hk => hk.1.2), rm_ HO1610 (fun _ hk => hk.1.1.2), ⟨hB HB⟩⟩
            subst c69
            rw [if_pos rfl] at H
            by_cases c70 : (t1600 != t1604) = true
            ·rw [if_pos c70] at H
             have c70b0 : (t1600 != t1604) = true := c70
             (try (have c70b1 : decide (t1600 = t1604) = false := by simpa using c70))
             (try (have c70b2 : (t1600 == t1604) = false := by simpa using c70))
             (try (have c70b3 : ¬ (t1600 = t1604) := by simpa using c70))
             clear c70
             have H' := Aside0.mk H
             clear H
             obtain ⟨Ao71, co71, eo71⟩ := Kd.R_slice HO1590.out
             subst eo71
             obtain ⟨Ao72, co72, eo72⟩ := Kd.V_slice HO1593.out
             subst eo72
             as_aux_lemma =>
              go_wp2_with (first | (go_at_call 35; (with_reducible refine (laws_sameInts.calls kj16 _ _ t1587 _ _ t1591 true _ ?side1 ?side2 ?side3 ?side4 A68.out).mono ?_); (case side1 => exact ca (Kd.R_reads' HO1590.out).2.2); (case side2 => exact (Kd.R_reads' HO1590.out).2.1); (case side3 => repeat (first | exact (Kd.V_reads' HO1593.out).2.2 | (with_reducible refine Kd.C_alloc ?_ _) | (with_reducible refine Kd.C_drewN ?_ _) | (with_reducible refine Kd.C_drew ?_))); (case side4 => exact (Kd.V_reads' HO1593.out).2.1); rintro e w' ⟨rfl, ⟨nd, rfl⟩⟩))
              go_meet
              case rel => exact ⟨_, (true), (by first | rfl | (simp; done) | (simp [*]; done)), H', ⟨by have := HJ6.out; have := HJ16.out; first | omega | exact Nat.le_refl _⟩, rm_ HO1602 (fun _ hk => hk.1.2), rm_ HO1610 (fun _ hk => hk.1.1.2), ⟨hB HB⟩⟩
            rw [if_neg c70] at H
            have c70b0 : (t1600 != t1604) = false := by simpa using c70
            (try (have c70b1 : decide (t1600 = t1604) = true := by simpa using c70))
            (try (have c70b2 : (t1600 == t1604) = true := by simpa using c70))
            clear c70
            replace H := Option.bind_eq_some_iff.mp H
            obtain ⟨t1616, A730, H⟩ := H
            replace H : (if t1616 = true then (if (t1608 != t1612) = true then (laws_FnBehind.j4 kj16 t1598 t1599 t1600 t1607 true) else ((laws_sameInts.f kj16 t1607 t1611).bind fun t1617 => (laws_FnBehind.j4 kj16 t1598 t1599 t1600 t1607 (!t1617)))) else (laws_FnBehind.j4 kj16 t1598 t1599 t1600 t1607 true)) = some r := H
            have A73 := Aside0.mk A730
            clear A730
            by_cases c74 : t1616 = true
            rotate_left
            ·replace c74 := Bool.eq_false_iff.mpr c74
             subst c74
             rw [if_neg (show ¬ (false = true) by decide)] at H
             have H' := Aside0.mk H
             clear H
             obtain ⟨Ao87, co87, eo87⟩ := Kd.R_slice HO1590.out
             subst eo87
             obtain ⟨Ao88, co88, eo88⟩ := Kd.V_slice HO1593.out
             subst eo88
             as_aux_lemma =>
              go_wp2_with (first | (go_at_call 35; (with_reducible refine (laws_sameInts.calls kj16 _ _ t1587 _ _ t1591 true _ ?side1 ?side2 ?side3 ?side4 A68.out).mono ?_); (case side1 => exact ca (Kd.R_reads' HO1590.out).2.2); (case side2 => exact (Kd.R_reads' HO1590.out).2.1); (case side3 => repeat (first | exact (Kd.V_reads' HO1593.out).2.2 | (with_reducible refine Kd.C_alloc ?_ _) | (with_reducible refine Kd.C_drewN ?_ _) | (with_reducible refine Kd.C_drew ?_))); (case side4 => exact (Kd.V_reads' HO1593.out).2.1); rintro e w' ⟨rfl, ⟨nd, rfl⟩⟩; obtain ⟨Ao89, co89, eo89⟩ := Kd.R_slice HO1602.out; subst eo89; obtain ⟨Ao90, co90, eo90⟩ := Kd.R_slice HO1606.out; subst eo90) | (go_at_call 35; (with_reducible refine (laws_sameInts.calls kj16 _ _ t1599 _ _ t1603 false _ ?side1 ?side2 ?side3 ?side4 A73.out).mono ?_); (case side1 => exact ca (Kd.R_reads' HO1602.out).2.2); (case side2 => exact (Kd.R_reads' HO1602.out).2.1); (case side3 => exact ca (Kd.R_reads' HO1606.out).2.2); (case side4 => exact (Kd.R_reads' HO1606.out).2.1); rintro e w' ⟨rfl, ⟨nd, rfl⟩⟩))
              go_meet
              case rel => exact ⟨_, (true), (by first | rfl | (simp; done) | (simp [*]; done)), H', ⟨by have := HJ6.out; have := HJ16.out; first | omega | exact Nat.le_refl _⟩, rm_ HO1602 (fun _ hk => hk.1.2), rm_ HO1610 (fun _ hk => hk.1.1.2), ⟨hB HB⟩⟩
            subst c74
            rw [if_pos rfl] at H
            by_cases c75 : (t1608 != t1612) = true
            ·rw [if_pos c75] at H
             have c75b0 : (t1608 != t1612) = true := c75
             (try (have c75b1 : decide (t1608 = t1612) = false := by simpa using c75))
             (try (have c75b2 : (t1608 == t1612) = false := by simpa using c75))
             (try (have c75b3 : ¬ (t1608 = t1612) := by simpa using c75))
             clear c75
             have H' := Aside0.mk H
             clear H
             obtain ⟨Ao76, co76, eo76⟩ := Kd.R_slice HO1590.out
             subst eo76
             obtain ⟨Ao77, co77, eo77⟩ := Kd.V_slice HO1593.out
             subst eo77
             as_aux_lemma =>
              go_wp2_with (first | (go_at_call 35; (with_reducible refine (laws_sameInts.calls kj16 _ _ t1587 _ _ t1591 true _ ?side1 ?side2 ?side3 ?side4 A68.out).mono ?_); (case side1 => exact ca (Kd.R_reads' HO1590.out).2.2); (case side2 => exact (Kd.R_reads' HO1590.out).2.1); (case side3 => repeat (first | exact (Kd.V_reads' HO1593.out).2.2 | (with_reducible refine Kd.C_alloc ?_ _) | (with_reducible refine Kd.C_drewN ?_ _) | (with_reducible refine Kd.C_drew ?_))); (case side4 => exact (Kd.V_reads' HO1593.out).2.1); rintro e w' ⟨rfl, ⟨nd, rfl⟩⟩; obtain ⟨Ao78, co78, eo78⟩ := Kd.R_slice HO1602.out; subst eo78; obtain ⟨Ao79, co79, eo79⟩ := Kd.R_slice HO1606.out; subst eo79) | (go_at_call 35; (with_reducible refine (laws_sameInts.calls kj16 _ _ t1599 _ _ t1603 true _ ?side1 ?side2 ?side3 ?side4 A73.out).mono ?_); (case side1 => exact ca (Kd.R_reads' HO1602.out).2.2); (case side2 => exact (Kd.R_reads' HO1602.out).2.1); (case side3 => exact ca (Kd.R_reads' HO1606.out).2.2); (case side4 => exact (Kd.R_reads' HO1606.out).2.1); rintro e w' ⟨rfl, ⟨nd, rfl⟩⟩))
              go_meet
              case rel => exact ⟨_, (true), (by first | rfl | (simp; done) | (simp [*]; done)), H', ⟨by have := HJ6.out; have := HJ16.out; first | omega | exact Nat.le_refl _⟩, rm_ HO1602 (fun _ hk => hk.1.2), rm_ HO1610 (fun _ hk => hk.1.1.2), ⟨hB HB⟩⟩
            rw [if_neg c75] at H
            have c75b0 : (t1608 != t1612) = false := by simpa using c75
            (try (have c75b1 : decide (t1608 = t1612) = true := by simpa using c75))
            (try (have c75b2 : (t1608 == t1612) = true := by simpa using c75))
            clear c75
            replace H := Option.bind_eq_some_iff.mp H
            obtain ⟨t1617, A800, H⟩ := H
            replace H : (laws_FnBehind.j4 kj16 t1598 t1599 t1600 t1607 (!t1617)) = some r := H
            have A80 := Aside0.mk A800
            clear A800
            have H' := Aside0.mk H
            clear H
            obtain ⟨Ao81, co81, eo81⟩ := Kd.R_slice HO1590.out
            subst eo81
            obtain ⟨Ao82, co82, eo82⟩ := Kd.V_slice HO1593.out
            subst eo82
            as_aux_lemma =>
             go_wp2_with (first | (go_at_call 35; (with_reducible refine (laws_sameInts.calls kj16 _ _ t1587 _ _ t1591 true _ ?side1 ?side2 ?side3 ?side4 A68.out).mono ?_); (case side1 => exact ca (Kd.R_reads' HO1590.out).2.2); (case side2 => exact (Kd.R_reads' HO1590.out).2.1); (case side3 => repeat (first | exact (Kd.V_reads' HO1593.out).2.2 | (with_reducible refine Kd.C_alloc ?_ _) | (with_reducible refine Kd.C_drewN ?_ _) | (with_reducible refine Kd.C_drew ?_))); (case side4 => exact (Kd.V_reads' HO1593.out).2.1); rintro e w' ⟨rfl, ⟨nd, rfl⟩⟩; obtain ⟨Ao83, co83, eo83⟩ := Kd.R_slice HO1602.out; subst eo83; obtain ⟨Ao84, co84, eo84⟩ := Kd.R_slice HO1606.out; subst eo84) | (go_at_call 35; (with_reducible refine (laws_sameInts.calls kj16 _ _ t1599 _ _ t1603 true _ ?side1 ?side2 ?side3 ?side4 A73.out).mono ?_); (case side1 => exact ca (Kd.R_reads' HO1602.out).2.2); (case side2 => exact (Kd.R_reads' HO1602.out).2.1); (case side3 => exact ca (Kd.R_reads' HO1606.out).2.2); (case side4 => exact (Kd.R_reads' HO1606.out).2.1); rintro e w' ⟨rfl, ⟨nd, rfl⟩⟩; obtain ⟨Ao85, co85, eo85⟩ := Kd.R_slice HO1610.out; subst eo85; obtain ⟨Ao86, co86, eo86⟩ := Kd.R_slice HO1614.out; subst eo86) | (go_at_call 35; (with_reducible refine (laws_sameInts.calls kj16 _ _ t1607 _ _ t1611 t1617 _ ?side1 ?side2 ?side3 ?side4 A80.out).mono ?_); (case side1 => exact ca (Kd.R_reads' HO1610.out).2.2); (case side2 => exact (Kd.R_reads' HO1610.out).2.1); (case side3 => exact ca (Kd.R_reads' HO1614.out).2.2); (case side4 => exact (Kd.R_reads' HO1614.out).2.1); rintro e w' ⟨rfl, ⟨nd, rfl⟩⟩))
             go_meet
             case rel => exact ⟨_, (!t1617), (by first | rfl | (simp; done) | (simp [*]; done)), H', ⟨by have := HJ6.out; have := HJ16.out; first | omega | exact Nat.le_refl _⟩, rm_ HO1602 (fun _ hk => hk.1.2), rm_ HO1610 (fun _ hk => hk.1.1.2), ⟨hB HB⟩⟩
          case rest =>
           as_aux_lemma =>
            clear HC56
            try clear c1
            try clear c3
            try clear c3b0
            try clear c16
            obtain ⟨kq, x200_55, rfl, HA, HJ55, HO_26, HO_30, HB⟩ := hcut
            cases kq with
            | zero => exact absurd HA.out (by simp [laws_FnBehind.j4])
            | succ kj55 =>
             have H := HA.out
             clear HA
             simp only [laws_FnBehind.j4] at H
             by_cases c93 : x200_55 = true
             ·subst c93
              rw [if_pos rfl] at H
              obtain rfl := Option.some.inj H
              go_wp2
              go_ret
              exact ⟨by first | rfl | (simp [errW_none, errW_some] <;> rfl) | (simp [*, errW_none, errW_some] <;> rfl), by repeat (first | (with_reducible first | exact HB.out | apply below_alloc | apply pw_below_drewN | apply below_drew1) | exact HB.out)⟩
             replace c93 := Bool.eq_false_iff.mpr c93
             subst c93
             rw [if_neg (show ¬ (false = true) by decide)] at H
             by_cases c94 : t1600 = true
             rotate_left
             ·replace c94 := Bool.eq_false_iff.mpr c94
              subst c94
              rw [if_neg (show ¬ (false = true) by decide)] at H
              obtain rfl := Option.some.inj H
              go_wp2
              go_ret
              exact ⟨by first | rfl | (simp [errW_none, errW_some] <;> rfl) | (simp [*, errW_none, errW_some] <;> rfl), by repeat (first | (with_reducible first | exact HB.out | apply below_alloc | apply pw_below_drewN | apply below_drew1) | exact HB.out)⟩
             subst c94
             rw [if_pos rfl] at H
             replace H := Option.bind_eq_some_iff.mp H
             obtain ⟨⟨t1618, t1619⟩, A950, H⟩ := H
             replace H : (if t1619 = true then ((laws_sameInts.f kj55 t1618 t1607).bind fun t1622 => (if t1622 = true then ((laws_has.f kj55 t1599 t1598).bind fun t1623 => (some t1623)) else (some false))) else (some false)) = some r := H
             have A95 := Aside0.mk A950
             clear A950
             by_cases c96 : t1619 = true
             rotate_left
             ·replace c96 := Bool.eq_false_iff.mpr c96
              subst c96
              rw [if_neg (show ¬ (false = true) by decide)] at H
              obtain rfl := Option.some.inj H
              obtain ⟨Ao108, co108, eo108⟩ := Kd.R_slice HO_26.out
              subst eo108
              as_aux_lemma =>
               go_wp2_with (first | ((with_reducible refine gate_callee (f := 50) rfl ?_); refine goesL_ (some 205) rfl rfl Try.func50 (by kernel_rfl) rfl #[.slice Ao108 t1599.length co108, .int .i64 t1598] rfl tm_ ?_; (with_reducible refine (impl_LeaveSpot.calls kj55 _ _ t1599 t1598 t1618 false _ ?side1 ?side2 A95.out).mono ?_); (case side1 => exact ca (Kd.R_reads' HO_26.out).2.2); (case side2 => exact (Kd.R_reads' HO_26.out).2.1); rintro e w109 ⟨v1620, rfl, ho0, hb⟩; refine ⟨_, rfl, ?_⟩; have HO1621 := Aside0.mk (Kd.R_lower (Kd.R_new' (Kd.R_new' ho0 (rl_ HO_26)) (rl_ HO_30)) (below_size (hB HB))); replace HO_26 := re_ HO_26 ho0 hb; replace HO_30 := re_ HO_30 ho0 hb; replace HB := bst_ HB hb; clear hb ho0))
               go_ret
               exact ⟨by first | rfl | (simp [errW_none, errW_some] <;> rfl) | (simp [*, errW_none, errW_some] <;> rfl), by repeat (first | (with_reducible first | exact HB.out | apply below_alloc | apply pw_below_drewN | apply below_drew1) | exact HB.out)⟩
             subst c96
             rw [if_pos rfl] at H
             replace H := Option.bind_eq_some_iff.mp H
             obtain ⟨t1622, A970, H⟩ := H
             replace H : (if t1622 = true then ((laws_has.f kj55 t1599 t1598).bind fun t1623 => (some t1623)) else (some false)) = some r := H
             have A97 := Aside0.mk A970
             clear A970
             by_cases c98 : t1622 = true
             rotate_left
             ·replace c98 := Bool.eq_false_iff.mpr c98
              subst c98
              rw [if_neg (show ¬ (false = true) by decide)] at H
              obtain rfl := Option.some.inj H
              obtain ⟨Ao104, co104, eo104⟩ := Kd.R_slice HO_26.out
              subst eo104
              as_aux_lemma =>
               go_wp2_with (first | ((with_reducible refine gate_callee (f := 50) rfl ?_); refine goesL_ (some 205) rfl rfl Try.func50 (by kernel_rfl) rfl #[.slice Ao104 t1599.length co104, .int .i64 t1598] rfl tm_ ?_; (with_reducible refine (impl_LeaveSpot.calls kj55 _ _ t1599 t1598 t1618 true _ ?side1 ?side2 A95.out).mono ?_); (case side1 => exact ca (Kd.R_reads' HO_26.out).2.2); (case side2 => exact (Kd.R_reads' HO_26.out).2.1); rintro e w105 ⟨v1620, rfl, ho0, hb⟩; refine ⟨_, rfl, ?_⟩; have HO1621 := Aside0.mk (Kd.R_lower (Kd.R_new' (Kd.R_new' ho0 (rl_ HO_26)) (rl_ HO_30)) (below_size (hB HB))); replace HO_26 := re_ HO_26 ho0 hb; replace HO_30 := re_ HO_30 ho0 hb; replace HB := bst_ HB hb; clear hb ho0; obtain ⟨Ao106, co106, eo106⟩ := Kd.R_slice HO1621.out; subst eo106; obtain ⟨Ao107, co107, eo107⟩ := Kd.R_slice HO_30.out; subst eo107) | (go_at_call 35; (with_reducible refine (laws_sameInts.calls kj55 _ _ t1618 _ _ t1607 false _ ?side1 ?side2 ?side3 ?side4 A97.out).mono ?_); (case side1 => exact ca (Kd.R_reads' HO1621.out).2.2); (case side2 => exact (Kd.R_reads' HO1621.out).2.1); (case side3 => exact ca (Kd.R_reads' HO_30.out).2.2); (case side4 => exact (Kd.R_reads' HO_30.out).2.1); rintro e w' ⟨rfl, ⟨nd, rfl⟩⟩))
               go_ret
               exact ⟨by first | rfl | (simp [errW_none, errW_some] <;> rfl) | (simp [*, errW_none, errW_some] <;> rfl), by repeat (first | (with_reducible first | exact HB.out | apply below_alloc | apply pw_below_drewN | apply below_drew1) | exact HB.out)⟩
             subst c98
             rw [if_pos rfl] at H
             replace H := Option.bind_eq_some_iff.mp H
             obtain ⟨t1623, A990, H⟩ := H
             replace H : (some t1623) = some r := H
             have A99 := Aside0.mk A990
             clear A990
             obtain rfl := Option.some.inj H
             obtain ⟨Ao100, co100, eo100⟩ := Kd.R_slice HO_26.out
             subst eo100
             as_aux_lemma =>
              go_wp2_with (first | ((with_reducible refine gate_callee (f := 50) rfl ?_); refine goesL_ (some 205) rfl rfl Try.func50 (by kernel_rfl) rfl #[.slice Ao100 t1599.length co100, .int .i64 t1598] rfl tm_ ?_; (with_reducible refine (impl_LeaveSpot.calls kj55 _ _ t1599 t1598 t1618 true _ ?side1 ?side2 A95.out).mono ?_); (case side1 => exact ca (Kd.R_reads' HO_26.out).2.2); (case side2 => exact (Kd.R_reads' HO_26.out).2.1); rintro e w101 ⟨v1620, rfl, ho0, hb⟩; refine ⟨_, rfl, ?_⟩; have HO1621 := Aside0.mk (Kd.R_lower (Kd.R_new' (Kd.R_new' ho0 (rl_ HO_26)) (rl_ HO_30)) (below_size (hB HB))); replace HO_26 := re_ HO_26 ho0 hb; replace HO_30 := re_ HO_30 ho0 hb; replace HB := bst_ HB hb; clear hb ho0; obtain ⟨Ao102, co102, eo102⟩ := Kd.R_slice HO1621.out; subst eo102; obtain ⟨Ao103, co103, eo103⟩ := Kd.R_slice HO_30.out; subst eo103) | (go_at_call 35; (with_reducible refine (laws_sameInts.calls kj55 _ _ t1618 _ _ t1607 true _ ?side1 ?side2 ?side3 ?side4 A97.out).mono ?_); (case side1 => exact ca (Kd.R_reads' HO1621.out).2.2); (case side2 => exact (Kd.R_reads' HO1621.out).2.1); (case side3 => exact ca (Kd.R_reads' HO_30.out).2.2); (case side4 => exact (Kd.R_reads' HO_30.out).2.1); rintro e w' ⟨rfl, ⟨nd, rfl⟩⟩) | (go_at_call 43; (with_reducible refine (laws_has.calls kj55 _ _ t1599 t1598 t1623 _ ?side1 ?side2 A99.out).mono ?_); (case side1 => exact ca (Kd.R_reads' HO_26.out).2.2); (case side2 => exact (Kd.R_reads' HO_26.out).2.1); rintro e w' ⟨rfl, ⟨nd, rfl⟩⟩))
              go_ret
              exact ⟨by first | rfl | (simp [errW_none, errW_some] <;> rfl) | (simp [*, errW_none, errW_some] <;> rfl), by repeat (first | (with_reducible first | exact HB.out | apply below_alloc | apply pw_below_drewN | apply below_drew1) | exact HB.out)⟩

/-- THE ONE PURE STATEMENT of laws_FnBehind: yours. -/
def laws_FnBehind.Pure : Prop := ∀ (l0 : List Int) (l1 : List Int), l0.length ≤ maxLen → l0.length * 1 ≤ 140737488351232 → (∀ x ∈ l0, (Lit.int .u8 x).wf = true) → l1.length ≤ maxLen → l1.length * 1 ≤ 140737488351232 → (∀ x ∈ l1, (Lit.int .u8 x).wf = true) → ∃ k, laws_FnBehind.f k l0 l1 = some true
theorem laws_FnBehind.walk (P : laws_FnBehind.Pure) (a0 : Option Addr) (len0 cap0 : Nat) (z0 : List Int) (a1 : Option Addr) (len1 cap1 : Nat) (z1 : List Int) (w : World) (w0 : (a0 = none ∧ len0 = 0 ∧ cap0 = 0 ∧ z0 = []) ∨ ∃ x, a0 = some x ∧ len0 ≤ cap0 ∧ cap0 ≤ maxLen ∧ z0.length = cap0 ∧ (∀ i, i < z0.length → w.cell? (x.add i) = some (.int .u8 (z0.getD i 0))) ∧ ∀ n ∈ z0, (Lit.int .u8 n).wf = true) (y0 : len0 * 1 ≤ 140737488351232) (w1 : (a1 = none ∧ len1 = 0 ∧ cap1 = 0 ∧ z1 = []) ∨ ∃ x, a1 = some x ∧ len1 ≤ cap1 ∧ cap1 ≤ maxLen ∧ z1.length = cap1 ∧ (∀ i, i < z1.length → w.cell? (x.add i) = some (.int .u8 (z1.getD i 0))) ∧ ∀ n ∈ z1, (Lit.int .u8 n).wf = true) (y1 : len1 * 1 ≤ 140737488351232) :
  Calls Try.prog 6 #[.slice a0 len0 cap0, .slice a1 len1 cap1] w fun e w' => e = .returned (.bool true) ∧ Below w.heap.size w w' := by
 obtain ⟨l0, rfl, hr0, hm0, hw0, hc0⟩ := ReadsInt.ofRowC w0
 obtain ⟨l1, rfl, hr1, hm1, hw1, hc1⟩ := ReadsInt.ofRowC w1
 obtain ⟨k, h⟩ := P l0 l1 hm0 y0 hw0 hm1 y1 hw1
 refine (laws_FnBehind.calls k _ _ l0 _ _ l1 true w (Kd.C_of_reads (d := (0 : Int)) (h1 := fun _ => rfl) hr0) hc0 (Kd.C_of_reads (d := (0 : Int)) (h1 := fun _ => rfl) hr1) hc1 h).mono ?_
 rintro e w' ⟨rfl, hd⟩
 exact ⟨rfl, hd⟩

end Go.Proofs.Ytfkjnpgpofcinaa.P
