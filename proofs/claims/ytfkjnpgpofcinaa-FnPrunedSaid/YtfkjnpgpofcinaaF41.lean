import Derived.Test.YtfkjnpgpofcinaaF0
import Derived.Test.YtfkjnpgpofcinaaF2
import Derived.Test.YtfkjnpgpofcinaaF3
import Derived.Test.YtfkjnpgpofcinaaF4
import Derived.Test.YtfkjnpgpofcinaaF20
import Derived.Test.YtfkjnpgpofcinaaF40
namespace Go.Proofs.Ytfkjnpgpofcinaa.P
open Go.RowKit Go.Proofs.YtfkjnpgpofcinaaW.PrintWords Go.Proofs.YtfkjnpgpofcinaaW.PrintLast Go.Proofs.YtfkjnpgpofcinaaW.PrintMore
attribute [local go_sem] max2_int min2_int max_two min_two max_three min_three max_four min_four   -- for this text's walks alone
set_option linter.unusedVariables false
set_option linter.unusedSimpArgs false
attribute [local go_sem high] eqA45 eqA76 eqA83

def spec_DrawWantsOn.f (k : Nat) (l0 : List Int) : Option (List Int × Int × List Int) := (slices_xorshift_Next.f l0).bind fun bt1603 => ((spec_l1Cur_parents.f k bt1603.1 bt1603.2.1 bt1603.2.2).bind fun bt1607 => ((spec_l1Cur_pick.f bt1603.1 bt1607.2.1 bt1607.2.2 (wrap64 ((bt1607.1.length : Int) + 1))).bind fun bt1612 => ((spec_l1Cur_pick.f bt1603.1 bt1612.2.1 bt1612.2.2 9).bind fun bt1615 => ((spec_l1Cur_wants.f k bt1603.1 bt1615.2.1 bt1615.2.2).bind fun bt1618 => (some (bt1607.1, wrap64 (bt1612.1 - (wrap64 (Int.tdiv bt1615.1 8))), bt1618.1))))))
theorem spec_DrawWantsOn.mono : ∀ a0 k, LeO (spec_DrawWantsOn.f k a0) (spec_DrawWantsOn.f (k + 1) a0) := by
 intro a0 k
 unfold spec_DrawWantsOn.f
 repeat' first
   | (with_reducible exact spec_l1Cur_parents.mono _ _ _ _)
   | (with_reducible exact spec_l1Cur_wants.mono _ _ _ _)
   | (with_reducible exact LeO.refl _)
   | (with_reducible exact LeO.none _)
   | (with_reducible refine LeO.ite ?_ ?_)
   | (with_reducible refine LeO.bind ?_ (fun _ => ?_))
set_option maxHeartbeats 8000000 in
set_option maxRecDepth 100000 in
theorem spec_DrawWantsOn.calls (k : Nat) (A0 : Option Addr) (c0 : Nat) (l0 : List Int) (r1 : List Int) (r2 : Int) (r3 : List Int) (w : World) (hr0 : Kd.C (Kd.int .u8) w A0 l0.length l0) (hc0 : l0.length ≤ c0) (h : spec_DrawWantsOn.f k l0 = some (r1, r2, r3)) :
  Calls Try.prog 52 #[.slice A0 l0.length c0] w fun e w' => ∃ v0_ v2_ : Value, e = .returned (.tuple #[v0_, .int .i64 r2, v2_]) ∧ Kd.R (Kd.int .i64) 3 w' w.heap.size (fun k_ => no_ v2_ k_) v0_ r1 ∧ Kd.R (Kd.int .i64) 3 w' w.heap.size (fun k_ => no_ v0_ k_) v2_ r3 ∧ Below w.heap.size w w' := by
 have HR0 := Aside0.mk hr0
 have HC0 := Aside0.mk hc0
 clear hr0 hc0
 have HB := Aside0.mk (Below.refl w.heap.size w)
 have H : ((slices_xorshift_Next.f l0).bind fun bt1603 => ((spec_l1Cur_parents.f k bt1603.1 bt1603.2.1 bt1603.2.2).bind fun bt1607 => ((spec_l1Cur_pick.f bt1603.1 bt1607.2.1 bt1607.2.2 (wrap64 ((bt1607.1.length : Int) + 1))).bind fun bt1612 => ((spec_l1Cur_pick.f bt1603.1 bt1612.2.1 bt1612.2.2 9).bind fun bt1615 => ((spec_l1Cur_wants.f k bt1603.1 bt1615.2.1 bt1615.2.2).bind fun bt1618 => (some (bt1607.1, wrap64 (bt1612.1 - (wrap64 (Int.tdiv bt1615.1 8))), bt1618.1))))))) = some (r1, r2, r3) := h
 clear h
 replace H := Option.bind_eq_some_iff.mp H
 obtain ⟨⟨t1603, t1604, t1605⟩, A20, H⟩ := H
 replace H : ((spec_l1Cur_parents.f k t1603 t1604 t1605).bind fun bt1607 => ((spec_l1Cur_pick.f t1603 bt1607.2.1 bt1607.2.2 (wrap64 ((bt1607.1.length : Int) + 1))).bind fun bt1612 => ((spec_l1Cur_pick.f t1603 bt1612.2.1 bt1612.2.2 9).bind fun bt1615 => ((spec_l1Cur_wants.f k t1603 bt1615.2.1 bt1615.2.2).bind fun bt1618 => (some (bt1607.1, wrap64 (bt1612.1 - (wrap64 (Int.tdiv bt1615.1 8))), bt1618.1)))))) = some (r1, r2, r3) := H
 have DE_A2 : Aside0 (t1603 = l0 ∧ t1604 = 0 ∧ t1605 = 0) := ⟨by have h_ := A20; simp only [slices_xorshift_Next.f, Option.some.injEq, Prod.mk.injEq] at h_; exact ⟨h_.1.symm, h_.2.1.symm, h_.2.2.symm⟩⟩
 have A2 := Aside0.mk A20
 clear A20
 replace H := Option.bind_eq_some_iff.mp H
 obtain ⟨⟨t1607, t1610, t1611⟩, A30, H⟩ := H
 replace H : ((spec_l1Cur_pick.f t1603 t1610 t1611 (wrap64 ((t1607.length : Int) + 1))).bind fun bt1612 => ((spec_l1Cur_pick.f t1603 bt1612.2.1 bt1612.2.2 9).bind fun bt1615 => ((spec_l1Cur_wants.f k t1603 bt1615.2.1 bt1615.2.2).bind fun bt1618 => (some (t1607, wrap64 (bt1612.1 - (wrap64 (Int.tdiv bt1615.1 8))), bt1618.1))))) = some (r1, r2, r3) := H
 have A3 := Aside0.mk A30
 clear A30
 replace H := Option.bind_eq_some_iff.mp H
 obtain ⟨⟨t1612, t1613, t1614⟩, A40, H⟩ := H
 replace H : ((spec_l1Cur_pick.f t1603 t1613 t1614 9).bind fun bt1615 => ((spec_l1Cur_wants.f k t1603 bt1615.2.1 bt1615.2.2).bind fun bt1618 => (some (t1607, wrap64 (t1612 - (wrap64 (Int.tdiv bt1615.1 8))), bt1618.1)))) = some (r1, r2, r3) := H
 have A4 := Aside0.mk A40
 clear A40
 replace H := Option.bind_eq_some_iff.mp H
 obtain ⟨⟨t1615, t1616, t1617⟩, A50, H⟩ := H
 replace H : ((spec_l1Cur_wants.f k t1603 t1616 t1617).bind fun bt1618 => (some (t1607, wrap64 (t1612 - (wrap64 (Int.tdiv t1615 8))), bt1618.1))) = some (r1, r2, r3) := H
 have A5 := Aside0.mk A50
 clear A50
 replace H := Option.bind_eq_some_iff.mp H
 obtain ⟨⟨t1618, t1621, t1622⟩, A60, H⟩ := H
 replace H : (some (t1607, wrap64 (t1612 - (wrap64 (Int.tdiv t1615 8))), t1618)) = some (r1, r2, r3) := H
 have A6 := Aside0.mk A60
 clear A60
 simp only [Option.some.injEq, Prod.mk.injEq] at H
 obtain ⟨rfl, rfl, rfl⟩ := H
 go_enter Try.func52, Try.ntmps52
 go_wp2_with (first | ((with_reducible refine gate_dst (N := 9) rfl ?_); refine box_event ?hg (N := 9) ?hd (cs := #[.slice A0 l0.length c0, .int .i64 0, .int .u64 0]) (t := 105) ?hr ?_; (case hd => rfl); (case hg => rfl); (case hr => first | (go_simp; done) | (go_simp; rfl)); intro g1606 hg w7 hbox hb2; have hi : IsS105 w w7 g1606 t1603 t1604 t1605 := (by rw [DE_A2.out.1, DE_A2.out.2.1, DE_A2.out.2.2]; exact ⟨_, _, hbox, (gw_ hg HB).out, HR0.out⟩); have hb := (bst_ HB hb2).out; clear hg hbox; have HI1606 := Aside0.mk (hi); replace HB := Aside0.mk (hb); clear hb hb2 hi) | ((with_reducible refine gate_callee (f := 96) rfl ?_); refine goesL_ (some 11) rfl rfl Try.func96 (by kernel_rfl) rfl #[.pointer (some ⟨g1606, 0, none⟩)] rfl tm_ ?_; (with_reducible refine (spec_l1Cur_parents.calls k g1606 t1603 t1604 t1605 t1607 t1610 t1611 w _ ?side1 ?side2 A3.out).mono ?_); (case side1 => repeat (first | (with_reducible first | exact HI1606.out | apply IsS105.alloc | apply IsS105.drewN | apply IsS105.drew | apply IsS105.set_1 | apply IsS105.set_2) | exact HI1606.out)); (case side2 => repeat (first | (with_reducible first | exact HB.out | apply below_alloc | apply pw_below_drewN | apply below_drew1 | refine below_set ?_ (IsS105.ge HI1606.out)) | exact HB.out)); rintro e w8 ⟨v1608, rfl, ho0, hi, hb, hk⟩; refine ⟨_, rfl, ?_⟩; have HO1609 := Aside0.mk (Kd.R_lower ho0 (below_size (by repeat (first | (with_reducible first | exact HB.out | apply below_alloc | apply pw_below_drewN | apply below_drew1 | refine below_set ?_ (IsS105.ge HI1606.out)) | exact HB.out)))); replace HB := Aside0.mk (hb); replace HI1606 := Aside0.mk (hi); clear hb hk hi ho0; obtain ⟨Ao9, co9, eo9⟩ := Kd.R_slice HO1609.out; subst eo9) | ((with_reducible refine gate_callee (f := 94) rfl ?_); refine goesL_ (some 17) rfl rfl Try.func94 (by kernel_rfl) rfl #[.pointer (some ⟨g1606, 0, none⟩), .int .i64 (wrap64 ((t1607.length : Int) + 1))] rfl tm_ ?_; (with_reducible refine (spec_l1Cur_pick.calls g1606 t1603 t1610 t1611 (wrap64 ((t1607.length : Int) + 1)) t1612 t1613 t1614 w _ ?side1 ?side2 A4.out).mono ?_); (case side1 => repeat (first | (with_reducible first | exact HI1606.out | apply IsS105.alloc | apply IsS105.drewN | apply IsS105.drew | apply IsS105.set_1 | apply IsS105.set_2) | exact HI1606.out)); (case side2 => repeat (first | (with_reducible first | exact HB.out | apply below_alloc | apply pw_below_drewN | apply below_drew1 | refine below_set ?_ (IsS105.ge HI1606.out)) | exact HB.out)); rintro e w10 ⟨rfl, hi, hb, hk⟩; refine ⟨_, rfl, ?_⟩; replace HO1609 := Aside0.mk (Kd.R_mono (Kd.R_keep (IsS105.apart (show IsS105 w _ g1606 t1603 t1610 t1611 from by repeat (first | (with_reducible first | exact HI1606.out | apply IsS105.alloc | apply IsS105.drewN | apply IsS105.drew | apply IsS105.set_1 | apply IsS105.set_2) | exact HI1606.out)) (ra HO1609.out) (by decide)) hk (fun _ h => h.2)) (fun _ h => h.1)); replace HB := Aside0.mk (hb); replace HI1606 := Aside0.mk (hi); clear hb hk hi) | ((with_reducible refine gate_callee (f := 94) rfl ?_); refine goesL_ (some 19) rfl rfl Try.func94 (by kernel_rfl) rfl #[.pointer (some ⟨g1606, 0, none⟩), .int .i64 9] rfl tm_ ?_; (with_reducible refine (spec_l1Cur_pick.calls g1606 t1603 t1613 t1614 9 t1615 t1616 t1617 w _ ?side1 ?side2 A5.out).mono ?_); (case side1 => repeat (first | (with_reducible first | exact HI1606.out | apply IsS105.alloc | apply IsS105.drewN | apply IsS105.drew | apply IsS105.set_1 | apply IsS105.set_2) | exact HI1606.out)); (case side2 => repeat (first | (with_reducible first | exact HB.out | apply below_alloc | apply pw_below_drewN | apply below_drew1 | refine below_set ?_ (IsS105.ge HI1606.out)) | exact HB.out)); rintro e w11 ⟨rfl, hi, hb, hk⟩; refine ⟨_, rfl, ?_⟩; replace HO1609 := Aside0.mk (Kd.R_mono (Kd.R_keep (IsS105.apart (show IsS105 w _ g1606 t1603 t1613 t1614 from by repeat (first | (with_reducible first | exact HI1606.out | apply IsS105.alloc | apply IsS105.drewN | apply IsS105.drew | apply IsS105.set_1 | apply IsS105.set_2) | exact HI1606.out)) (ra HO1609.out) (by decide)) hk (fun _ h => h.2)) (fun _ h => h.1)); replace HB := Aside0.mk (hb); replace HI1606 := Aside0.mk (hi); clear hb hk hi) | ((with_reducible refine gate_callee (f := 105) rfl ?_); refine goesL_ (some 23) rfl rfl Try.func105 (by kernel_rfl) rfl #[.pointer (some ⟨g1606, 0, none⟩)] rfl tm_ ?_; (with_reducible refine (spec_l1Cur_wants.calls k g1606 t1603 t1616 t1617 t1618 t1621 t1622 w _ ?side1 ?side2 A6.out).mono ?_); (case side1 => repeat (first | (with_reducible first | exact HI1606.out | apply IsS105.alloc | apply IsS105.drewN | apply IsS105.drew | apply IsS105.set_1 | apply IsS105.set_2) | exact HI1606.out)); (case side2 => repeat (first | (with_reducible first | exact HB.out | apply below_alloc | apply pw_below_drewN | apply below_drew1 | refine below_set ?_ (IsS105.ge HI1606.out)) | exact HB.out)); rintro e w12 ⟨v1619, rfl, ho0, hi, hb, hk⟩; refine ⟨_, rfl, ?_⟩; have HO1620 := Aside0.mk (Kd.R_lower (Kd.R_new' ho0 (rl_ HO1609)) (below_size (by repeat (first | (with_reducible first | exact HB.out | apply below_alloc | apply pw_below_drewN | apply below_drew1 | refine below_set ?_ (IsS105.ge HI1606.out)) | exact HB.out)))); replace HO1609 := Aside0.mk (Kd.R_mono (Kd.R_told (Kd.R_oldK (IsS105.apart (show IsS105 w _ g1606 t1603 t1616 t1617 from by repeat (first | (with_reducible first | exact HI1606.out | apply IsS105.alloc | apply IsS105.drewN | apply IsS105.drew | apply IsS105.set_1 | apply IsS105.set_2) | exact HI1606.out)) (ra HO1609.out) (by decide)) hk) (Kd.R_base ho0)) (fun _ h_ => h_.1)); replace HB := Aside0.mk (hb); replace HI1606 := Aside0.mk (hi); clear hb hk hi ho0))
 go_ret3
 exact ⟨_, _, by first | rfl | (simp [errW_none, errW_some] <;> rfl) | (simp [*, errW_none, errW_some] <;> rfl), by (with_reducible repeat (first | apply Kd.R_alloc | apply Kd.R_drewN | apply Kd.R_drew)); exact Kd.R_mono HO1609.out (fun _ hk => hk.2), by (with_reducible repeat (first | apply Kd.R_alloc | apply Kd.R_drewN | apply Kd.R_drew)); exact Kd.R_mono HO1620.out (fun _ hk => hk.2), by repeat (first | (with_reducible first | exact HB.out | apply below_alloc | apply pw_below_drewN | apply below_drew1 | refine below_set ?_ (IsS105.ge HI1606.out)) | exact HB.out)⟩

def impl_SavedBy.f (k : Nat) (l0 : List Int) (a1 : Int) (l2 : List Int) : Option (Int × Bool) := (impl_WantsOn.f k l0 a1 l2).bind fun bt1623 => (if bt1623.2 = true then ((impl_spread.f k l0 a1).bind fun t1627 => (some (wrap64 ((t1627.length : Int) - (bt1623.1.length : Int)), true))) else (some (0, false)))
theorem impl_SavedBy.mono : ∀ a0 a1 a2 k, LeO (impl_SavedBy.f k a0 a1 a2) (impl_SavedBy.f (k + 1) a0 a1 a2) := by
 intro a0 a1 a2 k
 unfold impl_SavedBy.f
 repeat' first
   | (with_reducible exact impl_WantsOn.mono _ _ _ _)
   | (with_reducible exact impl_spread.mono _ _ _)
   | (with_reducible exact LeO.refl _)
   | (with_reducible exact LeO.none _)
   | (with_reducible refine LeO.ite ?_ ?_)
   | (with_reducible refine LeO.bind ?_ (fun _ => ?_))
set_option maxHeartbeats 8000000 in
set_option maxRecDepth 100000 in
theorem impl_SavedBy.calls (k : Nat) (A0 : Option Addr) (c0 : Nat) (l0 : List Int) (a1 : Int) (A2 : Option Addr) (c2 : Nat) (l2 : List Int) (r1 : Int) (r2 : Bool) (w : World) (hr0 : Kd.C (Kd.int .i64) w A0 l0.length l0) (hc0 : l0.length ≤ c0) (hr2 : Kd.C (Kd.int .i64) w A2 l2.length l2) (hc2 : l2.length ≤ c2) (h : impl_SavedBy.f k l0 a1 l2 = some (r1, r2)) :
  Calls Try.prog 53 #[.slice A0 l0.length c0, .int .i64 a1, .slice A2 l2.length c2] w fun e w' => e = .returned (.tuple #[.int .i64 r1, .bool r2]) ∧ Below w.heap.size w w' := by
 have HR0 := Aside0.mk hr0
 have HC0 := Aside0.mk hc0
 clear hr0 hc0
 have HR2 := Aside0.mk hr2
 have HC2 := Aside0.mk hc2
 clear hr2 hc2
 have HB := Aside0.mk (Below.refl w.heap.size w)
 have H : ((impl_WantsOn.f k l0 a1 l2).bind fun bt1623 => (if bt1623.2 = true then ((impl_spread.f k l0 a1).bind fun t1627 => (some (wrap64 ((t1627.length : Int) - (bt1623.1.length : Int)), true))) else (some (0, false)))) = some (r1, r2) := h
 clear h
 replace H := Option.bind_eq_some_iff.mp H
 obtain ⟨⟨t1623, t1624⟩, A40, H⟩ := H
 replace H : (if t1624 = true then ((impl_spread.f k l0 a1).bind fun t1627 => (some (wrap64 ((t1627.length : Int) - (t1623.length : Int)), true))) else (some (0, false))) = some (r1, r2) := H
 have A4 := Aside0.mk A40
 clear A40
 by_cases c5 : t1624 = true
 rotate_left
 ·replace c5 := Bool.eq_false_iff.mpr c5
  subst c5
  rw [if_neg (show ¬ (false = true) by decide)] at H
  simp only [Option.some.injEq, Prod.mk.injEq] at H
  obtain ⟨rfl, rfl⟩ := H
  go_enter Try.func53, Try.ntmps53
  go_wp2_with (first | ((with_reducible refine gate_callee (f := 11) rfl ?_); refine goesL_ (some 14) rfl rfl Try.func11 (by kernel_rfl) rfl #[.slice A0 l0.length c0, .int .i64 a1, .slice A2 l2.length c2] rfl tm_ ?_; (with_reducible refine (impl_WantsOn.calls k _ _ l0 a1 _ _ l2 t1623 false _ ?side1 ?side2 ?side3 ?side4 A4.out).mono ?_); (case side1 => exact ca HR0.out); (case side2 => exact HC0.out); (case side3 => exact ca HR2.out); (case side4 => exact HC2.out); rintro e w11 ⟨v1625, rfl, ho0, hb⟩; refine ⟨_, rfl, ?_⟩; have HO1626 := Aside0.mk (Kd.R_lower ho0 (below_size (hB HB))); replace HB := bst_ HB hb; clear hb ho0))
  go_ret2
  exact ⟨by first | rfl | (simp [errW_none, errW_some] <;> rfl) | (simp [*, errW_none, errW_some] <;> rfl), by repeat (first | (with_reducible first | exact HB.out | apply below_alloc | apply pw_below_drewN | apply below_drew1) | exact HB.out)⟩
 subst c5
 rw [if_pos rfl] at H
 replace H := Option.bind_eq_some_iff.mp H
 obtain ⟨t1627, A60, H⟩ := H
 replace H : (some (wrap64 ((t1627.length : Int) - (t1623.length : Int)), true)) = some (r1, r2) := H
 have A6 := Aside0.mk A60
 clear A60
 simp only [Option.some.injEq, Prod.mk.injEq] at H
 obtain ⟨rfl, rfl⟩ := H
 go_enter Try.func53, Try.ntmps53
 go_wp2_with (first | ((with_reducible refine gate_callee (f := 11) rfl ?_); refine goesL_ (some 14) rfl rfl Try.func11 (by kernel_rfl) rfl #[.slice A0 l0.length c0, .int .i64 a1, .slice A2 l2.length c2] rfl tm_ ?_; (with_reducible refine (impl_WantsOn.calls k _ _ l0 a1 _ _ l2 t1623 true _ ?side1 ?side2 ?side3 ?side4 A4.out).mono ?_); (case side1 => exact ca HR0.out); (case side2 => exact HC0.out); (case side3 => exact ca HR2.out); (case side4 => exact HC2.out); rintro e w7 ⟨v1625, rfl, ho0, hb⟩; refine ⟨_, rfl, ?_⟩; have HO1626 := Aside0.mk (Kd.R_lower ho0 (below_size (hB HB))); replace HB := bst_ HB hb; clear hb ho0) | ((with_reducible refine gate_callee (f := 103) rfl ?_); refine goesL_ (some 21) rfl rfl Try.func103 (by kernel_rfl) rfl #[.slice A0 l0.length c0, .int .i64 a1] rfl tm_ ?_; (with_reducible refine (impl_spread.calls k _ _ l0 a1 t1627 _ ?side1 ?side2 A6.out).mono ?_); (case side1 => exact ca (Kd.C_below HR0.out HB.out)); (case side2 => exact HC0.out); rintro e w8 ⟨v1628, rfl, ho0, hb⟩; refine ⟨_, rfl, ?_⟩; have HO1629 := Aside0.mk (Kd.R_lower (Kd.R_new' ho0 (rl_ HO1626)) (below_size (hB HB))); replace HO1626 := re_ HO1626 ho0 hb; replace HB := bst_ HB hb; clear hb ho0; obtain ⟨Ao9, co9, eo9⟩ := Kd.R_slice HO1629.out; subst eo9; obtain ⟨Ao10, co10, eo10⟩ := Kd.R_slice HO1626.out; subst eo10))
 go_ret2
 exact ⟨by first | rfl | (simp [errW_none, errW_some] <;> rfl) | (simp [*, errW_none, errW_some] <;> rfl), by repeat (first | (with_reducible first | exact HB.out | apply below_alloc | apply pw_below_drewN | apply below_drew1) | exact HB.out)⟩

def spec_SavedBy.j0 : Nat → List Int → Int → List Int → Bool → Option (Int × Bool)
 | 0, _, _, _, _ => none
 | k + 1, x0, x1, x2, x17 => if x17 = true then (some (0, false)) else ((spec_l10Spread.f k x0 x1).bind fun t1632 => ((spec_l14Hops.f k x0 x1 x2).bind fun t1635 => (some (wrap64 ((t1632.length : Int) - (t1635.length : Int)), true))))
def spec_SavedBy.f (k : Nat) (l0 : List Int) (a1 : Int) (l2 : List Int) : Option (Int × Bool) := (spec_l10Two.f k l0 a1 a1).bind fun t1630 => (if t1630 = true then ((spec_l14Wants.f k l2).bind fun t1631 => (spec_SavedBy.j0 k l0 a1 l2 (!t1631))) else (spec_SavedBy.j0 k l0 a1 l2 true))
theorem spec_SavedBy.mono_l : ∀ k, (∀ y0 y1 y2 y3, LeO (spec_SavedBy.j0 k y0 y1 y2 y3) (spec_SavedBy.j0 (k + 1) y0 y1 y2 y3))
 | 0 => fun _ _ _ _ r h => by simp [spec_SavedBy.j0] at h
 | k + 1 => by
  have ih0 := spec_SavedBy.mono_l k
  ·intro y0 y1 y2 y3
   unfold spec_SavedBy.j0
   repeat' first
   | (with_reducible exact ih0 _ _ _ _)
   | (with_reducible exact spec_l10Spread.mono _ _ _)
   | (with_reducible exact spec_l10Two.mono _ _ _ _)
   | (with_reducible exact spec_l14Hops.mono _ _ _ _)
   | (with_reducible exact spec_l14Wants.mono _ _)
   | (with_reducible exact LeO.refl _)
   | (with_reducible exact LeO.none _)
   | (with_reducible refine LeO.ite ?_ ?_)
   | (with_reducible refine LeO.bind ?_ (fun _ => ?_))
theorem spec_SavedBy.mono : ∀ a0 a1 a2 k, LeO (spec_SavedBy.f k a0 a1 a2) (spec_SavedBy.f (k + 1) a0 a1 a2) := by
 intro a0 a1 a2 k
 have ih0 := spec_SavedBy.mono_l k
 unfold spec_SavedBy.f
 repeat' first
   | (with_reducible exact ih0 _ _ _ _)
   | (with_reducible exact spec_l10Spread.mono _ _ _)
   | (with_reducible exact spec_l10Two.mono _ _ _ _)
   | (with_reducible exact spec_l14Hops.mono _ _ _ _)
   | (with_reducible exact spec_l14Wants.mono _ _)
   | (with_reducible exact LeO.refl _)
   | (with_reducible exact LeO.none _)
   | (with_reducible refine LeO.ite ?_ ?_)
   | (with_reducible refine LeO.bind ?_ (fun _ => ?_))
set_option maxHeartbeats 8000000 in
set_option maxRecDepth 100000 in
theorem spec_SavedBy.calls (k : Nat) (A0 : Option Addr) (c0 : Nat) (l0 : List Int) (a1 : Int) (A2 : Option Addr) (c2 : Nat) (l2 : List Int) (r1 : Int) (r2 : Bool) (w : World) (hr0 : Kd.C (Kd.int .i64) w A0 l0.length l0) (hc0 : l0.length ≤ c0) (hr2 : Kd.C (Kd.int .i64) w A2 l2.length l2) (hc2 : l2.length ≤ c2) (h : spec_SavedBy.f k l0 a1 l2 = some (r1, r2)) :
  Calls Try.prog 54 #[.slice A0 l0.length c0, .int .i64 a1, .slice A2 l2.length c2] w fun e w' => e = .returned (.tuple #[.int .i64 r1, .bool r2]) ∧ Below w.heap.size w w' := by
 have HR0 := Aside0.mk hr0
 have HC0 := Aside0.mk hc0
 clear hr0 hc0
 have HR2 := Aside0.mk hr2
 have HC2 := Aside0.mk hc2
 clear hr2 hc2
 have HB := Aside0.mk (Below.refl w.heap.size w)
 have H : ((spec_l10Two.f k l0 a1 a1).bind fun t1630 => (if t1630 = true then ((spec_l14Wants.f k l2).bind fun t1631 => (spec_SavedBy.j0 k l0 a1 l2 (!t1631))) else (spec_SavedBy.j0 k l0 a1 l2 true))) = some (r1, r2) := h
 clear h
 have HC4 := Aside0.mk H
 clear H
 go_enter Try.func54, Try.ntmps54
 go_upto_region 1 with (fail)
 go_cut [17] (fun v17 wc => ∃ (kq : Nat) (x17_3 : Bool), v17 = .bool x17_3 ∧ Aside0 (spec_SavedBy.j0 kq l0 a1 l2 x17_3 = some (r1, r2)) ∧ Aside0 (kq ≤ k) ∧ Aside0 (Below w.heap.size w wc))
 case first =>
  have H := HC4.out
  clear HC4
  replace H := Option.bind_eq_some_iff.mp H
  obtain ⟨t1630, A50, H⟩ := H
  replace H : (if t1630 = true then ((spec_l14Wants.f k l2).bind fun t1631 => (spec_SavedBy.j0 k l0 a1 l2 (!t1631))) else (spec_SavedBy.j0 k l0 a1 l2 true)) = some (r1, r2) := H
  have A5 := Aside0.mk A50
  clear A50
  by_cases c6 : t1630 = true
  rotate_left
  ·replace c6 := Bool.eq_false_iff.mpr c6
   subst c6
   rw [if_neg (show ¬ (false = true) by decide)] at H
   have H' := Aside0.mk H
   clear H
   go_wp2_with (first | ((with_reducible refine gate_callee (f := 74) rfl ?_); refine goesL_ (some 11) rfl rfl Try.func74 (by kernel_rfl) rfl #[.slice A0 l0.length c0, .int .i64 a1, .int .i64 a1] rfl tm_ ?_; (with_reducible refine (spec_l10Two.calls k _ _ l0 a1 a1 false _ ?side1 ?side2 A5.out).mono ?_); (case side1 => exact ca (Kd.C_below HR0.out HB.out)); (case side2 => exact HC0.out); rintro e w' ⟨rfl, ⟨nd, rfl⟩⟩; refine ⟨_, rfl, ?_⟩))
   go_meet
   case rel => exact ⟨_, (true), (by first | rfl | (simp; done) | (simp [*]; done)), H', ⟨by first | omega | exact Nat.le_refl _⟩, ⟨hB HB⟩⟩
  subst c6
  rw [if_pos rfl] at H
  replace H := Option.bind_eq_some_iff.mp H
  obtain ⟨t1631, A70, H⟩ := H
  replace H : (spec_SavedBy.j0 k l0 a1 l2 (!t1631)) = some (r1, r2) := H
  have A7 := Aside0.mk A70
  clear A70
  have H' := Aside0.mk H
  clear H
  go_wp2_with (first | ((with_reducible refine gate_callee (f := 74) rfl ?_); refine goesL_ (some 11) rfl rfl Try.func74 (by kernel_rfl) rfl #[.slice A0 l0.length c0, .int .i64 a1, .int .i64 a1] rfl tm_ ?_; (with_reducible refine (spec_l10Two.calls k _ _ l0 a1 a1 true _ ?side1 ?side2 A5.out).mono ?_); (case side1 => exact ca (Kd.C_below HR0.out HB.out)); (case side2 => exact HC0.out); rintro e w' ⟨rfl, ⟨nd, rfl⟩⟩; refine ⟨_, rfl, ?_⟩) | (go_at_call 75; (with_reducible refine (spec_l14Wants.calls k _ _ l2 t1631 _ ?side1 ?side2 A7.out).mono ?_); (case side1 => exact ca (Kd.C_below HR2.out (hB HB))); (case side2 => exact HC2.out); rintro e w' ⟨rfl, ⟨nd, rfl⟩⟩))
  go_meet
  case rel => exact ⟨_, (!t1631), (by first | rfl | (simp; done) | (simp [*]; done)), H', ⟨by first | omega | exact Nat.le_refl _⟩, ⟨hB HB⟩⟩
 case rest =>
  clear HC4
  try clear c2
  obtain ⟨kq, x17_3, rfl, HA, HJ3, HB⟩ := hcut
  cases kq with
  | zero => exact absurd HA.out (by simp [spec_SavedBy.j0])
  | succ kj3 =>
   have H := HA.out
   clear HA
   simp only [spec_SavedBy.j0] at H
   by_cases c8 : x17_3 = true
   ·subst c8
    rw [if_pos rfl] at H
    simp only [Option.some.injEq, Prod.mk.injEq] at H
    obtain ⟨rfl, rfl⟩ := H
    go_wp2
    go_ret2
    exact ⟨by first | rfl | (simp [errW_none, errW_some] <;> rfl) | (simp [*, errW_none, errW_some] <;> rfl), by repeat (first | (with_reducible first | exact HB.out | apply below_alloc | apply pw_below_drewN | apply below_drew1) | exact HB.out)⟩
   replace c8 := Bool.eq_false_iff.mpr c8
   subst c8
   rw [if_neg (show ¬ (false = true) by decide)] at H
   replace H := Option.bind_eq_some_iff.mp H
   obtain ⟨t1632, A90, H⟩ := H
   replace H : ((spec_l14Hops.f kj3 l0 a1 l2).bind fun t1635 => (some (wrap64 ((t1632.length : Int) - (t1635.length : Int)), true))) = some (r1, r2) := H
   have A9 := Aside0.mk A90
   clear A90
   replace H := Option.bind_eq_some_iff.mp H
   obtain ⟨t1635, A100, H⟩ := H
   replace H : (some (wrap64 ((t1632.length : Int) - (t1635.length : Int)), true)) = some (r1, r2) := H
   have A10 := Aside0.mk A100
   clear A100
   simp only [Option.some.injEq, Prod.mk.injEq] at H
   obtain ⟨rfl, rfl⟩ := H
   go_wp2_with (first | ((with_reducible refine gate_callee (f := 110) rfl ?_); refine goesL_ (some 20) rfl rfl Try.func110 (by kernel_rfl) rfl #[.slice A0 l0.length c0, .int .i64 a1] rfl tm_ ?_; (with_reducible refine (spec_l10Spread.calls kj3 _ _ l0 a1 t1632 _ ?side1 ?side2 A9.out).mono ?_); (case side1 => exact ca (Kd.C_below HR0.out HB.out)); (case side2 => exact HC0.out); rintro e w11 ⟨v1633, rfl, ho0, hb⟩; refine ⟨_, rfl, ?_⟩; have HO1634 := Aside0.mk (Kd.R_lower ho0 (below_size (hB HB))); replace HB := bst_ HB hb; clear hb ho0; obtain ⟨Ao12, co12, eo12⟩ := Kd.R_slice HO1634.out; subst eo12) | ((with_reducible refine gate_callee (f := 76) rfl ?_); refine goesL_ (some 25) rfl rfl Try.func76 (by kernel_rfl) rfl #[.slice A0 l0.length c0, .int .i64 a1, .slice A2 l2.length c2] rfl tm_ ?_; (with_reducible refine (spec_l14Hops.calls kj3 _ _ l0 a1 _ _ l2 t1635 _ ?side1 ?side2 ?side3 ?side4 A10.out).mono ?_); (case side1 => exact ca (Kd.C_below HR0.out HB.out)); (case side2 => exact HC0.out); (case side3 => exact ca (Kd.C_below HR2.out HB.out)); (case side4 => exact HC2.out); rintro e w13 ⟨v1636, rfl, ho0, hb⟩; refine ⟨_, rfl, ?_⟩; have HO1637 := Aside0.mk (Kd.R_lower (Kd.R_new' ho0 (rl_ HO1634)) (below_size (hB HB))); replace HO1634 := re_ HO1634 ho0 hb; replace HB := bst_ HB hb; clear hb ho0; obtain ⟨Ao14, co14, eo14⟩ := Kd.R_slice HO1637.out; subst eo14))
   go_ret2
   exact ⟨by first | rfl | (simp [errW_none, errW_some] <;> rfl) | (simp [*, errW_none, errW_some] <;> rfl), by repeat (first | (with_reducible first | exact HB.out | apply below_alloc | apply pw_below_drewN | apply below_drew1) | exact HB.out)⟩

def laws_sameHops.l0 : Nat → List (S76) → List (S76) → Int → Int → Option (Bool)
 | 0, _, _, _, _ => none
 | k + 1, x0, x1, x12, x13 => if x13 < x12 then (if 0 ≤ x13 then (if x13 < (x0.length : Int) then (if x13 < (x1.length : Int) then (if (!(((rd_T76 x0 x13).f0) == ((rd_T76 x1 x13).f0)) || (!(((rd_T76 x0 x13).f1) == ((rd_T76 x1 x13).f1)))) = true then (some false) else (laws_sameHops.l0 k x0 x1 x12 (wrap64 (x13 + 1)))) else (none)) else (none)) else (none)) else (some true)
def laws_sameHops.f (k : Nat) (l0 : List (S76)) (l1 : List (S76)) : Option (Bool) := if (l0.length : Int) = (l1.length : Int) then (laws_sameHops.l0 k l0 l1 (l0.length : Int) 0) else (some false)
theorem laws_sameHops.mono_l : ∀ k, (∀ y0 y1 y2 y3, LeO (laws_sameHops.l0 k y0 y1 y2 y3) (laws_sameHops.l0 (k + 1) y0 y1 y2 y3))
 | 0 => fun _ _ _ _ r h => by simp [laws_sameHops.l0] at h
 | k + 1 => by
  have ih0 := laws_sameHops.mono_l k
  ·intro y0 y1 y2 y3
   unfold laws_sameHops.l0
   repeat' first
   | (with_reducible exact ih0 _ _ _ _)
   | (with_reducible exact LeO.refl _)
   | (with_reducible exact LeO.none _)
   | (with_reducible refine LeO.ite ?_ ?_)
   | (with_reducible refine LeO.bind ?_ (fun _ => ?_))
theorem laws_sameHops.mono : ∀ a0 a1 k, LeO (laws_sameHops.f k a0 a1) (laws_sameHops.f (k + 1) a0 a1) := by
 intro a0 a1 k
 have ih0 := laws_sameHops.mono_l k
 unfold laws_sameHops.f
 repeat' first
   | (with_reducible exact ih0 _ _ _ _)
   | (with_reducible exact LeO.refl _)
   | (with_reducible exact LeO.none _)
   | (with_reducible refine LeO.ite ?_ ?_)
   | (with_reducible refine LeO.bind ?_ (fun _ => ?_))
set_option maxHeartbeats 8000000 in
set_option maxRecDepth 100000 in
theorem laws_sameHops.calls (k : Nat) (A0 : Option Addr) (c0 : Nat) (l0 : List (S76)) (A1 : Option Addr) (c1 : Nat) (l1 : List (S76)) (r : Bool) (w : World) (hr0 : Kd.C k76 w A0 l0.length l0) (hc0 : l0.length ≤ c0) (hr1 : Kd.C k76 w A1 l1.length l1) (hc1 : l1.length ≤ c1) (h : laws_sameHops.f k l0 l1 = some r) :
  Calls Try.prog 55 #[.slice A0 l0.length c0, .slice A1 l1.length c1] w fun e w' => e = .returned (.bool r) ∧ Drawn0 w w' := by
 have hu76 := Try.underlying76
 have HR0 := Aside0.mk hr0
 have HC0 := Aside0.mk hc0
 clear hr0 hc0
 have HR1 := Aside0.mk hr1
 have HC1 := Aside0.mk hc1
 clear hr1 hc1
 have H : (if (l0.length : Int) = (l1.length : Int) then (laws_sameHops.l0 k l0 l1 (l0.length : Int) 0) else (some false)) = some r := h
 clear h
 by_cases c3 : (l0.length : Int) = (l1.length : Int)
 rotate_left
 ·rw [if_neg c3] at H
  have c3b0 : ((l0.length : Int) == (l1.length : Int)) = false := beq_eq_false_iff_ne.mpr c3
  have c3b1 : ((l0.length : Int) != (l1.length : Int)) = true := bne_iff_ne.mpr c3
  have c3b2 : (l0.length == l1.length) = false := by first | simpa using c3 | (simp at c3 ⊢; omega)
  obtain rfl := Option.some.inj H
  go_enter Try.func55, Try.ntmps55
  go_wp2
  repeat (go_quiet (fail); try go_wp2)
  go_ret
  exact ⟨by first | rfl | (simp; done) | (simp [*]; done), by repeat (first | exact Drawn0.refl _ | apply Drawn0.step)⟩
 rw [if_pos c3] at H
 have c3b0 : ((l0.length : Int) == (l1.length : Int)) = true := beq_iff_eq.mpr c3
 have c3b1 : ((l0.length : Int) != (l1.length : Int)) = false := bne_eq_false_iff_eq.mpr c3
 have c3b2 : (l0.length == l1.length) = true := by first | simpa using c3 | (simp at c3 ⊢; omega)
 clear c3
 have H' := Aside0.mk H
 clear H
 go_enter Try.func55, Try.ntmps55
 go_wp2
 repeat (go_quiet (fail); try go_wp2)
 go_loopg [13] k (fun kq v13 w' => ∃ (x13_1 : Int), v13 = .int .i64 x13_1 ∧ Aside0 (laws_sameHops.l0 kq l0 l1 (l0.length : Int) x13_1 = some r) ∧ Aside0 (kq ≤ k) ∧ Drawn0 w w')
 case atStart => exact ⟨(0), (by first | rfl | (simp; done) | (simp [*]; done)), H', ⟨Nat.le_refl _⟩, by repeat (first | exact Drawn0.refl _ | apply Drawn0.step)⟩
 case round =>
  clear H'
  try clear c1
  try clear c3
  try clear c3b0
  try clear c3b1
  try clear c3b2
  obtain ⟨x13_1, rfl, HA, HK1, ⟨m1, rfl⟩⟩ := hrel
  cases gk with
  | zero => exact absurd HA.out (by simp [laws_sameHops.l0])
  | succ k1 =>
   have H := HA.out
   clear HA
   simp only [laws_sameHops.l0] at H
   by_cases c4 : x13_1 < (l0.length : Int)
   rotate_left
   ·rw [if_neg c4] at H
    have c4b0 : decide (x13_1 < (l0.length : Int)) = false := decide_eq_false c4
    clear c4
    obtain rfl := Option.some.inj H
    go_wp2
    repeat (go_quiet (fail); try go_wp2)
    go_ret
    exact ⟨by first | rfl | (simp; done) | (simp [*]; done), by repeat (first | exact Drawn0.refl _ | apply Drawn0.step)⟩
   rw [if_pos c4] at H
   have c4b0 : decide (x13_1 < (l0.length : Int)) = true := decide_eq_true c4
   clear c4
   by_cases c5 : 0 ≤ x13_1
   rotate_left
   ·rw [if_neg c5] at H
    exact absurd H (by simp)
   rw [if_pos c5] at H
   have c5b0 : decide (0 ≤ x13_1) = true := decide_eq_true c5
   clear c5
   by_cases c6 : x13_1 < (l0.length : Int)
   rotate_left
   ·rw [if_neg c6] at H
    exact absurd H (by simp)
   rw [if_pos c6] at H
   have c6b0 : decide (x13_1 < (l0.length : Int)) = true := decide_eq_true c6
   clear c6
   by_cases c7 : x13_1 < (l1.length : Int)
   rotate_left
   ·rw [if_neg c7] at H
    exact absurd H (by simp)
   rw [if_pos c7] at H
   have c7b0 : decide (x13_1 < (l1.length : Int)) = true := decide_eq_true c7
   clear c7
   by_cases c8 : (!(((rd_T76 l0 x13_1).f0) == ((rd_T76 l1 x13_1).f0)) || (!(((rd_T76 l0 x13_1).f1) == ((rd_T76 l1 x13_1).f1)))) = true
   ·rw [if_pos c8] at H
    have c8b0 : (!(((rd_T76 l0 x13_1).f0) == ((rd_T76 l1 x13_1).f0)) || (!(((rd_T76 l0 x13_1).f1) == ((rd_T76 l1 x13_1).f1)))) = true := c8
    clear c8
    obtain rfl := Option.some.inj H
    have p1638 : 0 ≤ (x13_1 : Int) := of_decide_eq_true (by first | (with_reducible assumption) | assumption)
    have q1638 : x13_1 < (l0.length : Int) := of_decide_eq_true (by first | (with_reducible assumption) | assumption)
    obtain ⟨ad1638, e1638, hx1638_0, hx1638_1⟩ := at_T76 HR0.out x13_1 p1638 q1638
    cases e1638
    replace p1638 := eq_true p1638
    replace q1638 := eq_true q1638
    have p1639 : 0 ≤ (x13_1 : Int) := of_decide_eq_true (by first | (with_reducible assumption) | assumption)
    have q1639 : x13_1 < (l1.length : Int) := of_decide_eq_true (by first | (with_reducible assumption) | assumption)
    obtain ⟨ad1639, e1639, hx1639_0, hx1639_1⟩ := at_T76 HR1.out x13_1 p1639 q1639
    cases e1639
    replace p1639 := eq_true p1639
    replace q1639 := eq_true q1639
    go_wp2
    repeat (go_quiet (fail); try go_wp2)
    go_ret
    exact ⟨by first | rfl | (simp; done) | (simp [*]; done), by repeat (first | exact Drawn0.refl _ | apply Drawn0.step)⟩
   rw [if_neg c8] at H
   have c8b0 : (!(((rd_T76 l0 x13_1).f0) == ((rd_T76 l1 x13_1).f0)) || (!(((rd_T76 l0 x13_1).f1) == ((rd_T76 l1 x13_1).f1)))) = false := by simpa using c8
   clear c8
   have H' := Aside0.mk H
   clear H
   have p1638 : 0 ≤ (x13_1 : Int) := of_decide_eq_true (by first | (with_reducible assumption) | assumption)
   have q1638 : x13_1 < (l0.length : Int) := of_decide_eq_true (by first | (with_reducible assumption) | assumption)
   obtain ⟨ad1638, e1638, hx1638_0, hx1638_1⟩ := at_T76 HR0.out x13_1 p1638 q1638
   cases e1638
   replace p1638 := eq_true p1638
   replace q1638 := eq_true q1638
   have p1639 : 0 ≤ (x13_1 : Int) := of_decide_eq_true (by first | (with_reducible assumption) | assumption)
   have q1639 : x13_1 < (l1.length : Int) := of_decide_eq_true (by first | (with_reducible assumption) | assumption)
   obtain ⟨ad1639, e1639, hx1639_0, hx1639_1⟩ := at_T76 HR1.out x13_1 p1639 q1639
   cases e1639
   replace p1639 := eq_true p1639
   replace q1639 := eq_true q1639
   go_wp2
   repeat (go_quiet (fail); try go_wp2)
   go_roundg k1
   case measure => have := HK1.out; omega
   case rel => exact ⟨(wrap64 (x13_1 + 1)), (by first | rfl | (simp; done) | (simp [*]; done)), H', ⟨by have := HK1.out; omega⟩, by repeat (first | exact Drawn0.refl _ | apply Drawn0.step)⟩

def impl_reached.l0 : Nat → List Int → List (S76) → Int → Int → Option (List Int)
 | 0, _, _, _, _ => none
 | k + 1, x5, x10, x11, x12 => if x12 < x11 then (if 0 ≤ x12 then (if x12 < (x10.length : Int) then ((slices_Contains_int_int.f k x5 ((rd_T76 x10 x12).f0)).bind fun t1646 => (if t1646 = true then ((slices_Contains_int_int.f k x5 ((rd_T76 x10 x12).f1)).bind fun t1647 => (if t1647 = true then (impl_reached.l0 k x5 x10 x11 (wrap64 (x12 + 1))) else (if x5.length < 17592186044416 then (impl_reached.l0 k (x5 ++ [(rd_T76 x10 x12).f1]) x10 x11 (wrap64 (x12 + 1))) else (none)))) else (impl_reached.l0 k x5 x10 x11 (wrap64 (x12 + 1))))) else (none)) else (none)) else ((slices_Sort_int_int.f x5).bind fun t1643 => (some t1643))
def impl_reached.f (k : Nat) (l0 : List (S76)) (a1 : Int) : Option (List Int) := impl_reached.l0 k (([a1] : List Int)) l0 (l0.length : Int) 0
theorem impl_reached.mono_l : ∀ k, (∀ y0 y1 y2 y3, LeO (impl_reached.l0 k y0 y1 y2 y3) (impl_reached.l0 (k + 1) y0 y1 y2 y3))
 | 0 => fun _ _ _ _ r h => by simp [impl_reached.l0] at h
 | k + 1 => by
  have ih0 := impl_reached.mono_l k
  ·intro y0 y1 y2 y3
   unfold impl_reached.l0
   repeat' first
   | (with_reducible exact ih0 _ _ _ _)
   | (with_reducible exact slices_Contains_int_int.mono _ _ _)
   | (with_reducible exact LeO.refl _)
   | (with_reducible exact LeO.none _)
   | (with_reducible refine LeO.ite ?_ ?_)
   | (with_reducible refine LeO.bind ?_ (fun _ => ?_))
theorem impl_reached.mono : ∀ a0 a1 k, LeO (impl_reached.f k a0 a1) (impl_reached.f (k + 1) a0 a1) := by
 intro a0 a1 k
 have ih0 := impl_reached.mono_l k
 unfold impl_reached.f
 repeat' first
   | (with_reducible exact ih0 _ _ _ _)
   | (with_reducible exact slices_Contains_int_int.mono _ _ _)
   | (with_reducible exact LeO.refl _)
   | (with_reducible exact LeO.none _)
   | (with_reducible refine LeO.ite ?_ ?_)
   | (with_reducible refine LeO.bind ?_ (fun _ => ?_))
set_option maxHeartbeats 8000000 in
set_option maxRecDepth 100000 in
theorem impl_reached.calls (k : Nat) (A0 : Option Addr) (c0 : Nat) (l0 : List (S76)) (a1 : Int) (r : List Int) (w : World) (hr0 : Kd.C k76 w A0 l0.length l0) (hc0 : l0.length ≤ c0) (h : impl_reached.f k l0 a1 = some r) :
  Calls Try.prog 111 #[.slice A0 l0.length c0, .int .i64 a1] w fun e w' => ∃ v0_ : Value, e = .returned (v0_) ∧ Kd.R (Kd.int .i64) 3 w' w.heap.size (fun _ => True) v0_ r ∧ Below w.heap.size w w' := by
 have hu76 := Try.underlying76
 have HR0 := Aside0.mk hr0
 have HC0 := Aside0.mk hc0
 clear hr0 hc0
 have HB := Aside0.mk (Below.refl w.heap.size w)
 have H : (impl_reached.l0 k (([a1] : List Int)) l0 (l0.length : Int) 0) = some r := h
 clear h
 obtain ⟨y1640, hy1640⟩ : ∃ y_ : List Int, y_ = (([a1] : List Int)) := ⟨_, rfl⟩
 replace H : (impl_reached.l0 k y1640 l0 (l0.length : Int) 0) = some r := by first | (rw [hy1640]; with_reducible exact H) | (have H2_ := (Option.bind_some _ _).symm.trans H; rw [hy1640]; with_reducible exact H2_) | (have H2_ := (Option.bind_some _ _).symm.trans H; with_reducible exact H2_) | with_reducible exact H | (rw [hy1640]; exact H) | exact H
 have Ny1640 := Aside0.mk hy1640
 clear hy1640
 have H' := Aside0.mk H
 clear H
 go_enter Try.func111, Try.ntmps111
 go_wp2_with (first | ((with_reducible refine gate_dst (N := 9) rfl ?_); refine Kd.R_lit (Kd.int .i64) _ 3 ?hg (N := 9) ?hd (xs := ([a1] : List Int)) (inner := [.int .i64 a1]) (ok := fun _ => True) (okp := fun _ => True) ?hr ?hp (fun _ hk => hk) trivial (Below.refl _ _) (Nat.le_refl _) (by simp) ?_; (case hd => rfl); (case hg => rfl); (case hr => first | (go_simp; done) | (go_simp; rfl)); (case hp => exact (Reps.one (show Kd.M (Kd.int .i64) _ _ _ a1 [.int .i64 a1] from rfl) (Reps.none _ _))); intro v1641 w3 ho4 hb hg_ hnew_; clear hg_ hnew_; (first | rw [← Ny1640.out] at ho4 | (simp only [Int.reduceToNat] at ho4; rw [← Ny1640.out] at ho4)); have HO1642 := Aside0.mk (Kd.R_lower ho4 (below_size (hB HB))); replace HB := bst_ HB hb; clear hb ho4))
 go_loopg [5, 12] k (fun kq v5 v12 w' => ∃ (x5_1 : List Int) (x12_1 : Int), v12 = .int .i64 x12_1 ∧ Aside0 (impl_reached.l0 kq x5_1 l0 (l0.length : Int) x12_1 = some r) ∧ Aside0 (kq ≤ k) ∧ Aside0 (Kd.R (Kd.int .i64) 3 w' w.heap.size (fun _ => True) v5 x5_1) ∧ Aside0 (Below w.heap.size w w'))
 case atStart => exact ⟨(y1640), (0), (by first | rfl | (simp; done) | (simp [*]; done)), H', ⟨Nat.le_refl _⟩, ⟨ra HO1642.out⟩, ⟨hB HB⟩⟩
 case round =>
  clear H'
  obtain ⟨x5_1, x12_1, rfl, HA, HK1, HO_5, HB⟩ := hrel
  cases gk with
  | zero => exact absurd HA.out (by simp [impl_reached.l0])
  | succ k1 =>
   have H := HA.out
   clear HA
   simp only [impl_reached.l0] at H
   by_cases c5 : x12_1 < (l0.length : Int)
   rotate_left
   ·rw [if_neg c5] at H
    have c5b0 : decide (x12_1 < (l0.length : Int)) = false := decide_eq_false c5
    clear c5
    replace H := Option.bind_eq_some_iff.mp H
    obtain ⟨t1643, A230, H⟩ := H
    replace H : (some t1643) = some r := H
    have A23 := Aside0.mk A230
    clear A230
    obtain rfl := Option.some.inj H
    obtain ⟨Ao24, co24, eo24⟩ := Kd.R_slice HO_5.out
    subst eo24
    go_wp2_with (first | ((with_reducible refine gate_callee (f := 136) rfl ?_); refine goesL_ (some 34) rfl rfl Try.func136 (by kernel_rfl) rfl #[.slice Ao24 x5_1.length co24] rfl tm_ ?_; (with_reducible refine (slices_Sort_int_int.calls (fun k_ => some k_ = (.slice Ao24 x5_1.length co24 : Value).ownBlock) (.slice Ao24 x5_1.length co24) x5_1 t1643 w _ ?side1 ?side2 A23.out).mono ?_); (case side1 => repeat (first | (with_reducible first | exact HB.out | apply below_alloc | apply pw_below_drewN | apply below_drew1) | exact HB.out)); (case side2 => exact Kd.R_tight rfl HO_5.out); rintro e w25 ⟨rfl, hy0, hb, hkp⟩; refine ⟨_, rfl, ?_⟩; replace HO_5 := Aside0.mk (Kd.R_reok rfl hy0 (fun k_ e_ => HO_5.out.1 k_ e_)); replace HB := Aside0.mk (hb); clear hb))
    go_ret
    exact ⟨_, by first | rfl | (simp [errW_none, errW_some] <;> rfl) | (simp [*, errW_none, errW_some] <;> rfl), by (with_reducible repeat (first | apply Kd.R_alloc | apply Kd.R_drewN | apply Kd.R_drew)); exact HO_5.out, by repeat (first | (with_reducible first | exact HB.out | apply below_alloc | apply pw_below_drewN | apply below_drew1) | exact HB.out)⟩
   rw [if_pos c5] at H
   have c5b0 : decide (x12_1 < (l0.length : Int)) = true := decide_eq_true c5
   clear c5
   by_cases c6 : 0 ≤ x12_1
   rotate_left
   ·rw [if_neg c6] at H
    exact absurd H (by simp)
   rw [if_pos c6] at H
   have c6b0 : decide (0 ≤ x12_1) = true := decide_eq_true c6
   clear c6
   by_cases c7 : x12_1 < (l0.length : Int)
   rotate_left
   ·rw [if_neg c7] at H
    exact absurd H (by simp)
   rw [if_pos c7] at H
   have c7b0 : decide (x12_1 < (l0.length : Int)) = true := decide_eq_true c7
   clear c7
   replace H := Option.bind_eq_some_iff.mp H
   obtain ⟨t1646, A80, H⟩ := H
   replace H : (if t1646 = true then ((slices_Contains_int_int.f k1 x5_1 ((rd_T76 l0 x12_1).f1)).bind fun t1647 => (if t1647 = true then (impl_reached.l0 k1 x5_1 l0 (l0.length : Int) (wrap64 (x12_1 + 1))) else (if x5_1.length < 17592186044416 then (impl_reached.l0 k1 (x5_1 ++ [(rd_T76 l0 x12_1).f1]) l0 (l0.length : Int) (wrap64 (x12_1 + 1))) else (none)))) else (impl_reached.l0 k1 x5_1 l0 (l0.length : Int) (wrap64 (x12_1 + 1)))) = some r := H
   have A8 := Aside0.mk A80
   clear A80
   by_cases c9 : t1646 = true
   rotate_left
   ·replace c9 := Bool.eq_false_iff.mpr c9
    subst c9
    rw [if_neg (show ¬ (false = true) by decide)] at H
    have H' := Aside0.mk H
    clear H
    have p1644 : 0 ≤ (x12_1 : Int) := of_decide_eq_true (by first | (with_reducible assumption) | assumption)
    have q1644 : x12_1 < (l0.length : Int) := of_decide_eq_true (by first | (with_reducible assumption) | assumption)
    obtain ⟨ad1644, e1644, hx1644_0, hx1644_1⟩ := at_T76 HR0.out x12_1 p1644 q1644
    cases e1644
    replace hx1644_0 := (HB.out.cell (World.block_lt_of_cell? w _ hx1644_0)).trans hx1644_0
    replace hx1644_1 := (HB.out.cell (World.block_lt_of_cell? w _ hx1644_1)).trans hx1644_1
    replace p1644 := eq_true p1644
    replace q1644 := eq_true q1644
    go_wp2_with (first | ((with_reducible refine gate_dst (N := 7) rfl ?_); refine box_event ?hg (N := 7) ?hd (cs := #[.int .i64 0, .int .i64 0]) (t := 76) ?hr ?_; (case hd => rfl); (case hg => rfl); (case hr => first | (go_simp; done) | (go_simp; rfl)); intro gb1645 hg w20 hbox hb; have BK1645 := Aside0.mk (hbox); have GW1645 := gw_ hg HB; have GE1645 := gw_ hg HB; replace HO_5 := rb_ HO_5 hb; replace HB := bst_ HB hb; clear hb hbox hg; have hcz21_0 : w20.cell? ⟨gb1645, 0, none⟩ = some (.int .i64 0) := bc_ BK1645 0; have hcz21_1 : w20.cell? ⟨gb1645, 1, none⟩ = some (.int .i64 0) := bc_ BK1645 1; have hfz21_0 := blk_frozen BK1645.out 0; have hfz21_1 := blk_frozen BK1645.out 1; obtain ⟨Ao22, co22, eo22⟩ := Kd.R_slice HO_5.out; subst eo22) | ((with_reducible refine gate_callee (f := 97) rfl ?_); refine goesL_ (some 19) rfl rfl Try.func97 (by kernel_rfl) rfl #[.slice Ao22 x5_1.length co22, .int .i64 ((rd_T76 l0 x12_1).f0)] rfl tm_ ?_; (with_reducible refine (slices_Contains_int_int.calls k1 _ _ x5_1 ((rd_T76 l0 x12_1).f0) false _ ?side1 ?side2 A8.out).mono ?_); (case side1 => exact rr_ (Kd.R_mono (Kd.R_far (p := ⟨gb1645, 1, none⟩) (Kd.R_far (p := ⟨gb1645, 0, none⟩) (Kd.R_types HO_5.out BK1645.out (by decide)) (fun _ hk => hk.2) (.int .i64 ((rd_T76 l0 x12_1).f0))) (fun _ hk => hk.2) (.int .i64 ((rd_T76 l0 x12_1).f1))) (fun _ h_ => h_.1))); (case side2 => exact (Kd.R_reads' HO_5.out).2.1); rintro e w' ⟨rfl, ⟨nd, rfl⟩⟩; refine ⟨_, rfl, ?_⟩))
    go_roundg k1
    case measure => have := HK1.out; omega
    case rel => exact ⟨(x5_1), (wrap64 (x12_1 + 1)), (by first | rfl | (simp; done) | (simp [*]; done)), H', ⟨by have := HK1.out; omega⟩, ⟨by (with_reducible repeat (first | apply Kd.R_alloc | apply Kd.R_drewN | apply Kd.R_drew)); exact Kd.R_mono (Kd.R_far (p := ⟨gb1645, 1, none⟩) (Kd.R_far (p := ⟨gb1645, 0, none⟩) (Kd.R_types HO_5.out BK1645.out (by decide)) (fun _ hk => hk.2) (.int .i64 ((rd_T76 l0 x12_1).f0))) (fun _ hk => hk.2) (.int .i64 ((rd_T76 l0 x12_1).f1))) (fun _ hk => trivial)⟩, ⟨hB HB⟩⟩
   subst c9
   rw [if_pos rfl] at H
   replace H := Option.bind_eq_some_iff.mp H
   obtain ⟨t1647, A100, H⟩ := H
   replace H : (if t1647 = true then (impl_reached.l0 k1 x5_1 l0 (l0.length : Int) (wrap64 (x12_1 + 1))) else (if x5_1.length < 17592186044416 then (impl_reached.l0 k1 (x5_1 ++ [(rd_T76 l0 x12_1).f1]) l0 (l0.length : Int) (wrap64 (x12_1 + 1))) else (none))) = some r := H
   have A10 := Aside0.mk A100
   clear A100
   by_cases c11 : t1647 = true
   ·subst c11
    rw [if_pos rfl] at H
    have H' := Aside0.mk H
    clear H
    have p1644 : 0 ≤ (x12_1 : Int) := of_decide_eq_true (by first | (with_reducible assumption) | assumption)
    have q1644 : x12_1 < (l0.length : Int) := of_decide_eq_true (by first | (with_reducible assumption) | assumption)
    obtain ⟨ad1644, e1644, hx1644_0, hx1644_1⟩ := at_T76 HR0.out x12_1 p1644 q1644
    cases e1644
    replace hx1644_0 := (HB.out.cell (World.block_lt_of_cell? w _ hx1644_0)).trans hx1644_0
    replace hx1644_1 := (HB.out.cell (World.block_lt_of_cell? w _ hx1644_1)).trans hx1644_1
    replace p1644 := eq_true p1644
    replace q1644 := eq_true q1644
    go_wp2_with (first | ((with_reducible refine gate_dst (N := 7) rfl ?_); refine box_event ?hg (N := 7) ?hd (cs := #[.int .i64 0, .int .i64 0]) (t := 76) ?hr ?_; (case hd => rfl); (case hg => rfl); (case hr => first | (go_simp; done) | (go_simp; rfl)); intro gb1645 hg w12 hbox hb; have BK1645 := Aside0.mk (hbox); have GW1645 := gw_ hg HB; have GE1645 := gw_ hg HB; replace HO_5 := rb_ HO_5 hb; replace HB := bst_ HB hb; clear hb hbox hg; have hcz13_0 : w12.cell? ⟨gb1645, 0, none⟩ = some (.int .i64 0) := bc_ BK1645 0; have hcz13_1 : w12.cell? ⟨gb1645, 1, none⟩ = some (.int .i64 0) := bc_ BK1645 1; have hfz13_0 := blk_frozen BK1645.out 0; have hfz13_1 := blk_frozen BK1645.out 1; obtain ⟨Ao14, co14, eo14⟩ := Kd.R_slice HO_5.out; subst eo14) | ((with_reducible refine gate_callee (f := 97) rfl ?_); refine goesL_ (some 19) rfl rfl Try.func97 (by kernel_rfl) rfl #[.slice Ao14 x5_1.length co14, .int .i64 ((rd_T76 l0 x12_1).f0)] rfl tm_ ?_; (with_reducible refine (slices_Contains_int_int.calls k1 _ _ x5_1 ((rd_T76 l0 x12_1).f0) true _ ?side1 ?side2 A8.out).mono ?_); (case side1 => exact rr_ (Kd.R_mono (Kd.R_far (p := ⟨gb1645, 1, none⟩) (Kd.R_far (p := ⟨gb1645, 0, none⟩) (Kd.R_types HO_5.out BK1645.out (by decide)) (fun _ hk => hk.2) (.int .i64 ((rd_T76 l0 x12_1).f0))) (fun _ hk => hk.2) (.int .i64 ((rd_T76 l0 x12_1).f1))) (fun _ h_ => h_.1))); (case side2 => exact (Kd.R_reads' HO_5.out).2.1); rintro e w' ⟨rfl, ⟨nd, rfl⟩⟩; refine ⟨_, rfl, ?_⟩) | (go_at_call 97; (with_reducible refine (slices_Contains_int_int.calls k1 _ _ x5_1 ((rd_T76 l0 x12_1).f1) true _ ?side1 ?side2 A10.out).mono ?_); (case side1 => exact rr_ (Kd.R_mono (Kd.R_far (p := ⟨gb1645, 1, none⟩) (Kd.R_far (p := ⟨gb1645, 0, none⟩) (Kd.R_types HO_5.out BK1645.out (by decide)) (fun _ hk => hk.2) (.int .i64 ((rd_T76 l0 x12_1).f0))) (fun _ hk => hk.2) (.int .i64 ((rd_T76 l0 x12_1).f1))) (fun _ h_ => h_.1))); (case side2 => exact (Kd.R_reads' HO_5.out).2.1); rintro e w' ⟨rfl, ⟨nd, rfl⟩⟩))
    go_roundg k1
    case measure => have := HK1.out; omega
    case rel => exact ⟨(x5_1), (wrap64 (x12_1 + 1)), (by first | rfl | (simp; done) | (simp [*]; done)), H', ⟨by have := HK1.out; omega⟩, ⟨by (with_reducible repeat (first | apply Kd.R_alloc | apply Kd.R_drewN | apply Kd.R_drew)); exact Kd.R_mono (Kd.R_far (p := ⟨gb1645, 1, none⟩) (Kd.R_far (p := ⟨gb1645, 0, none⟩) (Kd.R_types HO_5.out BK1645.out (by decide)) (fun _ hk => hk.2) (.int .i64 ((rd_T76 l0 x12_1).f0))) (fun _ hk => hk.2) (.int .i64 ((rd_T76 l0 x12_1).f1))) (fun _ hk => trivial)⟩, ⟨hB HB⟩⟩
   replace c11 := Bool.eq_false_iff.mpr c11
   subst c11
   rw [if_neg (show ¬ (false = true) by decide)] at H
   by_cases c15 : x5_1.length < 17592186044416
   rotate_left
   ·rw [if_neg c15] at H
    exact absurd H (by simp)
   rw [if_pos c15] at H
   have LMc15 := Aside0.mk c15
   clear c15
   obtain ⟨y1648, hy1648⟩ : ∃ y_ : List Int, y_ = (x5_1 ++ [(rd_T76 l0 x12_1).f1]) := ⟨_, rfl⟩
   replace H : (impl_reached.l0 k1 y1648 l0 (l0.length : Int) (wrap64 (x12_1 + 1))) = some r := by first | (rw [hy1648]; with_reducible exact H) | (have H2_ := (Option.bind_some _ _).symm.trans H; rw [hy1648]; with_reducible exact H2_) | (have H2_ := (Option.bind_some _ _).symm.trans H; with_reducible exact H2_) | with_reducible exact H | (rw [hy1648]; exact H) | exact H
   have Ny1648 := Aside0.mk hy1648
   clear hy1648
   have H' := Aside0.mk H
   clear H
   have p1644 : 0 ≤ (x12_1 : Int) := of_decide_eq_true (by first | (with_reducible assumption) | assumption)
   have q1644 : x12_1 < (l0.length : Int) := of_decide_eq_true (by first | (with_reducible assumption) | assumption)
   obtain ⟨ad1644, e1644, hx1644_0, hx1644_1⟩ := at_T76 HR0.out x12_1 p1644 q1644
   cases e1644
   replace hx1644_0 := (HB.out.cell (World.block_lt_of_cell? w _ hx1644_0)).trans hx1644_0
   replace hx1644_1 := (HB.out.cell (World.block_lt_of_cell? w _ hx1644_1)).trans hx1644_1
   replace p1644 := eq_true p1644
   replace q1644 := eq_true q1644
   go_wp2_with (first | ((with_reducible refine gate_dst (N := 7) rfl ?_); refine box_event ?hg (N := 7) ?hd (cs := #[.int .i64 0, .int .i64 0]) (t := 76) ?hr ?_; (case hd => rfl); (case hg => rfl); (case hr => first | (go_simp; done) | (go_simp; rfl)); intro gb1645 hg w16 hbox hb; have BK1645 := Aside0.mk (hbox); have GW1645 := gw_ hg HB; have GE1645 := gw_ hg HB; replace HO_5 := rb_ HO_5 hb; replace HB := bst_ HB hb; clear hb hbox hg; have hcz17_0 : w16.cell? ⟨gb1645, 0, none⟩ = some (.int .i64 0) := bc_ BK1645 0; have hcz17_1 : w16.cell? ⟨gb1645, 1, none⟩ = some (.int .i64 0) := bc_ BK1645 1; have hfz17_0 := blk_frozen BK1645.out 0; have hfz17_1 := blk_frozen BK1645.out 1; obtain ⟨Ao18, co18, eo18⟩ := Kd.R_slice HO_5.out; subst eo18) | ((with_reducible refine gate_callee (f := 97) rfl ?_); refine goesL_ (some 19) rfl rfl Try.func97 (by kernel_rfl) rfl #[.slice Ao18 x5_1.length co18, .int .i64 ((rd_T76 l0 x12_1).f0)] rfl tm_ ?_; (with_reducible refine (slices_Contains_int_int.calls k1 _ _ x5_1 ((rd_T76 l0 x12_1).f0) true _ ?side1 ?side2 A8.out).mono ?_); (case side1 => exact rr_ (Kd.R_mono (Kd.R_far (p := ⟨gb1645, 1, none⟩) (Kd.R_far (p := ⟨gb1645, 0, none⟩) (Kd.R_types HO_5.out BK1645.out (by decide)) (fun _ hk => hk.2) (.int .i64 ((rd_T76 l0 x12_1).f0))) (fun _ hk => hk.2) (.int .i64 ((rd_T76 l0 x12_1).f1))) (fun _ h_ => h_.1))); (case side2 => exact (Kd.R_reads' HO_5.out).2.1); rintro e w' ⟨rfl, ⟨nd, rfl⟩⟩; refine ⟨_, rfl, ?_⟩) | (go_at_call 97; (with_reducible refine (slices_Contains_int_int.calls k1 _ _ x5_1 ((rd_T76 l0 x12_1).f1) false _ ?side1 ?side2 A10.out).mono ?_); (case side1 => exact rr_ (Kd.R_mono (Kd.R_far (p := ⟨gb1645, 1, none⟩) (Kd.R_far (p := ⟨gb1645, 0, none⟩) (Kd.R_types HO_5.out BK1645.out (by decide)) (fun _ hk => hk.2) (.int .i64 ((rd_T76 l0 x12_1).f0))) (fun _ hk => hk.2) (.int .i64 ((rd_T76 l0 x12_1).f1))) (fun _ h_ => h_.1))); (case side2 => exact (Kd.R_reads' HO_5.out).2.1); rintro e w' ⟨rfl, ⟨nd, rfl⟩⟩) | ((with_reducible refine gate_builtin (b := .append) (xs := #[.tmp 27, .tmp 30]) rfl ?_); at_builtin; refine Kd.R_append (Kd.int .i64) (w0 := w) w.heap.size rfl (.tmp 27) (.tmp 30) 22 3 (.int .i64 0) 8 rfl Try.underlying22 info3 rfl (by decide) (by omega) (.slice Ao18 x5_1.length co18) x5_1 ((rd_T76 l0 x12_1).f1) [.int .i64 ((rd_T76 l0 x12_1).f1)] (fun _ => True) (fun _ => False) rfl (by first | (go_simp; done) | (go_simp; rfl)) ?aP (fun _ hk => hk.elim) ?aF ?aO ?aB ?aS ?aL ?_; (case aP => exact rfl); (case aB => exact (hB HB)); (case aF => exact (fun _ _ => trivial)); (case aO => exact (ra (Kd.R_mono (Kd.R_far (p := ⟨gb1645, 1, none⟩) (Kd.R_far (p := ⟨gb1645, 0, none⟩) (Kd.R_types HO_5.out BK1645.out (by decide)) (fun _ hk => hk.2) (.int .i64 ((rd_T76 l0 x12_1).f0))) (fun _ hk => hk.2) (.int .i64 ((rd_T76 l0 x12_1).f1))) (fun _ hk => trivial)))); (case aS => exact (below_size (hB HB))); (case aL => have := LMc15.out; omega); intro v1649 w19 ho hb hg hat; rw [← Ny1648.out] at ho; have HO1650 := Aside0.mk (ho); replace BK1645 := Aside0.mk (blk_grown (g := gb1645) (o := .cells #[.int .i64 ((rd_T76 l0 x12_1).f0), .int .i64 ((rd_T76 l0 x12_1).f1)] 76 (0, 0)) (by (with_reducible repeat (first | refine blk_drewN ?_ _ | refine blk_drew ?_ | refine blk_alloc ?_ _)); refine blk_put (cs := #[.int .i64 ((rd_T76 l0 x12_1).f0), .int .i64 0]) ?_ 1 _ rfl; (with_reducible repeat (first | refine blk_drewN ?_ _ | refine blk_drew ?_ | refine blk_alloc ?_ _)); refine blk_put (cs := #[.int .i64 0, .int .i64 0]) ?_ 0 _ rfl; (with_reducible repeat (first | refine blk_drewN ?_ _ | refine blk_drew ?_ | refine blk_alloc ?_ _)); exact BK1645.out) hg (Kd.R_ne HO_5.out BK1645.out (by decide))); replace HB := Aside0.mk (hb); clear HO_5; clear ho hb hg hat))
   go_roundg k1
   case measure => have := HK1.out; omega
   case rel => exact ⟨(y1648), (wrap64 (x12_1 + 1)), (by first | rfl | (simp; done) | (simp [*]; done)), H', ⟨by have := HK1.out; omega⟩, ⟨ra HO1650.out⟩, ⟨hB HB⟩⟩

mutual
def impl_ReachedBy.j0 : Nat → List (S76) → Int → Bool → Option (List Int × Bool)
 | 0, _, _, _ => none
 | k + 1, x0, x1, x15 => if x15 = true then (some (([] : List Int), false)) else (impl_ReachedBy.l0 k x0 x1 x0 (x0.length : Int) 0)
def impl_ReachedBy.l0 : Nat → List (S76) → Int → List (S76) → Int → Int → Option (List Int × Bool)
 | 0, _, _, _, _, _ => none
 | k + 1, x0, x1, x16, x17, x18 => if x18 < x17 then (if 0 ≤ x18 then (if x18 < (x16.length : Int) then ((impl_isSpot.f ((rd_T76 x16 x18).f0)).bind fun t1657 => (if t1657 = true then ((impl_isSpot.f ((rd_T76 x16 x18).f1)).bind fun t1658 => (if t1658 = true then (if ((rd_T76 x16 x18).f0) = ((rd_T76 x16 x18).f1) then (some (([] : List Int), false)) else (impl_ReachedBy.l0 k x0 x1 x16 x17 (wrap64 (x18 + 1)))) else (some (([] : List Int), false)))) else (some (([] : List Int), false)))) else (none)) else (none)) else ((impl_reached.f k x0 x1).bind fun t1652 => (some (t1652, true)))
end
def impl_ReachedBy.f (k : Nat) (l0 : List (S76)) (a1 : Int) : Option (List Int × Bool) := if (l0.length : Int) > 40 then (impl_ReachedBy.j0 k l0 a1 true) else ((impl_isSpot.f a1).bind fun t1651 => (impl_ReachedBy.j0 k l0 a1 (!t1651)))
theorem impl_ReachedBy.mono_l : ∀ k, (∀ y0 y1 y2, LeO (impl_ReachedBy.j0 k y0 y1 y2) (impl_ReachedBy.j0 (k + 1) y0 y1 y2)) ∧ (∀ y0 y1 y2 y3 y4, LeO (impl_ReachedBy.l0 k y0 y1 y2 y3 y4) (impl_ReachedBy.l0 (k + 1) y0 y1 y2 y3 y4))
 | 0 => ⟨fun _ _ _ r h => by simp [impl_ReachedBy.j0] at h, fun _ _ _ _ _ r h => by simp [impl_ReachedBy.l0] at h⟩
 | k + 1 => by
  obtain ⟨ih0, ih1⟩ := impl_ReachedBy.mono_l k
  refine ⟨?_, ?_⟩
  ·intro y0 y1 y2
   unfold impl_ReachedBy.j0
   repeat' first
   | (with_reducible exact ih0 _ _ _)
   | (with_reducible exact ih1 _ _ _ _ _)
   | (with_reducible exact impl_reached.mono _ _ _)
   | (with_reducible exact LeO.refl _)
   | (with_reducible exact LeO.none _)
   | (with_reducible refine LeO.ite ?_ ?_)
   | (with_reducible refine LeO.bind ?_ (fun _ => ?_))
  ·intro y0 y1 y2 y3 y4
   unfold impl_ReachedBy.l0
   repeat' first
   | (with_reducible exact ih0 _ _ _)
   | (with_reducible exact ih1 _ _ _ _ _)
   | (with_reducible exact impl_reached.mono _ _ _)
   | (with_reducible exact LeO.refl _)
   | (with_reducible exact LeO.none _)
   | (with_reducible refine LeO.ite ?_ ?_)
   | (with_reducible refine LeO.bind ?_ (fun _ => ?_))
theorem impl_ReachedBy.mono : ∀ a0 a1 k, LeO (impl_ReachedBy.f k a0 a1) (impl_ReachedBy.f (k + 1) a0 a1) := by
 intro a0 a1 k
 obtain ⟨ih0, ih1⟩ := impl_ReachedBy.mono_l k
 unfold impl_ReachedBy.f
 repeat' first
   | (with_reducible exact ih0 _ _ _)
   | (with_reducible exact ih1 _ _ _ _ _)
   | (with_reducible exact impl_reached.mono _ _ _)
   | (with_reducible exact LeO.refl _)
   | (with_reducible exact LeO.none _)
   | (with_reducible refine LeO.ite ?_ ?_)
   | (with_reducible refine LeO.bind ?_ (fun _ => ?_))
set_option maxHeartbeats 8000000 in
set_option maxRecDepth 100000 in
theorem impl_ReachedBy.calls (k : Nat) (A0 : Option Addr) (c0 : Nat) (l0 : List (S76)) (a1 : Int) (r1 : List Int) (r2 : Bool) (w : World) (hr0 : Kd.C k76 w A0 l0.length l0) (hc0 : l0.length ≤ c0) (h : impl_ReachedBy.f k l0 a1 = some (r1, r2)) :
  Calls Try.prog 56 #[.slice A0 l0.length c0, .int .i64 a1] w fun e w' => ∃ v0_ : Value, e = .returned (.tuple #[v0_, .bool r2]) ∧ Kd.R (Kd.int .i64) 3 w' w.heap.size (fun _ => True) v0_ r1 ∧ Below w.heap.size w w' := by
 have hu76 := Try.underlying76
 have HR0 := Aside0.mk hr0
 have HC0 := Aside0.mk hc0
 clear hr0 hc0
 have HB := Aside0.mk (Below.refl w.heap.size w)
 have H : (if (l0.length : Int) > 40 then (impl_ReachedBy.j0 k l0 a1 true) else ((impl_isSpot.f a1).bind fun t1651 => (impl_ReachedBy.j0 k l0 a1 (!t1651)))) = some (r1, r2) := h
 clear h
 have HC3 := Aside0.mk H
 clear H
 go_enter Try.func56, Try.ntmps56
 go_upto_region 1 with (fail)
 go_cut [15] (fun v15 wc => ∃ (kq : Nat) (x15_2 : Bool), v15 = .bool x15_2 ∧ Aside0 (impl_ReachedBy.j0 kq l0 a1 x15_2 = some (r1, r2)) ∧ Aside0 (kq ≤ k) ∧ Aside0 (Below w.heap.size w wc))
 case first =>
  have H := HC3.out
  clear HC3
  by_cases c4 : (l0.length : Int) > 40
  ·rw [if_pos c4] at H
   have c4b0 : decide (40 < (l0.length : Int)) = true := decide_eq_true c4
   have c4b1 : decide (40 < l0.length) = true := decide_eq_true (by omega)
   clear c4
   (first | rw [c4b0] | (simp only [i64_w, i32_w]; rw [c4b0]) | skip)
   have H' := Aside0.mk H
   clear H
   go_wp2
   go_meet
   case rel => exact ⟨_, (true), (by first | rfl | (simp; done) | (simp [*]; done)), H', ⟨by first | omega | exact Nat.le_refl _⟩, ⟨hB HB⟩⟩
  rw [if_neg c4] at H
  have c4b0 : decide (40 < (l0.length : Int)) = false := decide_eq_false c4
  have c4b1 : decide (40 < l0.length) = false := decide_eq_false (by omega)
  clear c4
  (first | rw [c4b0] | (simp only [i64_w, i32_w]; rw [c4b0]) | skip)
  replace H := Option.bind_eq_some_iff.mp H
  obtain ⟨t1651, A50, H⟩ := H
  replace H : (impl_ReachedBy.j0 k l0 a1 (!t1651)) = some (r1, r2) := H
  have A5 := Aside0.mk A50
  clear A50
  have H' := Aside0.mk H
  clear H
  go_wp2_with (first | (go_at_call 106; (with_reducible refine (impl_isSpot.calls a1 t1651 _ A5.out).mono ?_); rintro e w' ⟨rfl, ⟨nd, rfl⟩⟩))
  go_meet
  case rel => exact ⟨_, (!t1651), (by first | rfl | (simp; done) | (simp [*]; done)), H', ⟨by first | omega | exact Nat.le_refl _⟩, ⟨hB HB⟩⟩
 case rest =>
  clear HC3
  obtain ⟨kq, x15_2, rfl, HA, HJ2, HB⟩ := hcut
  cases kq with
  | zero => exact absurd HA.out (by simp [impl_ReachedBy.j0])
  | succ kj2 =>
   have H := HA.out
   clear HA
   simp only [impl_ReachedBy.j0] at H
   by_cases c6 : x15_2 = true
   ·subst c6
    rw [if_pos rfl] at H
    simp only [Option.some.injEq, Prod.mk.injEq] at H
    obtain ⟨rfl, rfl⟩ := H
    go_wp2
    go_ret2
    exact ⟨_, by first | rfl | (simp [errW_none, errW_some] <;> rfl) | (simp [*, errW_none, errW_some] <;> rfl), by first | exact Kd.R_nil _ _ _ _ _ | exact Kd.N_nil _ _ _ _ _ | exact Kd.V_nil _ _ _ _ _ | exact Kd.Q_nil _ _ _ _ _ | exact Kd.S_nil _ _ _ _ _, by repeat (first | (with_reducible first | exact HB.out | apply below_alloc | apply pw_below_drewN | apply below_drew1) | exact HB.out)⟩
   replace c6 := Bool.eq_false_iff.mpr c6
   subst c6
   rw [if_neg (show ¬ (false = true) by decide)] at H
   have H' := Aside0.mk H
   clear H
   go_wp2
   go_loopg [18] kj2 (fun kq v18 w' => ∃ (x18_2 : Int), v18 = .int .i64 x18_2 ∧ Aside0 (impl_ReachedBy.l0 kq l0 a1 l0 (l0.length : Int) x18_2 = some (r1, r2)) ∧ Aside0 (kq ≤ kj2) ∧ Aside0 (Below w.heap.size w w'))
   case atStart => exact ⟨(0), (by first | rfl | (simp; done) | (simp [*]; done)), H', ⟨Nat.le_refl _⟩, ⟨hB HB⟩⟩
   case round =>
    clear H'
    try clear c6
    obtain ⟨x18_2, rfl, HA, HK2, HB⟩ := hrel
    cases gk with
    | zero => exact absurd HA.out (by simp [impl_ReachedBy.l0])
    | succ k2 =>
     have H := HA.out
     clear HA
     simp only [impl_ReachedBy.l0] at H
     by_cases c7 : x18_2 < (l0.length : Int)
     rotate_left
     ·rw [if_neg c7] at H
      have c7b0 : decide (x18_2 < (l0.length : Int)) = false := decide_eq_false c7
      clear c7
      replace H := Option.bind_eq_some_iff.mp H
      obtain ⟨t1652, A230, H⟩ := H
      replace H : (some (t1652, true)) = some (r1, r2) := H
      have A23 := Aside0.mk A230
      clear A230
      simp only [Option.some.injEq, Prod.mk.injEq] at H
      obtain ⟨rfl, rfl⟩ := H
      go_wp2_with (first | ((with_reducible refine gate_callee (f := 111) rfl ?_); refine goesL_ (some 42) rfl rfl Try.func111 (by kernel_rfl) rfl #[.slice A0 l0.length c0, .int .i64 a1] rfl tm_ ?_; (with_reducible refine (impl_reached.calls k2 _ _ l0 a1 t1652 _ ?side1 ?side2 A23.out).mono ?_); (case side1 => exact ca (Kd.C_below HR0.out HB.out)); (case side2 => exact HC0.out); rintro e w24 ⟨v1653, rfl, ho0, hb⟩; refine ⟨_, rfl, ?_⟩; have HO1654 := Aside0.mk (Kd.R_lower ho0 (below_size (hB HB))); replace HB := bst_ HB hb; clear hb ho0))
      go_ret2
      exact ⟨_, by first | rfl | (simp [errW_none, errW_some] <;> rfl) | (simp [*, errW_none, errW_some] <;> rfl), by (with_reducible repeat (first | apply Kd.R_alloc | apply Kd.R_drewN | apply Kd.R_drew)); exact HO1654.out, by repeat (first | (with_reducible first | exact HB.out | apply below_alloc | apply pw_below_drewN | apply below_drew1) | exact HB.out)⟩
     rw [if_pos c7] at H
     have c7b0 : decide (x18_2 < (l0.length : Int)) = true := decide_eq_true c7
     clear c7
     by_cases c8 : 0 ≤ x18_2
     rotate_left
     ·rw [if_neg c8] at H
      exact absurd H (by simp)
     rw [if_pos c8] at H
     have c8b0 : decide (0 ≤ x18_2) = true := decide_eq_true c8
     clear c8
     by_cases c9 : x18_2 < (l0.length : Int)
     rotate_left
     ·rw [if_neg c9] at H
      exact absurd H (by simp)
     rw [if_pos c9] at H
     have c9b0 : decide (x18_2 < (l0.length : Int)) = true := decide_eq_true c9
     clear c9
     replace H := Option.bind_eq_some_iff.mp H
     obtain ⟨t1657, A100, H⟩ := H
     replace H : (if t1657 = true then ((impl_isSpot.f ((rd_T76 l0 x18_2).f1)).bind fun t1658 => (if t1658 = true then (if ((rd_T76 l0 x18_2).f0) = ((rd_T76 l0 x18_2).f1) then (some (([] : List Int), false)) else (impl_ReachedBy.l0 k2 l0 a1 l0 (l0.length : Int) (wrap64 (x18_2 + 1)))) else (some (([] : List Int), false)))) else (some (([] : List Int), false))) = some (r1, r2) := H
     have A10 := Aside0.mk A100
     clear A100
     by_cases c11 : t1657 = true
     rotate_left
     ·replace c11 := Bool.eq_false_iff.mpr c11
      subst c11
      rw [if_neg (show ¬ (false = true) by decide)] at H
      simp only [Option.some.injEq, Prod.mk.injEq] at H
      obtain ⟨rfl, rfl⟩ := H
      have p1655 : 0 ≤ (x18_2 : Int) := of_decide_eq_true (by first | (with_reducible assumption) | assumption)
      have q1655 : x18_2 < (l0.length : Int) := of_decide_eq_true (by first | (with_reducible assumption) | assumption)
      obtain ⟨ad1655, e1655, hx1655_0, hx1655_1⟩ := at_T76 HR0.out x18_2 p1655 q1655
      cases e1655
      replace hx1655_0 := (HB.out.cell (World.block_lt_of_cell? w _ hx1655_0)).trans hx1655_0
      replace hx1655_1 := (HB.out.cell (World.block_lt_of_cell? w _ hx1655_1)).trans hx1655_1
      replace p1655 := eq_true p1655
      replace q1655 := eq_true q1655
      go_wp2_with (first | ((with_reducible refine gate_dst (N := 7) rfl ?_); refine box_event ?hg (N := 7) ?hd (cs := #[.int .i64 0, .int .i64 0]) (t := 76) ?hr ?_; (case hd => rfl); (case hg => rfl); (case hr => first | (go_simp; done) | (go_simp; rfl)); intro gb1656 hg w21 hbox hb; have BK1656 := Aside0.mk (hbox); have GW1656 := gw_ hg HB; have GE1656 := gw_ hg HB; replace HB := bst_ HB hb; clear hb hbox hg; have hcz22_0 : w21.cell? ⟨gb1656, 0, none⟩ = some (.int .i64 0) := bc_ BK1656 0; have hcz22_1 : w21.cell? ⟨gb1656, 1, none⟩ = some (.int .i64 0) := bc_ BK1656 1; have hfz22_0 := blk_frozen BK1656.out 0; have hfz22_1 := blk_frozen BK1656.out 1) | ((with_reducible refine gate_callee (f := 106) rfl ?_); refine goesL_ (some 24) rfl rfl Try.func106 (by kernel_rfl) rfl #[.int .i64 ((rd_T76 l0 x18_2).f0)] rfl tm_ ?_; (with_reducible refine (impl_isSpot.calls ((rd_T76 l0 x18_2).f0) false _ A10.out).mono ?_); rintro e w' ⟨rfl, ⟨nd, rfl⟩⟩; refine ⟨_, rfl, ?_⟩))
      go_ret2
      exact ⟨_, by first | rfl | (simp [errW_none, errW_some] <;> rfl) | (simp [*, errW_none, errW_some] <;> rfl), by first | exact Kd.R_nil _ _ _ _ _ | exact Kd.N_nil _ _ _ _ _ | exact Kd.V_nil _ _ _ _ _ | exact Kd.Q_nil _ _ _ _ _ | exact Kd.S_nil _ _ _ _ _, by repeat (first | (with_reducible first | exact HB.out | apply below_alloc | apply pw_below_drewN | apply below_drew1 | refine below_set ?_ GE1656.out) | exact HB.out)⟩
     subst c11
     rw [if_pos rfl] at H
     replace H := Option.bind_eq_some_iff.mp H
     obtain ⟨t1658, A120, H⟩ := H
     replace H : (if t1658 = true then (if ((rd_T76 l0 x18_2).f0) = ((rd_T76 l0 x18_2).f1) then (some (([] : List Int), false)) else (impl_ReachedBy.l0 k2 l0 a1 l0 (l0.length : Int) (wrap64 (x18_2 + 1)))) else (some (([] : List Int), false))) = some (r1, r2) := H
     have A12 := Aside0.mk A120
     clear A120
     by_cases c13 : t1658 = true
     rotate_left
     ·replace c13 := Bool.eq_false_iff.mpr c13
      subst c13
      rw [if_neg (show ¬ (false = true) by decide)] at H
      simp only [Option.some.injEq, Prod.mk.injEq] at H
      obtain ⟨rfl, rfl⟩ := H
      have p1655 : 0 ≤ (x18_2 : Int) := of_decide_eq_true (by first | (with_reducible assumption) | assumption)
      have q1655 : x18_2 < (l0.length : Int) := of_decide_eq_true (by first | (with_reducible assumption) | assumption)
      obtain ⟨ad1655, e1655, hx1655_0, hx1655_1⟩ := at_T76 HR0.out x18_2 p1655 q1655
      cases e1655
      replace hx1655_0 := (HB.out.cell (World.block_lt_of_cell? w _ hx1655_0)).trans hx1655_0
      replace hx1655_1 := (HB.out.cell (World.block_lt_of_cell? w _ hx1655_1)).trans hx1655_1
      replace p1655 := eq_true p1655
      replace q1655 := eq_true q1655
      go_wp2_with (first | ((with_reducible refine gate_dst (N := 7) rfl ?_); refine box_event ?hg (N := 7) ?hd (cs := #[.int .i64 0, .int .i64 0]) (t := 76) ?hr ?_; (case hd => rfl); (case hg => rfl); (case hr => first | (go_simp; done) | (go_simp; rfl)); intro gb1656 hg w19 hbox hb; have BK1656 := Aside0.mk (hbox); have GW1656 := gw_ hg HB; have GE1656 := gw_ hg HB; replace HB := bst_ HB hb; clear hb hbox hg; have hcz20_0 : w19.cell? ⟨gb1656, 0, none⟩ = some (.int .i64 0) := bc_ BK1656 0; have hcz20_1 : w19.cell? ⟨gb1656, 1, none⟩ = some (.int .i64 0) := bc_ BK1656 1; have hfz20_0 := blk_frozen BK1656.out 0; have hfz20_1 := blk_frozen BK1656.out 1) | ((with_reducible refine gate_callee (f := 106) rfl ?_); refine goesL_ (some 24) rfl rfl Try.func106 (by kernel_rfl) rfl #[.int .i64 ((rd_T76 l0 x18_2).f0)] rfl tm_ ?_; (with_reducible refine (impl_isSpot.calls ((rd_T76 l0 x18_2).f0) true _ A10.out).mono ?_); rintro e w' ⟨rfl, ⟨nd, rfl⟩⟩; refine ⟨_, rfl, ?_⟩) | (go_at_call 106; (with_reducible refine (impl_isSpot.calls ((rd_T76 l0 x18_2).f1) false _ A12.out).mono ?_); rintro e w' ⟨rfl, ⟨nd, rfl⟩⟩))
      go_ret2
      exact ⟨_, by first | rfl | (simp [errW_none, errW_some] <;> rfl) | (simp [*, errW_none, errW_some] <;> rfl), by first | exact Kd.R_nil _ _ _ _ _ | exact Kd.N_nil _ _ _ _ _ | exact Kd.V_nil _ _ _ _ _ | exact Kd.Q_nil _ _ _ _ _ | exact Kd.S_nil _ _ _ _ _, by repeat (first | (with_reducible first | exact HB.out | apply below_alloc | apply pw_below_drewN | apply below_drew1 | refine below_set ?_ GE1656.out) | exact HB.out)⟩
     subst c13
     rw [if_pos rfl] at H
     by_cases c14 : ((rd_T76 l0 x18_2).f0) = ((rd_T76 l0 x18_2).f1)
     rotate_left
     ·rw [if_neg c14] at H
      have c14b0 : (((rd_T76 l0 x18_2).f0) == ((rd_T76 l0 x18_2).f1)) = false := beq_eq_false_iff_ne.mpr c14
      have c14b1 : (((rd_T76 l0 x18_2).f0) != ((rd_T76 l0 x18_2).f1)) = true := bne_iff_ne.mpr c14
      have H' := Aside0.mk H
      clear H
      have p1655 : 0 ≤ (x18_2 : Int) := of_decide_eq_true (by first | (with_reducible assumption) | assumption)
      have q1655 : x18_2 < (l0.length : Int) := of_decide_eq_true (by first | (with_reducible assumption) | assumption)
      obtain ⟨ad1655, e1655, hx1655_0, hx1655_1⟩ := at_T76 HR0.out x18_2 p1655 q1655
      cases e1655
      replace hx1655_0 := (HB.out.cell (World.block_lt_of_cell? w _ hx1655_0)).trans hx1655_0
      replace hx1655_1 := (HB.out.cell (World.block_lt_of_cell? w _ hx1655_1)).trans hx1655_1
      replace p1655 := eq_true p1655
      replace q1655 := eq_true q1655
      go_wp2_with (first | ((with_reducible refine gate_dst (N := 7) rfl ?_); refine box_event ?hg (N := 7) ?hd (cs := #[.int .i64 0, .int .i64 0]) (t := 76) ?hr ?_; (case hd => rfl); (case hg => rfl); (case hr => first | (go_simp; done) | (go_simp; rfl)); intro gb1656 hg w17 hbox hb; have BK1656 := Aside0.mk (hbox); have GW1656 := gw_ hg HB; have GE1656 := gw_ hg HB; replace HB := bst_ HB hb; clear hb hbox hg; have hcz18_0 : w17.cell? ⟨gb1656, 0, none⟩ = some (.int .i64 0) := bc_ BK1656 0; have hcz18_1 : w17.cell? ⟨gb1656, 1, none⟩ = some (.int .i64 0) := bc_ BK1656 1; have hfz18_0 := blk_frozen BK1656.out 0; have hfz18_1 := blk_frozen BK1656.out 1) | ((with_reducible refine gate_callee (f := 106) rfl ?_); refine goesL_ (some 24) rfl rfl Try.func106 (by kernel_rfl) rfl #[.int .i64 ((rd_T76 l0 x18_2).f0)] rfl tm_ ?_; (with_reducible refine (impl_isSpot.calls ((rd_T76 l0 x18_2).f0) true _ A10.out).mono ?_); rintro e w' ⟨rfl, ⟨nd, rfl⟩⟩; refine ⟨_, rfl, ?_⟩) | (go_at_call 106; (with_reducible refine (impl_isSpot.calls ((rd_T76 l0 x18_2).f1) true _ A12.out).mono ?_); rintro e w' ⟨rfl, ⟨nd, rfl⟩⟩))
      go_roundg k2
      case measure => have := HJ2.out; have := HK2.out; omega
      case rel => exact ⟨(wrap64 (x18_2 + 1)), (by first | rfl | (simp; done) | (simp [*]; done)), H', ⟨by have := HJ2.out; have := HK2.out; omega⟩, ⟨hB HB⟩⟩
     rw [if_pos c14] at H
     have c14b0 : (((rd_T76 l0 x18_2).f0) == ((rd_T76 l0 x18_2).f1)) = true := beq_iff_eq.mpr c14
     have c14b1 : (((rd_T76 l0 x18_2).f0) != ((rd_T76 l0 x18_2).f1)) = false := bne_eq_false_iff_eq.mpr c14
     clear c14
     simp only [Option.some.injEq, Prod.mk.injEq] at H
     obtain ⟨rfl, rfl⟩ := H
     have p1655 : 0 ≤ (x18_2 : Int) := of_decide_eq_true (by first | (with_reducible assumption) | assumption)
     have q1655 : x18_2 < (l0.length : Int) := of_decide_eq_true (by first | (with_reducible assumption) | assumption)
     obtain ⟨ad1655, e1655, hx1655_0, hx1655_1⟩ := at_T76 HR0.out x18_2 p1655 q1655
     cases e1655
     replace hx1655_0 := (HB.out.cell (World.block_lt_of_cell? w _ hx1655_0)).trans hx1655_0
     replace hx1655_1 := (HB.out.cell (World.block_lt_of_cell? w _ hx1655_1)).trans hx1655_1
     replace p1655 := eq_true p1655
     replace q1655 := eq_true q1655
     go_wp2_with (first | ((with_reducible refine gate_dst (N := 7) rfl ?_); refine box_event ?hg (N := 7) ?hd (cs := #[.int .i64 0, .int .i64 0]) (t := 76) ?hr ?_; (case hd => rfl); (case hg => rfl); (case hr => first | (go_simp; done) | (go_simp; rfl)); intro gb1656 hg w15 hbox hb; have BK1656 := Aside0.mk (hbox); have GW1656 := gw_ hg HB; have GE1656 := gw_ hg HB; replace HB := bst_ HB hb; clear hb hbox hg; have hcz16_0 : w15.cell? ⟨gb1656, 0, none⟩ = some (.int .i64 0) := bc_ BK1656 0; have hcz16_1 : w15.cell? ⟨gb1656, 1, none⟩ = some (.int .i64 0) := bc_ BK1656 1; have hfz16_0 := blk_frozen BK1656.out 0; have hfz16_1 := blk_frozen BK1656.out 1) | ((with_reducible refine gate_callee (f := 106) rfl ?_); refine goesL_ (some 24) rfl rfl Try.func106 (by kernel_rfl) rfl #[.int .i64 ((rd_T76 l0 x18_2).f0)] rfl tm_ ?_; (with_reducible refine (impl_isSpot.calls ((rd_T76 l0 x18_2).f0) true _ A10.out).mono ?_); rintro e w' ⟨rfl, ⟨nd, rfl⟩⟩; refine ⟨_, rfl, ?_⟩) | (go_at_call 106; (with_reducible refine (impl_isSpot.calls ((rd_T76 l0 x18_2).f1) true _ A12.out).mono ?_); rintro e w' ⟨rfl, ⟨nd, rfl⟩⟩))
     go_ret2
     exact ⟨_, by first | rfl | (simp [errW_none, errW_some] <;> rfl) | (simp [*, errW_none, errW_some] <;> rfl), by first | exact Kd.R_nil _ _ _ _ _ | exact Kd.N_nil _ _ _ _ _ | exact Kd.V_nil _ _ _ _ _ | exact Kd.Q_nil _ _ _ _ _ | exact Kd.S_nil _ _ _ _ _, by repeat (first | (with_reducible first | exact HB.out | apply below_alloc | apply pw_below_drewN | apply below_drew1 | refine below_set ?_ GE1656.out) | exact HB.out)⟩

end Go.Proofs.Ytfkjnpgpofcinaa.P
