import Derived.Test.YtfkjnpgpofcinaaF0
import Derived.Test.YtfkjnpgpofcinaaF1
import Derived.Test.YtfkjnpgpofcinaaF2
import Derived.Test.YtfkjnpgpofcinaaF3
import Derived.Test.YtfkjnpgpofcinaaF20
import Derived.Test.YtfkjnpgpofcinaaF41
namespace Go.Proofs.Ytfkjnpgpofcinaa.P
open Go.RowKit Go.Proofs.YtfkjnpgpofcinaaW.PrintWords Go.Proofs.YtfkjnpgpofcinaaW.PrintLast Go.Proofs.YtfkjnpgpofcinaaW.PrintMore
attribute [local go_sem] max2_int min2_int max_two min_two max_three min_three max_four min_four   -- for this text's walks alone
set_option linter.unusedVariables false
set_option linter.unusedSimpArgs false
attribute [local go_sem high] eqA45 eqA76 eqA83

def spec_DrawReachedBy.f (k : Nat) (l0 : List Int) : Option ((List (S76)) × Int) := (spec_DrawWantsOn.f k l0).bind fun bt1659 => ((slices_xorshift_Next.f l0).bind fun bt1666 => ((spec_WantsOn.f k bt1659.1 bt1659.2.1 bt1659.2.2).bind fun bt1670 => (if bt1670.2 = true then (if (bt1670.1.length : Int) > 1 then ((spec_l1Cur_one.f bt1666.1 bt1666.2.1 bt1666.2.2 3).bind fun bt1674 => (if bt1674.1 = true then ((spec_l1Cur_pick.f bt1666.1 bt1674.2.1 bt1674.2.2 (bt1670.1.length : Int)).bind fun bt1677 => ((some (([] : List (S76)) : List (S76))).bind fun y1680 => (if 0 ≤ bt1677.1 then (if bt1677.1 ≤ (bt1670.1.length : Int) then ((some (bt1670.1.take (bt1677.1 : Int).toNat : List (S76))).bind fun y1683 => (if y1680.length + y1683.length < 8796093022208 then ((some (y1680 ++ y1683 : List (S76))).bind fun y1687 => (if 0 ≤ (wrap64 (bt1677.1 + 1)) then (if (wrap64 (bt1677.1 + 1)) ≤ (bt1670.1.length : Int) then ((some (bt1670.1.drop ((wrap64 (bt1677.1 + 1)) : Int).toNat : List (S76))).bind fun y1690 => (if y1687.length + y1690.length < 8796093022208 then (some ((y1687 ++ y1690), bt1659.2.1)) else (none))) else (none)) else (none))) else (none))) else (none)) else (none)))) else (some (bt1670.1, bt1659.2.1)))) else (some (bt1670.1, bt1659.2.1))) else (some (bt1670.1, bt1659.2.1)))))
theorem spec_DrawReachedBy.mono : ∀ a0 k, LeO (spec_DrawReachedBy.f k a0) (spec_DrawReachedBy.f (k + 1) a0) := by
 intro a0 k
 unfold spec_DrawReachedBy.f
 repeat' first
   | (with_reducible exact spec_DrawWantsOn.mono _ _)
   | (with_reducible exact spec_WantsOn.mono _ _ _ _)
   | (with_reducible exact LeO.refl _)
   | (with_reducible exact LeO.none _)
   | (with_reducible refine LeO.ite ?_ ?_)
   | (with_reducible refine LeO.bind ?_ (fun _ => ?_))
def spec_DrawReachedBy.T6 : Bool × List (List Nat × List Nat) := (true, [([], []), ([], []), ([], []), ([1, 2], [1, 2]), ([0, 3], [0, 3]), ([], []), ([], []), ([6], [6]), ([5, 7], [5, 7]), ([4, 8, 4], [4, 8]), ([9, 9, 0, 1, 2, 3, 4, 5, 6, 7, 8, 9], [1, 5, 9])])
def spec_DrawReachedBy.B6 : List Nat := [0, 0, 0, 6, 15, 0, 0, 64, 224, 511, 1023]
theorem spec_DrawReachedBy.tab6 : rtab .any (opsOf Try.f57 6) = spec_DrawReachedBy.T6 := by kernel_rfl
theorem spec_DrawReachedBy.bits6 : waitsOk spec_DrawReachedBy.T6.2 spec_DrawReachedBy.B6 = true := by kernel_rfl
set_option maxHeartbeats 8000000 in
set_option maxRecDepth 100000 in
theorem spec_DrawReachedBy.calls (k : Nat) (A0 : Option Addr) (c0 : Nat) (l0 : List Int) (r1 : List (S76)) (r2 : Int) (w : World) (hr0 : Kd.C (Kd.int .u8) w A0 l0.length l0) (hc0 : l0.length ≤ c0) (h : spec_DrawReachedBy.f k l0 = some (r1, r2)) :
  Calls Try.prog 57 #[.slice A0 l0.length c0] w fun e w' => ∃ v0_ : Value, e = .returned (.tuple #[v0_, .int .i64 r2]) ∧ Kd.R k76 76 w' w.heap.size (fun _ => True) v0_ r1 ∧ Below w.heap.size w w' := by
 have HR0 := Aside0.mk hr0
 have HC0 := Aside0.mk hc0
 clear hr0 hc0
 have HB := Aside0.mk (Below.refl w.heap.size w)
 have H : ((spec_DrawWantsOn.f k l0).bind fun bt1659 => ((slices_xorshift_Next.f l0).bind fun bt1666 => ((spec_WantsOn.f k bt1659.1 bt1659.2.1 bt1659.2.2).bind fun bt1670 => (if bt1670.2 = true then (if (bt1670.1.length : Int) > 1 then ((spec_l1Cur_one.f bt1666.1 bt1666.2.1 bt1666.2.2 3).bind fun bt1674 => (if bt1674.1 = true then ((spec_l1Cur_pick.f bt1666.1 bt1674.2.1 bt1674.2.2 (bt1670.1.length : Int)).bind fun bt1677 => ((some (([] : List (S76)) : List (S76))).bind fun y1680 => (if 0 ≤ bt1677.1 then (if bt1677.1 ≤ (bt1670.1.length : Int) then ((some (bt1670.1.take (bt1677.1 : Int).toNat : List (S76))).bind fun y1683 => (if y1680.length + y1683.length < 8796093022208 then ((some (y1680 ++ y1683 : List (S76))).bind fun y1687 => (if 0 ≤ (wrap64 (bt1677.1 + 1)) then (if (wrap64 (bt1677.1 + 1)) ≤ (bt1670.1.length : Int) then ((some (bt1670.1.drop ((wrap64 (bt1677.1 + 1)) : Int).toNat : List (S76))).bind fun y1690 => (if y1687.length + y1690.length < 8796093022208 then (some ((y1687 ++ y1690), bt1659.2.1)) else (none))) else (none)) else (none))) else (none))) else (none)) else (none)))) else (some (bt1670.1, bt1659.2.1)))) else (some (bt1670.1, bt1659.2.1))) else (some (bt1670.1, bt1659.2.1)))))) = some (r1, r2) := h
 clear h
 replace H := Option.bind_eq_some_iff.mp H
 obtain ⟨⟨t1659, t1660, t1661⟩, A20, H⟩ := H
 replace H : ((slices_xorshift_Next.f l0).bind fun bt1666 => ((spec_WantsOn.f k t1659 t1660 t1661).bind fun bt1670 => (if bt1670.2 = true then (if (bt1670.1.length : Int) > 1 then ((spec_l1Cur_one.f bt1666.1 bt1666.2.1 bt1666.2.2 3).bind fun bt1674 => (if bt1674.1 = true then ((spec_l1Cur_pick.f bt1666.1 bt1674.2.1 bt1674.2.2 (bt1670.1.length : Int)).bind fun bt1677 => ((some (([] : List (S76)) : List (S76))).bind fun y1680 => (if 0 ≤ bt1677.1 then (if bt1677.1 ≤ (bt1670.1.length : Int) then ((some (bt1670.1.take (bt1677.1 : Int).toNat : List (S76))).bind fun y1683 => (if y1680.length + y1683.length < 8796093022208 then ((some (y1680 ++ y1683 : List (S76))).bind fun y1687 => (if 0 ≤ (wrap64 (bt1677.1 + 1)) then (if (wrap64 (bt1677.1 + 1)) ≤ (bt1670.1.length : Int) then ((some (bt1670.1.drop ((wrap64 (bt1677.1 + 1)) : Int).toNat : List (S76))).bind fun y1690 => (if y1687.length + y1690.length < 8796093022208 then (some ((y1687 ++ y1690), t1660)) else (none))) else (none)) else (none))) else (none))) else (none)) else (none)))) else (some (bt1670.1, t1660)))) else (some (bt1670.1, t1660))) else (some (bt1670.1, t1660))))) = some (r1, r2) := H
 have A2 := Aside0.mk A20
 clear A20
 replace H := Option.bind_eq_some_iff.mp H
 obtain ⟨⟨t1666, t1667, t1668⟩, A30, H⟩ := H
 replace H : ((spec_WantsOn.f k t1659 t1660 t1661).bind fun bt1670 => (if bt1670.2 = true then (if (bt1670.1.length : Int) > 1 then ((spec_l1Cur_one.f t1666 t1667 t1668 3).bind fun bt1674 => (if bt1674.1 = true then ((spec_l1Cur_pick.f t1666 bt1674.2.1 bt1674.2.2 (bt1670.1.length : Int)).bind fun bt1677 => ((some (([] : List (S76)) : List (S76))).bind fun y1680 => (if 0 ≤ bt1677.1 then (if bt1677.1 ≤ (bt1670.1.length : Int) then ((some (bt1670.1.take (bt1677.1 : Int).toNat : List (S76))).bind fun y1683 => (if y1680.length + y1683.length < 8796093022208 then ((some (y1680 ++ y1683 : List (S76))).bind fun y1687 => (if 0 ≤ (wrap64 (bt1677.1 + 1)) then (if (wrap64 (bt1677.1 + 1)) ≤ (bt1670.1.length : Int) then ((some (bt1670.1.drop ((wrap64 (bt1677.1 + 1)) : Int).toNat : List (S76))).bind fun y1690 => (if y1687.length + y1690.length < 8796093022208 then (some ((y1687 ++ y1690), t1660)) else (none))) else (none)) else (none))) else (none))) else (none)) else (none)))) else (some (bt1670.1, t1660)))) else (some (bt1670.1, t1660))) else (some (bt1670.1, t1660)))) = some (r1, r2) := H
 have DE_A3 : Aside0 (t1666 = l0 ∧ t1667 = 0 ∧ t1668 = 0) := ⟨by have h_ := A30; simp only [slices_xorshift_Next.f, Option.some.injEq, Prod.mk.injEq] at h_; exact ⟨h_.1.symm, h_.2.1.symm, h_.2.2.symm⟩⟩
 have A3 := Aside0.mk A30
 clear A30
 replace H := Option.bind_eq_some_iff.mp H
 obtain ⟨⟨t1670, t1671⟩, A40, H⟩ := H
 replace H : (if t1671 = true then (if (t1670.length : Int) > 1 then ((spec_l1Cur_one.f t1666 t1667 t1668 3).bind fun bt1674 => (if bt1674.1 = true then ((spec_l1Cur_pick.f t1666 bt1674.2.1 bt1674.2.2 (t1670.length : Int)).bind fun bt1677 => ((some (([] : List (S76)) : List (S76))).bind fun y1680 => (if 0 ≤ bt1677.1 then (if bt1677.1 ≤ (t1670.length : Int) then ((some (t1670.take (bt1677.1 : Int).toNat : List (S76))).bind fun y1683 => (if y1680.length + y1683.length < 8796093022208 then ((some (y1680 ++ y1683 : List (S76))).bind fun y1687 => (if 0 ≤ (wrap64 (bt1677.1 + 1)) then (if (wrap64 (bt1677.1 + 1)) ≤ (t1670.length : Int) then ((some (t1670.drop ((wrap64 (bt1677.1 + 1)) : Int).toNat : List (S76))).bind fun y1690 => (if y1687.length + y1690.length < 8796093022208 then (some ((y1687 ++ y1690), t1660)) else (none))) else (none)) else (none))) else (none))) else (none)) else (none)))) else (some (t1670, t1660)))) else (some (t1670, t1660))) else (some (t1670, t1660))) = some (r1, r2) := H
 have A4 := Aside0.mk A40
 clear A40
 by_cases c5 : t1671 = true
 rotate_left
 ·replace c5 := Bool.eq_false_iff.mpr c5
  subst c5
  rw [if_neg (show ¬ (false = true) by decide)] at H
  simp only [Option.some.injEq, Prod.mk.injEq] at H
  obtain ⟨rfl, rfl⟩ := H
  go_enter Try.func57, Try.ntmps57
  go_wp2_with (first | ((with_reducible refine gate_callee (f := 52) rfl ?_); refine goesL_ (some 13) rfl rfl Try.func52 (by kernel_rfl) rfl #[.slice A0 l0.length c0] rfl tm_ ?_; (with_reducible refine (spec_DrawWantsOn.calls k _ _ l0 t1659 t1660 t1661 _ ?side1 ?side2 A2.out).mono ?_); (case side1 => exact ca HR0.out); (case side2 => exact HC0.out); rintro e w45 ⟨v1662, v1664, rfl, ho0, ho1, hb⟩; refine ⟨_, rfl, ?_⟩; have HO1663 := Aside0.mk (Kd.R_lower ho0 (below_size (hB HB))); have HO1665 := Aside0.mk (Kd.R_lower ho1 (below_size (hB HB))); replace HB := bst_ HB hb; clear hb ho0 ho1) | ((with_reducible refine gate_dst (N := 19) rfl ?_); refine box_event ?hg (N := 19) ?hd (cs := #[.slice A0 l0.length c0, .int .i64 0, .int .u64 0]) (t := 105) ?hr ?_; (case hd => rfl); (case hg => rfl); (case hr => first | (go_simp; done) | (go_simp; rfl)); intro g1669 hg w46 hbox hb2; have hi : IsS105 w w46 g1669 t1666 t1667 t1668 := (by rw [DE_A3.out.1, DE_A3.out.2.1, DE_A3.out.2.2]; exact ⟨_, _, hbox, (gw_ hg HB).out, HR0.out⟩); have hb := (bst_ HB hb2).out; clear hg hbox; have HI1669 := Aside0.mk (hi); replace HO1663 := Aside0.mk (Kd.R_below (ra HO1663.out) hb2); replace HO1665 := Aside0.mk (Kd.R_below (ra HO1665.out) hb2); replace HB := Aside0.mk (hb); clear hb hb2 hi; obtain ⟨Ao47, co47, eo47⟩ := Kd.R_slice HO1663.out; subst eo47; obtain ⟨Ao48, co48, eo48⟩ := Kd.R_slice HO1665.out; subst eo48) | ((with_reducible refine gate_callee (f := 9) rfl ?_); refine goesL_ (some 24) rfl rfl Try.func9 (by kernel_rfl) rfl #[.slice Ao47 t1659.length co47, .int .i64 t1660, .slice Ao48 t1661.length co48] rfl tm_ ?_; (with_reducible refine (spec_WantsOn.calls k _ _ t1659 t1660 _ _ t1661 t1670 false _ ?side1 ?side2 ?side3 ?side4 A4.out).mono ?_); (case side1 => exact ca (Kd.R_reads' HO1663.out).2.2); (case side2 => exact (Kd.R_reads' HO1663.out).2.1); (case side3 => exact ca (Kd.R_reads' HO1665.out).2.2); (case side4 => exact (Kd.R_reads' HO1665.out).2.1); rintro e w49 ⟨v1672, rfl, ho0, hb⟩; refine ⟨_, rfl, ?_⟩; have HO1673 := Aside0.mk (Kd.R_lower ho0 (below_size (by repeat (first | (with_reducible first | exact HB.out | apply below_alloc | apply pw_below_drewN | apply below_drew1 | refine below_set ?_ (IsS105.ge HI1669.out)) | exact HB.out)))); replace HO1663 := rb_ HO1663 hb; replace HO1665 := rb_ HO1665 hb; replace HB := Aside0.mk (below_step (by repeat (first | (with_reducible first | exact HB.out | apply below_alloc | apply pw_below_drewN | apply below_drew1 | refine below_set ?_ (IsS105.ge HI1669.out)) | exact HB.out)) hb); replace HI1669 := Aside0.mk (IsS105.below (by repeat (first | (with_reducible first | exact HI1669.out | apply IsS105.alloc | apply IsS105.drewN | apply IsS105.drew | apply IsS105.set_1 | apply IsS105.set_2) | exact HI1669.out)) hb); clear hb ho0))
  go_ret2
  exact ⟨_, by first | rfl | (simp [errW_none, errW_some] <;> rfl) | (simp [*, errW_none, errW_some] <;> rfl), by (with_reducible repeat (first | apply Kd.R_alloc | apply Kd.R_drewN | apply Kd.R_drew)); exact HO1673.out, by repeat (first | (with_reducible first | exact HB.out | apply below_alloc | apply pw_below_drewN | apply below_drew1 | refine below_set ?_ (IsS105.ge HI1669.out)) | exact HB.out)⟩
 subst c5
 rw [if_pos rfl] at H
 by_cases c6 : (t1670.length : Int) > 1
 rotate_left
 ·rw [if_neg c6] at H
  have c6b0 : decide (1 < (t1670.length : Int)) = false := decide_eq_false c6
  have c6b1 : decide (1 < t1670.length) = false := decide_eq_false (by omega)
  clear c6
  simp only [Option.some.injEq, Prod.mk.injEq] at H
  obtain ⟨rfl, rfl⟩ := H
  go_enter Try.func57, Try.ntmps57
  go_wp2_with (first | ((with_reducible refine gate_callee (f := 52) rfl ?_); refine goesL_ (some 13) rfl rfl Try.func52 (by kernel_rfl) rfl #[.slice A0 l0.length c0] rfl tm_ ?_; (with_reducible refine (spec_DrawWantsOn.calls k _ _ l0 t1659 t1660 t1661 _ ?side1 ?side2 A2.out).mono ?_); (case side1 => exact ca HR0.out); (case side2 => exact HC0.out); rintro e w39 ⟨v1662, v1664, rfl, ho0, ho1, hb⟩; refine ⟨_, rfl, ?_⟩; have HO1663 := Aside0.mk (Kd.R_lower ho0 (below_size (hB HB))); have HO1665 := Aside0.mk (Kd.R_lower ho1 (below_size (hB HB))); replace HB := bst_ HB hb; clear hb ho0 ho1) | ((with_reducible refine gate_dst (N := 19) rfl ?_); refine box_event ?hg (N := 19) ?hd (cs := #[.slice A0 l0.length c0, .int .i64 0, .int .u64 0]) (t := 105) ?hr ?_; (case hd => rfl); (case hg => rfl); (case hr => first | (go_simp; done) | (go_simp; rfl)); intro g1669 hg w40 hbox hb2; have hi : IsS105 w w40 g1669 t1666 t1667 t1668 := (by rw [DE_A3.out.1, DE_A3.out.2.1, DE_A3.out.2.2]; exact ⟨_, _, hbox, (gw_ hg HB).out, HR0.out⟩); have hb := (bst_ HB hb2).out; clear hg hbox; have HI1669 := Aside0.mk (hi); replace HO1663 := Aside0.mk (Kd.R_below (ra HO1663.out) hb2); replace HO1665 := Aside0.mk (Kd.R_below (ra HO1665.out) hb2); replace HB := Aside0.mk (hb); clear hb hb2 hi; obtain ⟨Ao41, co41, eo41⟩ := Kd.R_slice HO1663.out; subst eo41; obtain ⟨Ao42, co42, eo42⟩ := Kd.R_slice HO1665.out; subst eo42) | ((with_reducible refine gate_callee (f := 9) rfl ?_); refine goesL_ (some 24) rfl rfl Try.func9 (by kernel_rfl) rfl #[.slice Ao41 t1659.length co41, .int .i64 t1660, .slice Ao42 t1661.length co42] rfl tm_ ?_; (with_reducible refine (spec_WantsOn.calls k _ _ t1659 t1660 _ _ t1661 t1670 true _ ?side1 ?side2 ?side3 ?side4 A4.out).mono ?_); (case side1 => exact ca (Kd.R_reads' HO1663.out).2.2); (case side2 => exact (Kd.R_reads' HO1663.out).2.1); (case side3 => exact ca (Kd.R_reads' HO1665.out).2.2); (case side4 => exact (Kd.R_reads' HO1665.out).2.1); rintro e w43 ⟨v1672, rfl, ho0, hb⟩; refine ⟨_, rfl, ?_⟩; have HO1673 := Aside0.mk (Kd.R_lower ho0 (below_size (by repeat (first | (with_reducible first | exact HB.out | apply below_alloc | apply pw_below_drewN | apply below_drew1 | refine below_set ?_ (IsS105.ge HI1669.out)) | exact HB.out)))); replace HO1663 := rb_ HO1663 hb; replace HO1665 := rb_ HO1665 hb; replace HB := Aside0.mk (below_step (by repeat (first | (with_reducible first | exact HB.out | apply below_alloc | apply pw_below_drewN | apply below_drew1 | refine below_set ?_ (IsS105.ge HI1669.out)) | exact HB.out)) hb); replace HI1669 := Aside0.mk (IsS105.below (by repeat (first | (with_reducible first | exact HI1669.out | apply IsS105.alloc | apply IsS105.drewN | apply IsS105.drew | apply IsS105.set_1 | apply IsS105.set_2) | exact HI1669.out)) hb); clear hb ho0; obtain ⟨Ao44, co44, eo44⟩ := Kd.R_slice HO1673.out; subst eo44))
  go_ret2
  exact ⟨_, by first | rfl | (simp [errW_none, errW_some] <;> rfl) | (simp [*, errW_none, errW_some] <;> rfl), by (with_reducible repeat (first | apply Kd.R_alloc | apply Kd.R_drewN | apply Kd.R_drew)); exact HO1673.out, by repeat (first | (with_reducible first | exact HB.out | apply below_alloc | apply pw_below_drewN | apply below_drew1 | refine below_set ?_ (IsS105.ge HI1669.out)) | exact HB.out)⟩
 rw [if_pos c6] at H
 have c6b0 : decide (1 < (t1670.length : Int)) = true := decide_eq_true c6
 have c6b1 : decide (1 < t1670.length) = true := decide_eq_true (by omega)
 clear c6
 replace H := Option.bind_eq_some_iff.mp H
 obtain ⟨⟨t1674, t1675, t1676⟩, A70, H⟩ := H
 replace H : (if t1674 = true then ((spec_l1Cur_pick.f t1666 t1675 t1676 (t1670.length : Int)).bind fun bt1677 => ((some (([] : List (S76)) : List (S76))).bind fun y1680 => (if 0 ≤ bt1677.1 then (if bt1677.1 ≤ (t1670.length : Int) then ((some (t1670.take (bt1677.1 : Int).toNat : List (S76))).bind fun y1683 => (if y1680.length + y1683.length < 8796093022208 then ((some (y1680 ++ y1683 : List (S76))).bind fun y1687 => (if 0 ≤ (wrap64 (bt1677.1 + 1)) then (if (wrap64 (bt1677.1 + 1)) ≤ (t1670.length : Int) then ((some (t1670.drop ((wrap64 (bt1677.1 + 1)) : Int).toNat : List (S76))).bind fun y1690 => (if y1687.length + y1690.length < 8796093022208 then (some ((y1687 ++ y1690), t1660)) else (none))) else (none)) else (none))) else (none))) else (none)) else (none)))) else (some (t1670, t1660))) = some (r1, r2) := H
 have A7 := Aside0.mk A70
 clear A70
 by_cases c8 : t1674 = true
 rotate_left
 ·replace c8 := Bool.eq_false_iff.mpr c8
  subst c8
  rw [if_neg (show ¬ (false = true) by decide)] at H
  simp only [Option.some.injEq, Prod.mk.injEq] at H
  obtain ⟨rfl, rfl⟩ := H
  go_enter Try.func57, Try.ntmps57
  go_wp2_with (first | ((with_reducible refine gate_callee (f := 52) rfl ?_); refine goesL_ (some 13) rfl rfl Try.func52 (by kernel_rfl) rfl #[.slice A0 l0.length c0] rfl tm_ ?_; (with_reducible refine (spec_DrawWantsOn.calls k _ _ l0 t1659 t1660 t1661 _ ?side1 ?side2 A2.out).mono ?_); (case side1 => exact ca HR0.out); (case side2 => exact HC0.out); rintro e w32 ⟨v1662, v1664, rfl, ho0, ho1, hb⟩; refine ⟨_, rfl, ?_⟩; have HO1663 := Aside0.mk (Kd.R_lower ho0 (below_size (hB HB))); have HO1665 := Aside0.mk (Kd.R_lower ho1 (below_size (hB HB))); replace HB := bst_ HB hb; clear hb ho0 ho1) | ((with_reducible refine gate_dst (N := 19) rfl ?_); refine box_event ?hg (N := 19) ?hd (cs := #[.slice A0 l0.length c0, .int .i64 0, .int .u64 0]) (t := 105) ?hr ?_; (case hd => rfl); (case hg => rfl); (case hr => first | (go_simp; done) | (go_simp; rfl)); intro g1669 hg w33 hbox hb2; have hi : IsS105 w w33 g1669 t1666 t1667 t1668 := (by rw [DE_A3.out.1, DE_A3.out.2.1, DE_A3.out.2.2]; exact ⟨_, _, hbox, (gw_ hg HB).out, HR0.out⟩); have hb := (bst_ HB hb2).out; clear hg hbox; have HI1669 := Aside0.mk (hi); replace HO1663 := Aside0.mk (Kd.R_below (ra HO1663.out) hb2); replace HO1665 := Aside0.mk (Kd.R_below (ra HO1665.out) hb2); replace HB := Aside0.mk (hb); clear hb hb2 hi; obtain ⟨Ao34, co34, eo34⟩ := Kd.R_slice HO1663.out; subst eo34; obtain ⟨Ao35, co35, eo35⟩ := Kd.R_slice HO1665.out; subst eo35) | ((with_reducible refine gate_callee (f := 9) rfl ?_); refine goesL_ (some 24) rfl rfl Try.func9 (by kernel_rfl) rfl #[.slice Ao34 t1659.length co34, .int .i64 t1660, .slice Ao35 t1661.length co35] rfl tm_ ?_; (with_reducible refine (spec_WantsOn.calls k _ _ t1659 t1660 _ _ t1661 t1670 true _ ?side1 ?side2 ?side3 ?side4 A4.out).mono ?_); (case side1 => exact ca (Kd.R_reads' HO1663.out).2.2); (case side2 => exact (Kd.R_reads' HO1663.out).2.1); (case side3 => exact ca (Kd.R_reads' HO1665.out).2.2); (case side4 => exact (Kd.R_reads' HO1665.out).2.1); rintro e w36 ⟨v1672, rfl, ho0, hb⟩; refine ⟨_, rfl, ?_⟩; have HO1673 := Aside0.mk (Kd.R_lower ho0 (below_size (by repeat (first | (with_reducible first | exact HB.out | apply below_alloc | apply pw_below_drewN | apply below_drew1 | refine below_set ?_ (IsS105.ge HI1669.out)) | exact HB.out)))); replace HO1663 := rb_ HO1663 hb; replace HO1665 := rb_ HO1665 hb; replace HB := Aside0.mk (below_step (by repeat (first | (with_reducible first | exact HB.out | apply below_alloc | apply pw_below_drewN | apply below_drew1 | refine below_set ?_ (IsS105.ge HI1669.out)) | exact HB.out)) hb); replace HI1669 := Aside0.mk (IsS105.below (by repeat (first | (with_reducible first | exact HI1669.out | apply IsS105.alloc | apply IsS105.drewN | apply IsS105.drew | apply IsS105.set_1 | apply IsS105.set_2) | exact HI1669.out)) hb); clear hb ho0; obtain ⟨Ao37, co37, eo37⟩ := Kd.R_slice HO1673.out; subst eo37) | (go_at_call 95; (with_reducible refine (spec_l1Cur_one.calls g1669 t1666 t1667 t1668 3 false t1675 t1676 w _ ?side1 ?side2 A7.out).mono ?_); (case side1 => repeat (first | (with_reducible first | exact HI1669.out | apply IsS105.alloc | apply IsS105.drewN | apply IsS105.drew | apply IsS105.set_1 | apply IsS105.set_2) | exact HI1669.out)); (case side2 => repeat (first | (with_reducible first | exact HB.out | apply below_alloc | apply pw_below_drewN | apply below_drew1 | refine below_set ?_ (IsS105.ge HI1669.out)) | exact HB.out)); rintro e w38 ⟨rfl, hi, hb, hk⟩; replace HO1663 := Aside0.mk (Kd.R_mono (Kd.R_keep (IsS105.apart (show IsS105 w _ g1669 t1666 t1667 t1668 from by repeat (first | (with_reducible first | exact HI1669.out | apply IsS105.alloc | apply IsS105.drewN | apply IsS105.drew | apply IsS105.set_1 | apply IsS105.set_2) | exact HI1669.out)) (ra HO1663.out) (by decide)) hk (fun _ h => h.2)) (fun _ h => h.1)); replace HO1665 := Aside0.mk (Kd.R_mono (Kd.R_keep (IsS105.apart (show IsS105 w _ g1669 t1666 t1667 t1668 from by repeat (first | (with_reducible first | exact HI1669.out | apply IsS105.alloc | apply IsS105.drewN | apply IsS105.drew | apply IsS105.set_1 | apply IsS105.set_2) | exact HI1669.out)) (ra HO1665.out) (by decide)) hk (fun _ h => h.2)) (fun _ h => h.1)); replace HO1673 := Aside0.mk (Kd.R_mono (Kd.R_keep (IsS105.apart (show IsS105 w _ g1669 t1666 t1667 t1668 from by repeat (first | (with_reducible first | exact HI1669.out | apply IsS105.alloc | apply IsS105.drewN | apply IsS105.drew | apply IsS105.set_1 | apply IsS105.set_2) | exact HI1669.out)) (ra HO1673.out) (by decide)) hk (fun _ h => h.2)) (fun _ h => h.1)); replace HB := Aside0.mk (hb); replace HI1669 := Aside0.mk (hi); clear hb hk hi))
  go_ret2
  exact ⟨_, by first | rfl | (simp [errW_none, errW_some] <;> rfl) | (simp [*, errW_none, errW_some] <;> rfl), by (with_reducible repeat (first | apply Kd.R_alloc | apply Kd.R_drewN | apply Kd.R_drew)); exact HO1673.out, by repeat (first | (with_reducible first | exact HB.out | apply below_alloc | apply pw_below_drewN | apply below_drew1 | refine below_set ?_ (IsS105.ge HI1669.out)) | exact HB.out)⟩
 subst c8
 rw [if_pos rfl] at H
 replace H := Option.bind_eq_some_iff.mp H
 obtain ⟨⟨t1677, t1678, t1679⟩, A90, H⟩ := H
 replace H : ((some (([] : List (S76)) : List (S76))).bind fun y1680 => (if 0 ≤ t1677 then (if t1677 ≤ (t1670.length : Int) then ((some (t1670.take (t1677 : Int).toNat : List (S76))).bind fun y1683 => (if y1680.length + y1683.length < 8796093022208 then ((some (y1680 ++ y1683 : List (S76))).bind fun y1687 => (if 0 ≤ (wrap64 (t1677 + 1)) then (if (wrap64 (t1677 + 1)) ≤ (t1670.length : Int) then ((some (t1670.drop ((wrap64 (t1677 + 1)) : Int).toNat : List (S76))).bind fun y1690 => (if y1687.length + y1690.length < 8796093022208 then (some ((y1687 ++ y1690), t1660)) else (none))) else (none)) else (none))) else (none))) else (none)) else (none))) = some (r1, r2) := H
 have A9 := Aside0.mk A90
 clear A90
 obtain ⟨y1680, hy1680⟩ : ∃ y_ : List (S76), y_ = (([] : List (S76))) := ⟨_, rfl⟩
 replace H : (if 0 ≤ t1677 then (if t1677 ≤ (t1670.length : Int) then ((some (t1670.take (t1677 : Int).toNat : List (S76))).bind fun y1683 => (if y1680.length + y1683.length < 8796093022208 then ((some (y1680 ++ y1683 : List (S76))).bind fun y1687 => (if 0 ≤ (wrap64 (t1677 + 1)) then (if (wrap64 (t1677 + 1)) ≤ (t1670.length : Int) then ((some (t1670.drop ((wrap64 (t1677 + 1)) : Int).toNat : List (S76))).bind fun y1690 => (if y1687.length + y1690.length < 8796093022208 then (some ((y1687 ++ y1690), t1660)) else (none))) else (none)) else (none))) else (none))) else (none)) else (none)) = some (r1, r2) := by first | (rw [hy1680]; with_reducible exact H) | (have H2_ := (Option.bind_some _ _).symm.trans H; rw [hy1680]; with_reducible exact H2_) | (have H2_ := (Option.bind_some _ _).symm.trans H; with_reducible exact H2_) | with_reducible exact H | (rw [hy1680]; exact H) | exact H
 have Ny1680 := Aside0.mk hy1680
 clear hy1680
 by_cases c10 : 0 ≤ t1677
 rotate_left
 ·rw [if_neg c10] at H
  exact absurd H (by simp)
 rw [if_pos c10] at H
 have c10b0 := eq_true c10
 have c10b1 : decide (0 ≤ t1677) = true := decide_eq_true c10
 clear c10
 by_cases c11 : t1677 ≤ (t1670.length : Int)
 rotate_left
 ·rw [if_neg c11] at H
  exact absurd H (by simp)
 rw [if_pos c11] at H
 have c11b0 := eq_true c11
 have c11b1 : decide (t1677 ≤ (t1670.length : Int)) = true := decide_eq_true c11
 clear c11
 obtain ⟨y1683, hy1683⟩ : ∃ y_ : List (S76), y_ = (t1670.take (t1677 : Int).toNat) := ⟨_, rfl⟩
 replace H : (if y1680.length + y1683.length < 8796093022208 then ((some (y1680 ++ y1683 : List (S76))).bind fun y1687 => (if 0 ≤ (wrap64 (t1677 + 1)) then (if (wrap64 (t1677 + 1)) ≤ (t1670.length : Int) then ((some (t1670.drop ((wrap64 (t1677 + 1)) : Int).toNat : List (S76))).bind fun y1690 => (if y1687.length + y1690.length < 8796093022208 then (some ((y1687 ++ y1690), t1660)) else (none))) else (none)) else (none))) else (none)) = some (r1, r2) := by first | (rw [hy1683]; with_reducible exact H) | (have H2_ := (Option.bind_some _ _).symm.trans H; rw [hy1683]; with_reducible exact H2_) | (have H2_ := (Option.bind_some _ _).symm.trans H; with_reducible exact H2_) | with_reducible exact H | (rw [hy1683]; exact H) | exact H
 have Ny1683 := Aside0.mk hy1683
 clear hy1683
 by_cases c12 : y1680.length + y1683.length < 8796093022208
 rotate_left
 ·rw [if_neg c12] at H
  exact absurd H (by simp)
 rw [if_pos c12] at H
 have LMc12 := Aside0.mk c12
 clear c12
 obtain ⟨y1687, hy1687⟩ : ∃ y_ : List (S76), y_ = (y1680 ++ y1683) := ⟨_, rfl⟩
 replace H : (if 0 ≤ (wrap64 (t1677 + 1)) then (if (wrap64 (t1677 + 1)) ≤ (t1670.length : Int) then ((some (t1670.drop ((wrap64 (t1677 + 1)) : Int).toNat : List (S76))).bind fun y1690 => (if y1687.length + y1690.length < 8796093022208 then (some ((y1687 ++ y1690), t1660)) else (none))) else (none)) else (none)) = some (r1, r2) := by first | (rw [hy1687]; with_reducible exact H) | (have H2_ := (Option.bind_some _ _).symm.trans H; rw [hy1687]; with_reducible exact H2_) | (have H2_ := (Option.bind_some _ _).symm.trans H; with_reducible exact H2_) | with_reducible exact H | (rw [hy1687]; exact H) | exact H
 have Ny1687 := Aside0.mk hy1687
 clear hy1687
 obtain ⟨ji13, hji13⟩ : ∃ j_ : Int, (wrap64 (t1677 + 1)) = j_ := ⟨_, rfl⟩
 replace H : (if 0 ≤ (ji13) then (if (ji13) ≤ (t1670.length : Int) then ((some (t1670.drop ((ji13) : Int).toNat : List (S76))).bind fun y1690 => (if y1687.length + y1690.length < 8796093022208 then (some ((y1687 ++ y1690), t1660)) else (none))) else (none)) else (none)) = some (r1, r2) := by first | (rw [hji13] at H; exact H) | (simp only [hji13] at H ⊢; exact H)
 (try rw [hji13] at A2)
 (try rw [hji13] at A3)
 (try rw [hji13] at A4)
 (try rw [hji13] at A7)
 (try rw [hji13] at A9)
 have hji13w : (IntKind.i64.wrap (t1677 + 1)) = ji13 := (i64_w _).trans hji13
 by_cases c14 : 0 ≤ (ji13)
 rotate_left
 ·rw [if_neg c14] at H
  exact absurd H (by simp)
 rw [if_pos c14] at H
 have c14b0 := eq_true c14
 have c14b1 : decide (0 ≤ (ji13)) = true := decide_eq_true c14
 clear c14
 by_cases c15 : (ji13) ≤ (t1670.length : Int)
 rotate_left
 ·rw [if_neg c15] at H
  exact absurd H (by simp)
 rw [if_pos c15] at H
 have c15b0 := eq_true c15
 have c15b1 : decide ((ji13) ≤ (t1670.length : Int)) = true := decide_eq_true c15
 clear c15
 obtain ⟨y1690, hy1690⟩ : ∃ y_ : List (S76), y_ = (t1670.drop ((ji13) : Int).toNat) := ⟨_, rfl⟩
 replace H : (if y1687.length + y1690.length < 8796093022208 then (some ((y1687 ++ y1690), t1660)) else (none)) = some (r1, r2) := by first | (rw [hy1690]; with_reducible exact H) | (have H2_ := (Option.bind_some _ _).symm.trans H; rw [hy1690]; with_reducible exact H2_) | (have H2_ := (Option.bind_some _ _).symm.trans H; with_reducible exact H2_) | with_reducible exact H | (rw [hy1690]; exact H) | exact H
 have Ny1690 := Aside0.mk hy1690
 clear hy1690
 by_cases c16 : y1687.length + y1690.length < 8796093022208
 rotate_left
 ·rw [if_neg c16] at H
  exact absurd H (by simp)
 rw [if_pos c16] at H
 have LMc16 := Aside0.mk c16
 clear c16
 obtain ⟨y1694, hy1694⟩ : ∃ y_ : List (S76), y_ = (y1687 ++ y1690) := ⟨_, rfl⟩
 replace H : (some (y1694, t1660)) = some (r1, r2) := by first | (rw [hy1694]; with_reducible exact H) | (have H2_ := (Option.bind_some _ _).symm.trans H; rw [hy1694]; with_reducible exact H2_) | (have H2_ := (Option.bind_some _ _).symm.trans H; with_reducible exact H2_) | with_reducible exact H | (rw [hy1694]; exact H) | exact H
 have Ny1694 := Aside0.mk hy1694
 clear hy1694
 simp only [Option.some.injEq, Prod.mk.injEq] at H
 obtain ⟨rfl, rfl⟩ := H
 go_enter Try.func57, Try.ntmps57
 try go_wp2_with (first | ((with_reducible refine gate_callee (f := 52) rfl ?_); refine goesL_ (some 13) rfl rfl Try.func52 (by kernel_rfl) rfl #[.slice A0 l0.length c0] rfl tm_ ?_; (with_reducible refine (spec_DrawWantsOn.calls k _ _ l0 t1659 t1660 t1661 _ ?side1 ?side2 A2.out).mono ?_); (case side1 => exact ca HR0.out); (case side2 => exact HC0.out); rintro e w17 ⟨v1662, v1664, rfl, ho0, ho1, hb⟩; refine ⟨_, rfl, ?_⟩; have HO1663 := Aside0.mk (Kd.R_lower ho0 (below_size (hB HB))); have HO1665 := Aside0.mk (Kd.R_lower ho1 (below_size (hB HB))); replace HB := bst_ HB hb; clear hb ho0 ho1) | ((with_reducible refine gate_dst (N := 19) rfl ?_); refine box_event ?hg (N := 19) ?hd (cs := #[.slice A0 l0.length c0, .int .i64 0, .int .u64 0]) (t := 105) ?hr ?_; (case hd => rfl); (case hg => rfl); (case hr => first | (go_simp; done) | (go_simp; rfl)); intro g1669 hg w18 hbox hb2; have hi : IsS105 w w18 g1669 t1666 t1667 t1668 := (by rw [DE_A3.out.1, DE_A3.out.2.1, DE_A3.out.2.2]; exact ⟨_, _, hbox, (gw_ hg HB).out, HR0.out⟩); have hb := (bst_ HB hb2).out; clear hg hbox; have HI1669 := Aside0.mk (hi); replace HO1663 := Aside0.mk (Kd.R_below (ra HO1663.out) hb2); replace HO1665 := Aside0.mk (Kd.R_below (ra HO1665.out) hb2); replace HB := Aside0.mk (hb); clear hb hb2 hi; obtain ⟨Ao19, co19, eo19⟩ := Kd.R_slice HO1663.out; subst eo19; obtain ⟨Ao20, co20, eo20⟩ := Kd.R_slice HO1665.out; subst eo20) | ((with_reducible refine gate_callee (f := 9) rfl ?_); refine goesL_ (some 24) rfl rfl Try.func9 (by kernel_rfl) rfl #[.slice Ao19 t1659.length co19, .int .i64 t1660, .slice Ao20 t1661.length co20] rfl tm_ ?_; (with_reducible refine (spec_WantsOn.calls k _ _ t1659 t1660 _ _ t1661 t1670 true _ ?side1 ?side2 ?side3 ?side4 A4.out).mono ?_); (case side1 => exact ca (Kd.R_reads' HO1663.out).2.2); (case side2 => exact (Kd.R_reads' HO1663.out).2.1); (case side3 => exact ca (Kd.R_reads' HO1665.out).2.2); (case side4 => exact (Kd.R_reads' HO1665.out).2.1); rintro e w21 ⟨v1672, rfl, ho0, hb⟩; refine ⟨_, rfl, ?_⟩; have HO1673 := Aside0.mk (Kd.R_lower ho0 (below_size (by repeat (first | (with_reducible first | exact HB.out | apply below_alloc | apply pw_below_drewN | apply below_drew1 | refine below_set ?_ (IsS105.ge HI1669.out)) | exact HB.out)))); replace HO1663 := rb_ HO1663 hb; replace HO1665 := rb_ HO1665 hb; replace HB := Aside0.mk (below_step (by repeat (first | (with_reducible first | exact HB.out | apply below_alloc | apply pw_below_drewN | apply below_drew1 | refine below_set ?_ (IsS105.ge HI1669.out)) | exact HB.out)) hb); replace HI1669 := Aside0.mk (IsS105.below (by repeat (first | (with_reducible first | exact HI1669.out | apply IsS105.alloc | apply IsS105.drewN | apply IsS105.drew | apply IsS105.set_1 | apply IsS105.set_2) | exact HI1669.out)) hb); clear hb ho0; obtain ⟨Ao22, co22, eo22⟩ := Kd.R_slice HO1673.out; subst eo22) | (go_at_call 95; (with_reducible refine (spec_l1Cur_one.calls g1669 t1666 t1667 t1668 3 true t1675 t1676 w _ ?side1 ?side2 A7.out).mono ?_); (case side1 => repeat (first | (with_reducible first | exact HI1669.out | apply IsS105.alloc | apply IsS105.drewN | apply IsS105.drew | apply IsS105.set_1 | apply IsS105.set_2) | exact HI1669.out)); (case side2 => repeat (first | (with_reducible first | exact HB.out | apply below_alloc | apply pw_below_drewN | apply below_drew1 | refine below_set ?_ (IsS105.ge HI1669.out)) | exact HB.out)); rintro e w23 ⟨rfl, hi, hb, hk⟩; replace HO1663 := Aside0.mk (Kd.R_mono (Kd.R_keep (IsS105.apart (show IsS105 w _ g1669 t1666 t1667 t1668 from by repeat (first | (with_reducible first | exact HI1669.out | apply IsS105.alloc | apply IsS105.drewN | apply IsS105.drew | apply IsS105.set_1 | apply IsS105.set_2) | exact HI1669.out)) (ra HO1663.out) (by decide)) hk (fun _ h => h.2)) (fun _ h => h.1)); replace HO1665 := Aside0.mk (Kd.R_mono (Kd.R_keep (IsS105.apart (show IsS105 w _ g1669 t1666 t1667 t1668 from by repeat (first | (with_reducible first | exact HI1669.out | apply IsS105.alloc | apply IsS105.drewN | apply IsS105.drew | apply IsS105.set_1 | apply IsS105.set_2) | exact HI1669.out)) (ra HO1665.out) (by decide)) hk (fun _ h => h.2)) (fun _ h => h.1)); replace HO1673 := Aside0.mk (Kd.R_mono (Kd.R_keep (IsS105.apart (show IsS105 w _ g1669 t1666 t1667 t1668 from by repeat (first | (with_reducible first | exact HI1669.out | apply IsS105.alloc | apply IsS105.drewN | apply IsS105.drew | apply IsS105.set_1 | apply IsS105.set_2) | exact HI1669.out)) (ra HO1673.out) (by decide)) hk (fun _ h => h.2)) (fun _ h => h.1)); replace HB := Aside0.mk (hb); replace HI1669 := Aside0.mk (hi); clear hb hk hi) | ((with_reducible refine gate_callee (f := 94) rfl ?_); refine goesL_ (some 40) rfl rfl Try.func94 (by kernel_rfl) rfl #[.pointer (some ⟨g1669, 0, none⟩), .int .i64 (t1670.length : Int)] rfl tm_ ?_; (with_reducible refine (spec_l1Cur_pick.calls g1669 t1666 t1675 t1676 (t1670.length : Int) t1677 t1678 t1679 w _ ?side1 ?side2 A9.out).mono ?_); (case side1 => repeat (first | (with_reducible first | exact HI1669.out | apply IsS105.alloc | apply IsS105.drewN | apply IsS105.drew | apply IsS105.set_1 | apply IsS105.set_2) | exact HI1669.out)); (case side2 => repeat (first | (with_reducible first | exact HB.out | apply below_alloc | apply pw_below_drewN | apply below_drew1 | refine below_set ?_ (IsS105.ge HI1669.out)) | exact HB.out)); rintro e w24 ⟨rfl, hi, hb, hk⟩; refine ⟨_, rfl, ?_⟩; replace HO1663 := Aside0.mk (Kd.R_mono (Kd.R_keep (IsS105.apart (show IsS105 w _ g1669 t1666 t1675 t1676 from by repeat (first | (with_reducible first | exact HI1669.out | apply IsS105.alloc | apply IsS105.drewN | apply IsS105.drew | apply IsS105.set_1 | apply IsS105.set_2) | exact HI1669.out)) (ra HO1663.out) (by decide)) hk (fun _ h => h.2)) (fun _ h => h.1)); replace HO1665 := Aside0.mk (Kd.R_mono (Kd.R_keep (IsS105.apart (show IsS105 w _ g1669 t1666 t1675 t1676 from by repeat (first | (with_reducible first | exact HI1669.out | apply IsS105.alloc | apply IsS105.drewN | apply IsS105.drew | apply IsS105.set_1 | apply IsS105.set_2) | exact HI1669.out)) (ra HO1665.out) (by decide)) hk (fun _ h => h.2)) (fun _ h => h.1)); replace HO1673 := Aside0.mk (Kd.R_mono (Kd.R_keep (IsS105.apart (show IsS105 w _ g1669 t1666 t1675 t1676 from by repeat (first | (with_reducible first | exact HI1669.out | apply IsS105.alloc | apply IsS105.drewN | apply IsS105.drew | apply IsS105.set_1 | apply IsS105.set_2) | exact HI1669.out)) (ra HO1673.out) (by decide)) hk (fun _ h => h.2)) (fun _ h => h.1)); replace HB := Aside0.mk (hb); replace HI1669 := Aside0.mk (hi); clear hb hk hi))
 replace HO1663 := rd_ HO1663
 replace HO1665 := rd_ HO1665
 replace HO1673 := rd_ HO1673
 replace HI1669 := Aside0.mk (IsS105.drew HI1669.out)
 replace HB := Aside0.mk (below_drew1 HB.out)
 have q26 : (t1677 : Int) ≤ ((t1670.length : Int) : Int) := of_decide_eq_true (by first | (with_reducible assumption) | assumption)
 obtain ⟨i026, hi026, _, hsz26, _⟩ := info_parts info76
 have hroom26 : t1670.length ≤ co22 := (Kd.R_reads' HO1673.out).2.1
 have hC26 : Kd.C k76 _ Ao22 t1670.length t1670 := (Kd.R_reads' HO1673.out).2.2
 have hcut26 := cut_to (P := Try.prog) 23 76 .i64 Try.underlying23 hi026 Ao22 t1670.length co22 t1677 (of_decide_eq_true (by first | (with_reducible assumption) | assumption)) q26 hroom26
 have hr26 := Kd.C_take (m := (t1677 : Int).toNat) hC26 (by omega)
 have hy26 : y1683.length = (t1677 : Int).toNat := (by rw [Ny1683.out, List.length_take]; omega)
 rw [← Ny1683.out] at hr26
 rw [← hy26] at hcut26
 have HR1686 := Aside0.mk hr26
 have HC1686 := Aside0.mk (show y1683.length ≤ co22 from by omega)
 clear hr26 hC26 hroom26 hi026 hsz26
 have KY26 := Aside0.mk hy26
 clear hy26
 have KL26 := Aside0.mk (show (t1677 : Int).toNat ≤ t1670.length from by omega)
 replace q26 := eq_true q26
 have q27 : ((ji13) : Int) ≤ ((t1670.length : Int) : Int) := of_decide_eq_true (by first | (with_reducible assumption) | assumption)
 obtain ⟨i027, hi027, _, hsz27, _⟩ := info_parts info76
 have hroom27 : t1670.length ≤ co22 := (Kd.R_reads' HO1673.out).2.1
 have hC27 : Kd.C k76 _ Ao22 t1670.length t1670 := (Kd.R_reads' HO1673.out).2.2
 have q027 : (0 : Int) ≤ ((ji13) : Int) := of_decide_eq_true (by first | (with_reducible assumption) | assumption)
 have hcut27 := cut_from (P := Try.prog) 23 76 .i64 Try.underlying23 hi027 2 hsz27 Ao22 t1670.length co22 (ji13) q027 q27
 have hr27 := Kd.C_drop (m := ((ji13) : Int).toNat) (c := co22) hC27 (by omega) hroom27
 obtain ⟨A27, hA27⟩ : ∃ A1, A1 = (if co22 = ((ji13) : Int).toNat then Ao22 else (Ao22 : Option Addr).map (·.add (((ji13) : Int).toNat * 2))) := ⟨_, rfl⟩
 obtain ⟨c27, hc27⟩ : ∃ c1, c1 = co22 - ((ji13) : Int).toNat := ⟨_, rfl⟩
 have hy27 : y1690.length = t1670.length - ((ji13) : Int).toNat := (by rw [Ny1690.out, List.length_drop] <;> omega)
 rw [show (t1670).drop ((ji13) : Int).toNat = y1690 from Ny1690.out.symm] at hr27
 replace hr27 : Kd.C k76 _ A27 y1690.length y1690 := (by rw [hA27]; exact hr27)
 rw [← hy27, ← hA27, ← hc27] at hcut27
 have HR1693 := Aside0.mk hr27
 have HC1693 := Aside0.mk (show y1690.length ≤ c27 from by rw [hy27, hc27]; exact Nat.sub_le_sub_right hroom27 _)
 clear hr27 hC27 hroom27 hi027 hsz27 hc27
 have KY27 := Aside0.mk hy27
 have KA27 := Aside0.mk hA27
 clear hy27 hA27
 have KL27 := Aside0.mk (show ((ji13) : Int).toNat ≤ t1670.length from by omega)
 replace q27 := eq_true q27
 refine start_ (n := 11) (S := fun w' => True) (ds := []) (bs 11 0) (by kernel_rfl) rfl rfl trivial (fun hHeld => ?_); refine with_tabW spec_DrawReachedBy.tab6 spec_DrawReachedBy.bits6 (fun HT_ HW_ => ?_)
 generalize w24.drew = w25 at HO1663 HO1665 HO1673 HI1669 HB HR1686 HR1693 hHeld ⊢
 refine pu_ 1 42 (bs 11 2) HT_ ?_
 refine pu_ 2 43 (bs 11 6) HT_ ?_
 refine pu_ 3 44 (bs 11 14) HT_ ?_
 refine pu_ 5 46 (bs 11 46) HT_ ?_
 refine pu_ 6 47 (bs 11 110) HT_ ?_
 refine pu_ 7 48 (bs 11 238) HT_ ?_
 refine pu_ 8 49 (bs 11 494) HT_ ?_
 refine one_ (i := 0) (N := some 41) (bs 11 495) rfl rfl (one_of HT_.out (by kernel_rfl)) (by decide) (fun K hK => ?_)
 refine Kd.R_lit_step k76 _ 76 ?hg (N := 41) ?hd (xs := ([] : List (S76))) (inner := []) (ok := fun _ => True) (okp := fun _ => True) ?hr ?hp (fun _ hk => hk) trivial (Below.refl _ _) (Nat.le_refl _) (by simp) ?_; (case hd => rfl); (case hg => rfl); (case hr => first | (go_simp; done) | (go_simp; rfl)); (case hp => exact (Reps.none _ _))
 intro v1681 w28 ho29 hb hg_ hnew_
 clear hg_ hnew_
 (first | rw [← Ny1680.out] at ho29 | (simp only [Int.reduceToNat] at ho29; rw [← Ny1680.out] at ho29))
 have HO1682 := Aside0.mk (Kd.R_lower (Kd.R_new' ho29 (rl_ HO1673)) (below_size (by repeat (first | (with_reducible first | exact HB.out | apply below_alloc | apply pw_below_drewN | apply below_drew1 | refine below_set ?_ (IsS105.ge HI1669.out)) | exact HB.out))))
 replace HO1663 := rb_ HO1663 hb
 replace HO1665 := rb_ HO1665 hb
 replace HO1673 := re_ HO1673 ho29 hb
 replace HR1686 := Aside0.mk (Kd.C_below (by repeat (first | (with_reducible exact HR1686.out) | (with_reducible refine Kd.C_alloc ?_ _) | (with_reducible refine Kd.C_drewN ?_ _) | (with_reducible refine Kd.C_drew ?_) | exact HR1686.out)) hb)
 replace HR1693 := Aside0.mk (Kd.C_below (by repeat (first | (with_reducible exact HR1693.out) | (with_reducible refine Kd.C_alloc ?_ _) | (with_reducible refine Kd.C_drewN ?_ _) | (with_reducible refine Kd.C_drew ?_) | exact HR1693.out)) hb)
 replace HB := Aside0.mk (below_step (by repeat (first | (with_reducible first | exact HB.out | apply below_alloc | apply pw_below_drewN | apply below_drew1 | refine below_set ?_ (IsS105.ge HI1669.out)) | exact HB.out)) hb)
 replace HI1669 := Aside0.mk (IsS105.below (by repeat (first | (with_reducible first | exact HI1669.out | apply IsS105.alloc | apply IsS105.drewN | apply IsS105.drew | apply IsS105.set_1 | apply IsS105.set_2) | exact HI1669.out)) hb)
 clear hb ho29
 refine hK.out _ _ trivial (fun hHeld => ?_)
 clear hK K
 refine nm_ 41 ?_
 refine one_ (i := 4) (N := some 45) (bs 11 511) rfl rfl (one_of HT_.out (by kernel_rfl)) (by decide) (fun K hK => ?_)
 refine Kd.R_append_rows_step k76 (w0 := w) w.heap.size (by rfl) (.tmp 41) (.tmp 44) 23 76 (.agg #[(.int .i64 0), (.int .i64 0)]) 16 rfl Try.underlying23 info76 rfl (by decide) (by omega) v1681 y1680 y1683 _ _ _ (fun k_ => no_ (.slice Ao22 t1670.length co22) k_) (fun _ => False) rfl rfl ?aO ?aR (fun _ _ h => h) (fun _ h => h.elim) ?aF ?aB ?aS ?aL ?_
 (case aR => repeat (first | exact (by repeat (first | (with_reducible exact HR1686.out) | (with_reducible refine Kd.C_alloc ?_ _) | (with_reducible refine Kd.C_drewN ?_ _) | (with_reducible refine Kd.C_drew ?_) | exact HR1686.out)) | (with_reducible refine Kd.C_alloc ?_ _) | (with_reducible refine Kd.C_drewN ?_ _) | (with_reducible refine Kd.C_drew ?_)))
 (case aB => exact (by repeat (first | (with_reducible first | exact HB.out | apply below_alloc | apply pw_below_drewN | apply below_drew1 | refine below_set ?_ (IsS105.ge HI1669.out)) | exact HB.out)))
 (case aF => exact (fun k_ hk => Kd.fresh' (rl_ HO1673) k_ hk))
 (case aO => exact (rm_ HO1682 (fun _ hk => hk.2)).out)
 (case aS => exact (below_size (by repeat (first | (with_reducible first | exact HB.out | apply below_alloc | apply pw_below_drewN | apply below_drew1 | refine below_set ?_ (IsS105.ge HI1669.out)) | exact HB.out))))
 (case aL => have := LMc12.out; omega)
 intro v1688 w30 ho hb hg hat
 rw [← Ny1687.out] at ho
 have HO1689 := Aside0.mk (ho)
 replace HO1663 := Aside0.mk (Kd.R_over' (ra HO1663.out) (Kd.R_typed (ra HO1682.out)) (by decide) hg)
 replace HO1665 := Aside0.mk (Kd.R_over' (ra HO1665.out) (Kd.R_typed (ra HO1682.out)) (by decide) hg)
 replace HI1669 := Aside0.mk (IsS105.grown (by repeat (first | (with_reducible first | exact HI1669.out | apply IsS105.alloc | apply IsS105.drewN | apply IsS105.drew | apply IsS105.set_1 | apply IsS105.set_2) | exact HI1669.out)) hg (IsS105.own_ne HI1669.out HO1682.out (by decide)))
 replace HB := Aside0.mk (hb)
 replace HR1686 := Aside0.mk ((show Kd.C k76 w30 Ao22 y1683.length y1683 from by rw [Ny1683.out]; exact Kd.C_take (m := (t1677 : Int).toNat) ((Kd.R_reads' (Kd.R_after (ok := (fun _ => True)) (ra HO1673.out) hg hat)).2.2) KL26.out))
 replace HR1693 := Aside0.mk ((show Kd.C k76 w30 A27 y1690.length y1690 from by rw [Ny1690.out, KA27.out]; exact Kd.C_drop (m := ((ji13) : Int).toNat) (c := co22) ((Kd.R_reads' (Kd.R_after (ok := (fun _ => True)) (ra HO1673.out) hg hat)).2.2) KL27.out ((Kd.R_reads' (Kd.R_after (ok := (fun _ => True)) (ra HO1673.out) hg hat)).2.1)))
 replace HO1673 := Aside0.mk (Kd.R_after (ok := (fun _ => True)) (ra HO1673.out) hg hat)
 clear HO1682
 clear ho hb hg hat
 refine hK.out _ _ trivial (fun hHeld => ?_)
 clear hK K
 refine nm_ 45 ?_
 refine one_ (i := 9) (N := some 50) (bs 11 1023) rfl rfl (one_of HT_.out (by kernel_rfl)) (by decide) (fun K hK => ?_)
 refine Kd.R_append_rows_step k76 (w0 := w) w.heap.size (by rfl) (.tmp 45) (.tmp 49) 23 76 (.agg #[(.int .i64 0), (.int .i64 0)]) 16 rfl Try.underlying23 info76 rfl (by decide) (by omega) v1688 y1687 y1690 _ _ _ (fun k_ => no_ (.slice Ao22 t1670.length co22) k_) (fun _ => False) rfl rfl ?aO ?aR (fun _ _ h => h) (fun _ h => h.elim) ?aF ?aB ?aS ?aL ?_
 (case aR => repeat (first | exact (by repeat (first | (with_reducible exact HR1693.out) | (with_reducible refine Kd.C_alloc ?_ _) | (with_reducible refine Kd.C_drewN ?_ _) | (with_reducible refine Kd.C_drew ?_) | exact HR1693.out)) | (with_reducible refine Kd.C_alloc ?_ _) | (with_reducible refine Kd.C_drewN ?_ _) | (with_reducible refine Kd.C_drew ?_)))
 (case aB => exact (by repeat (first | (with_reducible first | exact HB.out | apply below_alloc | apply pw_below_drewN | apply below_drew1 | refine below_set ?_ (IsS105.ge HI1669.out)) | exact HB.out)))
 (case aF => exact (fun k_ hk => Kd.fresh' (rl_ HO1673) k_ hk))
 (case aO => exact (ra HO1689.out))
 (case aS => exact (below_size (by repeat (first | (with_reducible first | exact HB.out | apply below_alloc | apply pw_below_drewN | apply below_drew1 | refine below_set ?_ (IsS105.ge HI1669.out)) | exact HB.out))))
 (case aL => have := LMc16.out; omega)
 intro v1695 w31 ho hb hg hat
 rw [← Ny1694.out] at ho
 have HO1696 := Aside0.mk (ho)
 replace HO1663 := Aside0.mk (Kd.R_over' (ra HO1663.out) (Kd.R_typed (ra HO1689.out)) (by decide) hg)
 replace HO1665 := Aside0.mk (Kd.R_over' (ra HO1665.out) (Kd.R_typed (ra HO1689.out)) (by decide) hg)
 replace HI1669 := Aside0.mk (IsS105.grown (by repeat (first | (with_reducible first | exact HI1669.out | apply IsS105.alloc | apply IsS105.drewN | apply IsS105.drew | apply IsS105.set_1 | apply IsS105.set_2) | exact HI1669.out)) hg (IsS105.own_ne HI1669.out HO1689.out (by decide)))
 replace HB := Aside0.mk (hb)
 replace HR1686 := Aside0.mk ((show Kd.C k76 w31 Ao22 y1683.length y1683 from by rw [Ny1683.out]; exact Kd.C_take (m := (t1677 : Int).toNat) ((Kd.R_reads' (Kd.R_after (ok := (fun _ => True)) (ra HO1673.out) hg hat)).2.2) KL26.out))
 replace HR1693 := Aside0.mk ((show Kd.C k76 w31 A27 y1690.length y1690 from by rw [Ny1690.out, KA27.out]; exact Kd.C_drop (m := ((ji13) : Int).toNat) (c := co22) ((Kd.R_reads' (Kd.R_after (ok := (fun _ => True)) (ra HO1673.out) hg hat)).2.2) KL27.out ((Kd.R_reads' (Kd.R_after (ok := (fun _ => True)) (ra HO1673.out) hg hat)).2.1)))
 replace HO1673 := Aside0.mk (Kd.R_after (ok := (fun _ => True)) (ra HO1673.out) hg hat)
 clear HO1689
 clear ho hb hg hat
 refine hK.out _ _ trivial (fun hHeld => ?_)
 clear hK K
 refine nm_ 50 ?_
 refine pu_ 10 8 (bs 11 2047) HT_ ?_
 refine done_ (done_of HT_.out (by kernel_rfl)) ?_
 try go_wp2
 go_ret2
 exact ⟨_, by first | rfl | (simp [errW_none, errW_some] <;> rfl) | (simp only [← hji13]; first | rfl | (simp [errW_none, errW_some] <;> rfl)) | (simp [*, errW_none, errW_some] <;> rfl), by (with_reducible repeat (first | apply Kd.R_alloc | apply Kd.R_drewN | apply Kd.R_drew)); exact Kd.R_mono HO1696.out (fun _ hk => trivial), by repeat (first | (with_reducible first | exact HB.out | apply below_alloc | apply pw_below_drewN | apply below_drew1 | refine below_set ?_ (IsS105.ge HI1669.out)) | exact HB.out)⟩

mutual
def spec_ReachedBy.l0 : Nat → List (S76) → Int → List (S76) → Int → Int → Option (List Int × Bool)
 | 0, _, _, _, _, _ => none
 | k + 1, x0, x1, x11, x12, x13 => if x13 < x12 then (if 0 ≤ x13 then (if x13 < (x11.length : Int) then ((spec_l1In.f ((rd_T76 x11 x13).f0) 0 11).bind fun t1699 => (if t1699 = true then ((spec_l1In.f ((rd_T76 x11 x13).f1) 0 11).bind fun t1700 => (if t1700 = true then (if ((rd_T76 x11 x13).f0) = ((rd_T76 x11 x13).f1) then (some (([] : List Int), false)) else (spec_ReachedBy.l0 k x0 x1 x11 x12 (wrap64 (x13 + 1)))) else (some (([] : List Int), false)))) else (some (([] : List Int), false)))) else (none)) else (none)) else (if (x0.length : Int) > 40 then (spec_ReachedBy.j1 k x0 x1 true) else ((spec_l1In.f x1 0 11).bind fun t1701 => (spec_ReachedBy.j1 k x0 x1 (!t1701))))
def spec_ReachedBy.j1 : Nat → List (S76) → Int → Bool → Option (List Int × Bool)
 | 0, _, _, _ => none
 | k + 1, x0, x1, x42 => if x42 = true then (some (([] : List Int), false)) else (spec_ReachedBy.l1 k (([x1] : List Int)) x0 (x0.length : Int) 0)
def spec_ReachedBy.l1 : Nat → List Int → List (S76) → Int → Int → Option (List Int × Bool)
 | 0, _, _, _, _ => none
 | k + 1, x8, x45, x46, x47 => if x47 < x46 then (if 0 ≤ x47 then (if x47 < (x45.length : Int) then ((spec_l1Has.f k x8 ((rd_T76 x45 x47).f0)).bind fun t1707 => (if t1707 = true then ((spec_l1Put.f k x8 ((rd_T76 x45 x47).f1)).bind fun t1708 => (spec_ReachedBy.l1 k t1708 x45 x46 (wrap64 (x47 + 1)))) else (spec_ReachedBy.l1 k x8 x45 x46 (wrap64 (x47 + 1))))) else (none)) else (none)) else (some (x8, true))
end
def spec_ReachedBy.f (k : Nat) (l0 : List (S76)) (a1 : Int) : Option (List Int × Bool) := spec_ReachedBy.l0 k l0 a1 l0 (l0.length : Int) 0
theorem spec_ReachedBy.mono_l : ∀ k, (∀ y0 y1 y2 y3 y4, LeO (spec_ReachedBy.l0 k y0 y1 y2 y3 y4) (spec_ReachedBy.l0 (k + 1) y0 y1 y2 y3 y4)) ∧ (∀ y0 y1 y2, LeO (spec_ReachedBy.j1 k y0 y1 y2) (spec_ReachedBy.j1 (k + 1) y0 y1 y2)) ∧ (∀ y0 y1 y2 y3, LeO (spec_ReachedBy.l1 k y0 y1 y2 y3) (spec_ReachedBy.l1 (k + 1) y0 y1 y2 y3))
 | 0 => ⟨fun _ _ _ _ _ r h => by simp [spec_ReachedBy.l0] at h, fun _ _ _ r h => by simp [spec_ReachedBy.j1] at h, fun _ _ _ _ r h => by simp [spec_ReachedBy.l1] at h⟩
 | k + 1 => by
  obtain ⟨ih0, ih1, ih2⟩ := spec_ReachedBy.mono_l k
  refine ⟨?_, ?_, ?_⟩
  ·intro y0 y1 y2 y3 y4
   unfold spec_ReachedBy.l0
   repeat' first
   | (with_reducible exact ih0 _ _ _ _ _)
   | (with_reducible exact ih1 _ _ _)
   | (with_reducible exact ih2 _ _ _ _)
   | (with_reducible exact spec_l1Has.mono _ _ _)
   | (with_reducible exact spec_l1Put.mono _ _ _)
   | (with_reducible exact LeO.refl _)
   | (with_reducible exact LeO.none _)
   | (with_reducible refine LeO.ite ?_ ?_)
   | (with_reducible refine LeO.bind ?_ (fun _ => ?_))
  ·intro y0 y1 y2
   unfold spec_ReachedBy.j1
   repeat' first
   | (with_reducible exact ih0 _ _ _ _ _)
   | (with_reducible exact ih1 _ _ _)
   | (with_reducible exact ih2 _ _ _ _)
   | (with_reducible exact spec_l1Has.mono _ _ _)
   | (with_reducible exact spec_l1Put.mono _ _ _)
   | (with_reducible exact LeO.refl _)
   | (with_reducible exact LeO.none _)
   | (with_reducible refine LeO.ite ?_ ?_)
   | (with_reducible refine LeO.bind ?_ (fun _ => ?_))
  ·intro y0 y1 y2 y3
   unfold spec_ReachedBy.l1
   repeat' first
   | (with_reducible exact ih0 _ _ _ _ _)
   | (with_reducible exact ih1 _ _ _)
   | (with_reducible exact ih2 _ _ _ _)
   | (with_reducible exact spec_l1Has.mono _ _ _)
   | (with_reducible exact spec_l1Put.mono _ _ _)
   | (with_reducible exact LeO.refl _)
   | (with_reducible exact LeO.none _)
   | (with_reducible refine LeO.ite ?_ ?_)
   | (with_reducible refine LeO.bind ?_ (fun _ => ?_))
theorem spec_ReachedBy.mono : ∀ a0 a1 k, LeO (spec_ReachedBy.f k a0 a1) (spec_ReachedBy.f (k + 1) a0 a1) := by
 intro a0 a1 k
 obtain ⟨ih0, ih1, ih2⟩ := spec_ReachedBy.mono_l k
 unfold spec_ReachedBy.f
 repeat' first
   | (with_reducible exact ih0 _ _ _ _ _)
   | (with_reducible exact ih1 _ _ _)
   | (with_reducible exact ih2 _ _ _ _)
   | (with_reducible exact spec_l1Has.mono _ _ _)
   | (with_reducible exact spec_l1Put.mono _ _ _)
   | (with_reducible exact LeO.refl _)
   | (with_reducible exact LeO.none _)
   | (with_reducible refine LeO.ite ?_ ?_)
   | (with_reducible refine LeO.bind ?_ (fun _ => ?_))
set_option maxHeartbeats 8000000 in
set_option maxRecDepth 100000 in
theorem spec_ReachedBy.calls (k : Nat) (A0 : Option Addr) (c0 : Nat) (l0 : List (S76)) (a1 : Int) (r1 : List Int) (r2 : Bool) (w : World) (hr0 : Kd.C k76 w A0 l0.length l0) (hc0 : l0.length ≤ c0) (h : spec_ReachedBy.f k l0 a1 = some (r1, r2)) :
  Calls Try.prog 58 #[.slice A0 l0.length c0, .int .i64 a1] w fun e w' => ∃ v0_ : Value, e = .returned (.tuple #[v0_, .bool r2]) ∧ Kd.R (Kd.int .i64) 3 w' w.heap.size (fun _ => True) v0_ r1 ∧ Below w.heap.size w w' := by
 have hu76 := Try.underlying76
 have HR0 := Aside0.mk hr0
 have HC0 := Aside0.mk hc0
 clear hr0 hc0
 have HB := Aside0.mk (Below.refl w.heap.size w)
 have H : (spec_ReachedBy.l0 k l0 a1 l0 (l0.length : Int) 0) = some (r1, r2) := h
 clear h
 have H' := Aside0.mk H
 clear H
 go_enter Try.func58, Try.ntmps58
 go_wp2
 go_loopg [13] k (fun kq v13 w' => ∃ (x13_1 : Int), v13 = .int .i64 x13_1 ∧ Aside0 (spec_ReachedBy.l0 kq l0 a1 l0 (l0.length : Int) x13_1 = some (r1, r2)) ∧ Aside0 (kq ≤ k) ∧ Aside0 (Below w.heap.size w w'))
 case atStart => exact ⟨(0), (by first | rfl | (simp; done) | (simp [*]; done)), H', ⟨Nat.le_refl _⟩, ⟨hB HB⟩⟩
 case round =>
  clear H'
  obtain ⟨x13_1, rfl, HA, HK1, HB⟩ := hrel
  cases gk with
  | zero => exact absurd HA.out (by simp [spec_ReachedBy.l0])
  | succ k1 =>
   have H := HA.out
   clear HA
   simp only [spec_ReachedBy.l0] at H
   by_cases c3 : x13_1 < (l0.length : Int)
   ·rw [if_pos c3] at H
    have c3b0 : decide (x13_1 < (l0.length : Int)) = true := decide_eq_true c3
    clear c3
    by_cases c4 : 0 ≤ x13_1
    rotate_left
    ·rw [if_neg c4] at H
     exact absurd H (by simp)
    rw [if_pos c4] at H
    have c4b0 : decide (0 ≤ x13_1) = true := decide_eq_true c4
    clear c4
    by_cases c5 : x13_1 < (l0.length : Int)
    rotate_left
    ·rw [if_neg c5] at H
     exact absurd H (by simp)
    rw [if_pos c5] at H
    have c5b0 : decide (x13_1 < (l0.length : Int)) = true := decide_eq_true c5
    clear c5
    replace H := Option.bind_eq_some_iff.mp H
    obtain ⟨t1699, A60, H⟩ := H
    replace H : (if t1699 = true then ((spec_l1In.f ((rd_T76 l0 x13_1).f1) 0 11).bind fun t1700 => (if t1700 = true then (if ((rd_T76 l0 x13_1).f0) = ((rd_T76 l0 x13_1).f1) then (some (([] : List Int), false)) else (spec_ReachedBy.l0 k1 l0 a1 l0 (l0.length : Int) (wrap64 (x13_1 + 1)))) else (some (([] : List Int), false)))) else (some (([] : List Int), false))) = some (r1, r2) := H
    have A6 := Aside0.mk A60
    clear A60
    by_cases c7 : t1699 = true
    rotate_left
    ·replace c7 := Bool.eq_false_iff.mpr c7
     subst c7
     rw [if_neg (show ¬ (false = true) by decide)] at H
     simp only [Option.some.injEq, Prod.mk.injEq] at H
     obtain ⟨rfl, rfl⟩ := H
     have p1697 : 0 ≤ (x13_1 : Int) := of_decide_eq_true (by first | (with_reducible assumption) | assumption)
     have q1697 : x13_1 < (l0.length : Int) := of_decide_eq_true (by first | (with_reducible assumption) | assumption)
     obtain ⟨ad1697, e1697, hx1697_0, hx1697_1⟩ := at_T76 HR0.out x13_1 p1697 q1697
     cases e1697
     replace hx1697_0 := (HB.out.cell (World.block_lt_of_cell? w _ hx1697_0)).trans hx1697_0
     replace hx1697_1 := (HB.out.cell (World.block_lt_of_cell? w _ hx1697_1)).trans hx1697_1
     replace p1697 := eq_true p1697
     replace q1697 := eq_true q1697
     go_wp2_with (first | ((with_reducible refine gate_dst (N := 7) rfl ?_); refine box_event ?hg (N := 7) ?hd (cs := #[.int .i64 0, .int .i64 0]) (t := 76) ?hr ?_; (case hd => rfl); (case hg => rfl); (case hr => first | (go_simp; done) | (go_simp; rfl)); intro gb1698 hg w17 hbox hb; have BK1698 := Aside0.mk (hbox); have GW1698 := gw_ hg HB; have GE1698 := gw_ hg HB; replace HB := bst_ HB hb; clear hb hbox hg; have hcz18_0 : w17.cell? ⟨gb1698, 0, none⟩ = some (.int .i64 0) := bc_ BK1698 0; have hcz18_1 : w17.cell? ⟨gb1698, 1, none⟩ = some (.int .i64 0) := bc_ BK1698 1; have hfz18_0 := blk_frozen BK1698.out 0; have hfz18_1 := blk_frozen BK1698.out 1) | ((with_reducible refine gate_callee (f := 90) rfl ?_); refine goesL_ (some 19) rfl rfl Try.func90 (by kernel_rfl) rfl #[.int .i64 ((rd_T76 l0 x13_1).f0), .int .i64 0, .int .i64 11] rfl tm_ ?_; (with_reducible refine (spec_l1In.calls ((rd_T76 l0 x13_1).f0) 0 11 false _ A6.out).mono ?_); rintro e w' ⟨rfl, ⟨nd, rfl⟩⟩; refine ⟨_, rfl, ?_⟩))
     go_ret2
     exact ⟨_, by first | rfl | (simp [errW_none, errW_some] <;> rfl) | (simp [*, errW_none, errW_some] <;> rfl), by first | exact Kd.R_nil _ _ _ _ _ | exact Kd.N_nil _ _ _ _ _ | exact Kd.V_nil _ _ _ _ _ | exact Kd.Q_nil _ _ _ _ _ | exact Kd.S_nil _ _ _ _ _, by repeat (first | (with_reducible first | exact HB.out | apply below_alloc | apply pw_below_drewN | apply below_drew1 | refine below_set ?_ GE1698.out) | exact HB.out)⟩
    subst c7
    rw [if_pos rfl] at H
    replace H := Option.bind_eq_some_iff.mp H
    obtain ⟨t1700, A80, H⟩ := H
    replace H : (if t1700 = true then (if ((rd_T76 l0 x13_1).f0) = ((rd_T76 l0 x13_1).f1) then (some (([] : List Int), false)) else (spec_ReachedBy.l0 k1 l0 a1 l0 (l0.length : Int) (wrap64 (x13_1 + 1)))) else (some (([] : List Int), false))) = some (r1, r2) := H
    have A8 := Aside0.mk A80
    clear A80
    by_cases c9 : t1700 = true
    rotate_left
    ·replace c9 := Bool.eq_false_iff.mpr c9
     subst c9
     rw [if_neg (show ¬ (false = true) by decide)] at H
     simp only [Option.some.injEq, Prod.mk.injEq] at H
     obtain ⟨rfl, rfl⟩ := H
     have p1697 : 0 ≤ (x13_1 : Int) := of_decide_eq_true (by first | (with_reducible assumption) | assumption)
     have q1697 : x13_1 < (l0.length : Int) := of_decide_eq_true (by first | (with_reducible assumption) | assumption)
     obtain ⟨ad1697, e1697, hx1697_0, hx1697_1⟩ := at_T76 HR0.out x13_1 p1697 q1697
     cases e1697
     replace hx1697_0 := (HB.out.cell (World.block_lt_of_cell? w _ hx1697_0)).trans hx1697_0
     replace hx1697_1 := (HB.out.cell (World.block_lt_of_cell? w _ hx1697_1)).trans hx1697_1
     replace p1697 := eq_true p1697
     replace q1697 := eq_true q1697
     go_wp2_with (first | ((with_reducible refine gate_dst (N := 7) rfl ?_); refine box_event ?hg (N := 7) ?hd (cs := #[.int .i64 0, .int .i64 0]) (t := 76) ?hr ?_; (case hd => rfl); (case hg => rfl); (case hr => first | (go_simp; done) | (go_simp; rfl)); intro gb1698 hg w15 hbox hb; have BK1698 := Aside0.mk (hbox); have GW1698 := gw_ hg HB; have GE1698 := gw_ hg HB; replace HB := bst_ HB hb; clear hb hbox hg; have hcz16_0 : w15.cell? ⟨gb1698, 0, none⟩ = some (.int .i64 0) := bc_ BK1698 0; have hcz16_1 : w15.cell? ⟨gb1698, 1, none⟩ = some (.int .i64 0) := bc_ BK1698 1; have hfz16_0 := blk_frozen BK1698.out 0; have hfz16_1 := blk_frozen BK1698.out 1) | ((with_reducible refine gate_callee (f := 90) rfl ?_); refine goesL_ (some 19) rfl rfl Try.func90 (by kernel_rfl) rfl #[.int .i64 ((rd_T76 l0 x13_1).f0), .int .i64 0, .int .i64 11] rfl tm_ ?_; (with_reducible refine (spec_l1In.calls ((rd_T76 l0 x13_1).f0) 0 11 true _ A6.out).mono ?_); rintro e w' ⟨rfl, ⟨nd, rfl⟩⟩; refine ⟨_, rfl, ?_⟩) | (go_at_call 90; (with_reducible refine (spec_l1In.calls ((rd_T76 l0 x13_1).f1) 0 11 false _ A8.out).mono ?_); rintro e w' ⟨rfl, ⟨nd, rfl⟩⟩))
     go_ret2
     exact ⟨_, by first | rfl | (simp [errW_none, errW_some] <;> rfl) | (simp [*, errW_none, errW_some] <;> rfl), by first | exact Kd.R_nil _ _ _ _ _ | exact Kd.N_nil _ _ _ _ _ | exact Kd.V_nil _ _ _ _ _ | exact Kd.Q_nil _ _ _ _ _ | exact Kd.S_nil _ _ _ _ _, by repeat (first | (with_reducible first | exact HB.out | apply below_alloc | apply pw_below_drewN | apply below_drew1 | refine below_set ?_ GE1698.out) | exact HB.out)⟩
    subst c9
    rw [if_pos rfl] at H
    by_cases c10 : ((rd_T76 l0 x13_1).f0) = ((rd_T76 l0 x13_1).f1)
    rotate_left
    ·rw [if_neg c10] at H
     have c10b0 : (((rd_T76 l0 x13_1).f0) == ((rd_T76 l0 x13_1).f1)) = false := beq_eq_false_iff_ne.mpr c10
     have c10b1 : (((rd_T76 l0 x13_1).f0) != ((rd_T76 l0 x13_1).f1)) = true := bne_iff_ne.mpr c10
     have H' := Aside0.mk H
     clear H
     have p1697 : 0 ≤ (x13_1 : Int) := of_decide_eq_true (by first | (with_reducible assumption) | assumption)
     have q1697 : x13_1 < (l0.length : Int) := of_decide_eq_true (by first | (with_reducible assumption) | assumption)
     obtain ⟨ad1697, e1697, hx1697_0, hx1697_1⟩ := at_T76 HR0.out x13_1 p1697 q1697
     cases e1697
     replace hx1697_0 := (HB.out.cell (World.block_lt_of_cell? w _ hx1697_0)).trans hx1697_0
     replace hx1697_1 := (HB.out.cell (World.block_lt_of_cell? w _ hx1697_1)).trans hx1697_1
     replace p1697 := eq_true p1697
     replace q1697 := eq_true q1697
     go_wp2_with (first | ((with_reducible refine gate_dst (N := 7) rfl ?_); refine box_event ?hg (N := 7) ?hd (cs := #[.int .i64 0, .int .i64 0]) (t := 76) ?hr ?_; (case hd => rfl); (case hg => rfl); (case hr => first | (go_simp; done) | (go_simp; rfl)); intro gb1698 hg w13 hbox hb; have BK1698 := Aside0.mk (hbox); have GW1698 := gw_ hg HB; have GE1698 := gw_ hg HB; replace HB := bst_ HB hb; clear hb hbox hg; have hcz14_0 : w13.cell? ⟨gb1698, 0, none⟩ = some (.int .i64 0) := bc_ BK1698 0; have hcz14_1 : w13.cell? ⟨gb1698, 1, none⟩ = some (.int .i64 0) := bc_ BK1698 1; have hfz14_0 := blk_frozen BK1698.out 0; have hfz14_1 := blk_frozen BK1698.out 1) | ((with_reducible refine gate_callee (f := 90) rfl ?_); refine goesL_ (some 19) rfl rfl Try.func90 (by kernel_rfl) rfl #[.int .i64 ((rd_T76 l0 x13_1).f0), .int .i64 0, .int .i64 11] rfl tm_ ?_; (with_reducible refine (spec_l1In.calls ((rd_T76 l0 x13_1).f0) 0 11 true _ A6.out).mono ?_); rintro e w' ⟨rfl, ⟨nd, rfl⟩⟩; refine ⟨_, rfl, ?_⟩) | (go_at_call 90; (with_reducible refine (spec_l1In.calls ((rd_T76 l0 x13_1).f1) 0 11 true _ A8.out).mono ?_); rintro e w' ⟨rfl, ⟨nd, rfl⟩⟩))
     go_roundg k1
     case measure => have := HK1.out; omega
     case rel => exact ⟨(wrap64 (x13_1 + 1)), (by first | rfl | (simp; done) | (simp [*]; done)), H', ⟨by have := HK1.out; omega⟩, ⟨hB HB⟩⟩
    rw [if_pos c10] at H
    have c10b0 : (((rd_T76 l0 x13_1).f0) == ((rd_T76 l0 x13_1).f1)) = true := beq_iff_eq.mpr c10
    have c10b1 : (((rd_T76 l0 x13_1).f0) != ((rd_T76 l0 x13_1).f1)) = false := bne_eq_false_iff_eq.mpr c10
    clear c10
    simp only [Option.some.injEq, Prod.mk.injEq] at H
    obtain ⟨rfl, rfl⟩ := H
    have p1697 : 0 ≤ (x13_1 : Int) := of_decide_eq_true (by first | (with_reducible assumption) | assumption)
    have q1697 : x13_1 < (l0.length : Int) := of_decide_eq_true (by first | (with_reducible assumption) | assumption)
    obtain ⟨ad1697, e1697, hx1697_0, hx1697_1⟩ := at_T76 HR0.out x13_1 p1697 q1697
    cases e1697
    replace hx1697_0 := (HB.out.cell (World.block_lt_of_cell? w _ hx1697_0)).trans hx1697_0
    replace hx1697_1 := (HB.out.cell (World.block_lt_of_cell? w _ hx1697_1)).trans hx1697_1
    replace p1697 := eq_true p1697
    replace q1697 := eq_true q1697
    go_wp2_with (first | ((with_reducible refine gate_dst (N := 7) rfl ?_); refine box_event ?hg (N := 7) ?hd (cs := #[.int .i64 0, .int .i64 0]) (t := 76) ?hr ?_; (case hd => rfl); (case hg => rfl); (case hr => first | (go_simp; done) | (go_simp; rfl)); intro gb1698 hg w11 hbox hb; have BK1698 := Aside0.mk (hbox); have GW1698 := gw_ hg HB; have GE1698 := gw_ hg HB; replace HB := bst_ HB hb; clear hb hbox hg; have hcz12_0 : w11.cell? ⟨gb1698, 0, none⟩ = some (.int .i64 0) := bc_ BK1698 0; have hcz12_1 : w11.cell? ⟨gb1698, 1, none⟩ = some (.int .i64 0) := bc_ BK1698 1; have hfz12_0 := blk_frozen BK1698.out 0; have hfz12_1 := blk_frozen BK1698.out 1) | ((with_reducible refine gate_callee (f := 90) rfl ?_); refine goesL_ (some 19) rfl rfl Try.func90 (by kernel_rfl) rfl #[.int .i64 ((rd_T76 l0 x13_1).f0), .int .i64 0, .int .i64 11] rfl tm_ ?_; (with_reducible refine (spec_l1In.calls ((rd_T76 l0 x13_1).f0) 0 11 true _ A6.out).mono ?_); rintro e w' ⟨rfl, ⟨nd, rfl⟩⟩; refine ⟨_, rfl, ?_⟩) | (go_at_call 90; (with_reducible refine (spec_l1In.calls ((rd_T76 l0 x13_1).f1) 0 11 true _ A8.out).mono ?_); rintro e w' ⟨rfl, ⟨nd, rfl⟩⟩))
    go_ret2
    exact ⟨_, by first | rfl | (simp [errW_none, errW_some] <;> rfl) | (simp [*, errW_none, errW_some] <;> rfl), by first | exact Kd.R_nil _ _ _ _ _ | exact Kd.N_nil _ _ _ _ _ | exact Kd.V_nil _ _ _ _ _ | exact Kd.Q_nil _ _ _ _ _ | exact Kd.S_nil _ _ _ _ _, by repeat (first | (with_reducible first | exact HB.out | apply below_alloc | apply pw_below_drewN | apply below_drew1 | refine below_set ?_ GE1698.out) | exact HB.out)⟩
   rw [if_neg c3] at H
   have c3b0 : decide (x13_1 < (l0.length : Int)) = false := decide_eq_false c3
   clear c3
   have HC19 := Aside0.mk H
   clear H
   go_upto_region 7 with (fail)
   go_cut [42] (fun v42 wc => ∃ (kq : Nat) (x42_18 : Bool), v42 = .bool x42_18 ∧ Aside0 (spec_ReachedBy.j1 kq l0 a1 x42_18 = some (r1, r2)) ∧ Aside0 (kq ≤ k1) ∧ Aside0 (Below w.heap.size w wc))
   case first =>
    have H := HC19.out
    clear HC19
    by_cases c20 : (l0.length : Int) > 40
    ·rw [if_pos c20] at H
     have c20b0 : decide (40 < (l0.length : Int)) = true := decide_eq_true c20
     have c20b1 : decide (40 < l0.length) = true := decide_eq_true (by omega)
     clear c20
     (first | rw [c20b0] | (simp only [i64_w, i32_w]; rw [c20b0]) | skip)
     have H' := Aside0.mk H
     clear H
     go_wp2
     go_meet
     case rel => exact ⟨_, (true), (by first | rfl | (simp; done) | (simp [*]; done)), H', ⟨by have := HK1.out; first | omega | exact Nat.le_refl _⟩, ⟨hB HB⟩⟩
    rw [if_neg c20] at H
    have c20b0 : decide (40 < (l0.length : Int)) = false := decide_eq_false c20
    have c20b1 : decide (40 < l0.length) = false := decide_eq_false (by omega)
    clear c20
    (first | rw [c20b0] | (simp only [i64_w, i32_w]; rw [c20b0]) | skip)
    replace H := Option.bind_eq_some_iff.mp H
    obtain ⟨t1701, A210, H⟩ := H
    replace H : (spec_ReachedBy.j1 k1 l0 a1 (!t1701)) = some (r1, r2) := H
    have A21 := Aside0.mk A210
    clear A210
    have H' := Aside0.mk H
    clear H
    go_wp2_with (first | (go_at_call 90; (with_reducible refine (spec_l1In.calls a1 0 11 t1701 _ A21.out).mono ?_); rintro e w' ⟨rfl, ⟨nd, rfl⟩⟩))
    go_meet
    case rel => exact ⟨_, (!t1701), (by first | rfl | (simp; done) | (simp [*]; done)), H', ⟨by have := HK1.out; first | omega | exact Nat.le_refl _⟩, ⟨hB HB⟩⟩
   case rest =>
    clear HC19
    try clear c3
    try clear c3b0
    obtain ⟨kq, x42_18, rfl, HA, HJ18, HB⟩ := hcut
    cases kq with
    | zero => exact absurd HA.out (by simp [spec_ReachedBy.j1])
    | succ kj18 =>
     have H := HA.out
     clear HA
     simp only [spec_ReachedBy.j1] at H
     by_cases c22 : x42_18 = true
     ·subst c22
      rw [if_pos rfl] at H
      simp only [Option.some.injEq, Prod.mk.injEq] at H
      obtain ⟨rfl, rfl⟩ := H
      go_wp2
      go_ret2
      exact ⟨_, by first | rfl | (simp [errW_none, errW_some] <;> rfl) | (simp [*, errW_none, errW_some] <;> rfl), by first | exact Kd.R_nil _ _ _ _ _ | exact Kd.N_nil _ _ _ _ _ | exact Kd.V_nil _ _ _ _ _ | exact Kd.Q_nil _ _ _ _ _ | exact Kd.S_nil _ _ _ _ _, by repeat (first | (with_reducible first | exact HB.out | apply below_alloc | apply pw_below_drewN | apply below_drew1) | exact HB.out)⟩
     replace c22 := Bool.eq_false_iff.mpr c22
     subst c22
     rw [if_neg (show ¬ (false = true) by decide)] at H
     obtain ⟨y1702, hy1702⟩ : ∃ y_ : List Int, y_ = (([a1] : List Int)) := ⟨_, rfl⟩
     replace H : (spec_ReachedBy.l1 kj18 y1702 l0 (l0.length : Int) 0) = some (r1, r2) := by first | (rw [hy1702]; with_reducible exact H) | (have H2_ := (Option.bind_some _ _).symm.trans H; rw [hy1702]; with_reducible exact H2_) | (have H2_ := (Option.bind_some _ _).symm.trans H; with_reducible exact H2_) | with_reducible exact H | (rw [hy1702]; exact H) | exact H
     have Ny1702 := Aside0.mk hy1702
     clear hy1702
     have H' := Aside0.mk H
     clear H
     go_wp2_with (first | ((with_reducible refine gate_dst (N := 44) rfl ?_); refine Kd.R_lit (Kd.int .i64) _ 3 ?hg (N := 44) ?hd (xs := ([a1] : List Int)) (inner := [.int .i64 a1]) (ok := fun _ => True) (okp := fun _ => True) ?hr ?hp (fun _ hk => hk) trivial (Below.refl _ _) (Nat.le_refl _) (by simp) ?_; (case hd => rfl); (case hg => rfl); (case hr => first | (go_simp; done) | (go_simp; rfl)); (case hp => exact (Reps.one (show Kd.M (Kd.int .i64) _ _ _ a1 [.int .i64 a1] from rfl) (Reps.none _ _))); intro v1703 w23 ho24 hb hg_ hnew_; clear hg_ hnew_; (first | rw [← Ny1702.out] at ho24 | (simp only [Int.reduceToNat] at ho24; rw [← Ny1702.out] at ho24)); have HO1704 := Aside0.mk (Kd.R_lower ho24 (below_size (hB HB))); replace HB := bst_ HB hb; clear hb ho24))
     go_loopg [8, 47] kj18 (fun kq v8 v47 w' => ∃ (x8_3 : List Int) (x47_3 : Int), v47 = .int .i64 x47_3 ∧ Aside0 (spec_ReachedBy.l1 kq x8_3 l0 (l0.length : Int) x47_3 = some (r1, r2)) ∧ Aside0 (kq ≤ kj18) ∧ Aside0 (Kd.R (Kd.int .i64) 3 w' w.heap.size (fun _ => True) v8 x8_3) ∧ Aside0 (Below w.heap.size w w'))
     case atStart => exact ⟨(y1702), (0), (by first | rfl | (simp; done) | (simp [*]; done)), H', ⟨Nat.le_refl _⟩, ⟨ra HO1704.out⟩, ⟨hB HB⟩⟩
     case round =>
      clear H'
      try clear c3
      try clear c3b0
      try clear c22
      obtain ⟨x8_3, x47_3, rfl, HA, HK3, HO_8, HB⟩ := hrel
      cases gk with
      | zero => exact absurd HA.out (by simp [spec_ReachedBy.l1])
      | succ k3 =>
       have H := HA.out
       clear HA
       simp only [spec_ReachedBy.l1] at H
       by_cases c25 : x47_3 < (l0.length : Int)
       rotate_left
       ·rw [if_neg c25] at H
        have c25b0 : decide (x47_3 < (l0.length : Int)) = false := decide_eq_false c25
        clear c25
        simp only [Option.some.injEq, Prod.mk.injEq] at H
        obtain ⟨rfl, rfl⟩ := H
        go_wp2
        go_ret2
        exact ⟨_, by first | rfl | (simp [errW_none, errW_some] <;> rfl) | (simp [*, errW_none, errW_some] <;> rfl), by (with_reducible repeat (first | apply Kd.R_alloc | apply Kd.R_drewN | apply Kd.R_drew)); exact HO_8.out, by repeat (first | (with_reducible first | exact HB.out | apply below_alloc | apply pw_below_drewN | apply below_drew1) | exact HB.out)⟩
       rw [if_pos c25] at H
       have c25b0 : decide (x47_3 < (l0.length : Int)) = true := decide_eq_true c25
       clear c25
       by_cases c26 : 0 ≤ x47_3
       rotate_left
       ·rw [if_neg c26] at H
        exact absurd H (by simp)
       rw [if_pos c26] at H
       have c26b0 : decide (0 ≤ x47_3) = true := decide_eq_true c26
       clear c26
       by_cases c27 : x47_3 < (l0.length : Int)
       rotate_left
       ·rw [if_neg c27] at H
        exact absurd H (by simp)
       rw [if_pos c27] at H
       have c27b0 : decide (x47_3 < (l0.length : Int)) = true := decide_eq_true c27
       clear c27
       replace H := Option.bind_eq_some_iff.mp H
       obtain ⟨t1707, A280, H⟩ := H
       replace H : (if t1707 = true then ((spec_l1Put.f k3 x8_3 ((rd_T76 l0 x47_3).f1)).bind fun t1708 => (spec_ReachedBy.l1 k3 t1708 l0 (l0.length : Int) (wrap64 (x47_3 + 1)))) else (spec_ReachedBy.l1 k3 x8_3 l0 (l0.length : Int) (wrap64 (x47_3 + 1)))) = some (r1, r2) := H
       have A28 := Aside0.mk A280
       clear A280
       by_cases c29 : t1707 = true
       rotate_left
       ·replace c29 := Bool.eq_false_iff.mpr c29
        subst c29
        rw [if_neg (show ¬ (false = true) by decide)] at H
        have H' := Aside0.mk H
        clear H
        have p1705 : 0 ≤ (x47_3 : Int) := of_decide_eq_true (by first | (with_reducible assumption) | assumption)
        have q1705 : x47_3 < (l0.length : Int) := of_decide_eq_true (by first | (with_reducible assumption) | assumption)
        obtain ⟨ad1705, e1705, hx1705_0, hx1705_1⟩ := at_T76 HR0.out x47_3 p1705 q1705
        cases e1705
        replace hx1705_0 := (HB.out.cell (World.block_lt_of_cell? w _ hx1705_0)).trans hx1705_0
        replace hx1705_1 := (HB.out.cell (World.block_lt_of_cell? w _ hx1705_1)).trans hx1705_1
        replace p1705 := eq_true p1705
        replace q1705 := eq_true q1705
        go_wp2_with (first | ((with_reducible refine gate_dst (N := 10) rfl ?_); refine box_event ?hg (N := 10) ?hd (cs := #[.int .i64 0, .int .i64 0]) (t := 76) ?hr ?_; (case hd => rfl); (case hg => rfl); (case hr => first | (go_simp; done) | (go_simp; rfl)); intro gb1706 hg w37 hbox hb; have BK1706 := Aside0.mk (hbox); have GW1706 := gw_ hg HB; have GE1706 := gw_ hg HB; replace HO_8 := rb_ HO_8 hb; replace HB := bst_ HB hb; clear hb hbox hg; have hcz38_0 : w37.cell? ⟨gb1706, 0, none⟩ = some (.int .i64 0) := bc_ BK1706 0; have hcz38_1 : w37.cell? ⟨gb1706, 1, none⟩ = some (.int .i64 0) := bc_ BK1706 1; have hfz38_0 := blk_frozen BK1706.out 0; have hfz38_1 := blk_frozen BK1706.out 1; obtain ⟨Ao39, co39, eo39⟩ := Kd.R_slice HO_8.out; subst eo39) | ((with_reducible refine gate_callee (f := 100) rfl ?_); refine goesL_ (some 54) rfl rfl Try.func100 (by kernel_rfl) rfl #[.slice Ao39 x8_3.length co39, .int .i64 ((rd_T76 l0 x47_3).f0)] rfl tm_ ?_; (with_reducible refine (spec_l1Has.calls k3 _ _ x8_3 ((rd_T76 l0 x47_3).f0) false _ ?side1 ?side2 A28.out).mono ?_); (case side1 => exact rr_ (Kd.R_mono (Kd.R_far (p := ⟨gb1706, 1, none⟩) (Kd.R_far (p := ⟨gb1706, 0, none⟩) (Kd.R_types HO_8.out BK1706.out (by decide)) (fun _ hk => hk.2) (.int .i64 ((rd_T76 l0 x47_3).f0))) (fun _ hk => hk.2) (.int .i64 ((rd_T76 l0 x47_3).f1))) (fun _ h_ => h_.1))); (case side2 => exact (Kd.R_reads' HO_8.out).2.1); rintro e w' ⟨rfl, ⟨nd, rfl⟩⟩; refine ⟨_, rfl, ?_⟩))
        go_roundg k3
        case measure => have := HK1.out; have := HJ18.out; have := HK3.out; omega
        case rel => exact ⟨(x8_3), (wrap64 (x47_3 + 1)), (by first | rfl | (simp; done) | (simp [*]; done)), H', ⟨by have := HK1.out; have := HJ18.out; have := HK3.out; omega⟩, ⟨by (with_reducible repeat (first | apply Kd.R_alloc | apply Kd.R_drewN | apply Kd.R_drew)); exact Kd.R_mono (Kd.R_far (p := ⟨gb1706, 1, none⟩) (Kd.R_far (p := ⟨gb1706, 0, none⟩) (Kd.R_types HO_8.out BK1706.out (by decide)) (fun _ hk => hk.2) (.int .i64 ((rd_T76 l0 x47_3).f0))) (fun _ hk => hk.2) (.int .i64 ((rd_T76 l0 x47_3).f1))) (fun _ hk => trivial)⟩, ⟨hB HB⟩⟩
       subst c29
       rw [if_pos rfl] at H
       replace H := Option.bind_eq_some_iff.mp H
       obtain ⟨t1708, A300, H⟩ := H
       replace H : (spec_ReachedBy.l1 k3 t1708 l0 (l0.length : Int) (wrap64 (x47_3 + 1))) = some (r1, r2) := H
       have A30 := Aside0.mk A300
       clear A300
       have H' := Aside0.mk H
       clear H
       have p1705 : 0 ≤ (x47_3 : Int) := of_decide_eq_true (by first | (with_reducible assumption) | assumption)
       have q1705 : x47_3 < (l0.length : Int) := of_decide_eq_true (by first | (with_reducible assumption) | assumption)
       obtain ⟨ad1705, e1705, hx1705_0, hx1705_1⟩ := at_T76 HR0.out x47_3 p1705 q1705
       cases e1705
       replace hx1705_0 := (HB.out.cell (World.block_lt_of_cell? w _ hx1705_0)).trans hx1705_0
       replace hx1705_1 := (HB.out.cell (World.block_lt_of_cell? w _ hx1705_1)).trans hx1705_1
       replace p1705 := eq_true p1705
       replace q1705 := eq_true q1705
       go_wp2_with (first | ((with_reducible refine gate_dst (N := 10) rfl ?_); refine box_event ?hg (N := 10) ?hd (cs := #[.int .i64 0, .int .i64 0]) (t := 76) ?hr ?_; (case hd => rfl); (case hg => rfl); (case hr => first | (go_simp; done) | (go_simp; rfl)); intro gb1706 hg w31 hbox hb; have BK1706 := Aside0.mk (hbox); have GW1706 := gw_ hg HB; have GE1706 := gw_ hg HB; replace HO_8 := rb_ HO_8 hb; replace HB := bst_ HB hb; clear hb hbox hg; have hcz32_0 : w31.cell? ⟨gb1706, 0, none⟩ = some (.int .i64 0) := bc_ BK1706 0; have hcz32_1 : w31.cell? ⟨gb1706, 1, none⟩ = some (.int .i64 0) := bc_ BK1706 1; have hfz32_0 := blk_frozen BK1706.out 0; have hfz32_1 := blk_frozen BK1706.out 1) | ((with_reducible refine gate_store (t := 76) (p := 10) rfl ?_); refine store_event (t := 76) (p := 10) (v := ?vo_w33) (w1 := ((w31.setCell ⟨gb1706, 0, none⟩ (.int .i64 ((rd_T76 l0 x47_3).f0))).setCell ⟨gb1706, 1, none⟩ (.int .i64 ((rd_T76 l0 x47_3).f1)))) ?hg ?ho ?hn ?hr ?_; (case ho => rfl); (case hg => rfl); (case hn => rfl); (case hr => first | (go_simp; done) | (go_simp; rfl)); intro w33 hw; have n0_ : Aside0 (Kd.R (Kd.int .i64) 3 w33 w.heap.size (fun _ => True) u8 x8_3) := ⟨(by rw [hw]; exact (ra (Kd.R_mono (Kd.R_far (p := ⟨gb1706, 1, none⟩) (Kd.R_far (p := ⟨gb1706, 0, none⟩) (Kd.R_types HO_8.out BK1706.out (by decide)) (fun _ hk => hk.2) (.int .i64 ((rd_T76 l0 x47_3).f0))) (fun _ hk => hk.2) (.int .i64 ((rd_T76 l0 x47_3).f1))) (fun _ hk => trivial))))⟩; have n1_ : Aside0 (w33.heap[gb1706]? = some (.cells #[.int .i64 ((rd_T76 l0 x47_3).f0), .int .i64 ((rd_T76 l0 x47_3).f1)] 76 (0, 0))) := ⟨(by rw [hw]; exact (by (with_reducible repeat (first | refine blk_drewN ?_ _ | refine blk_drew ?_ | refine blk_alloc ?_ _)); refine blk_put (cs := #[.int .i64 ((rd_T76 l0 x47_3).f0), .int .i64 0]) ?_ 1 _ rfl; (with_reducible repeat (first | refine blk_drewN ?_ _ | refine blk_drew ?_ | refine blk_alloc ?_ _)); refine blk_put (cs := #[.int .i64 0, .int .i64 0]) ?_ 0 _ rfl; (with_reducible repeat (first | refine blk_drewN ?_ _ | refine blk_drew ?_ | refine blk_alloc ?_ _)); exact BK1706.out))⟩; have n2_ : Aside0 (Below w.heap.size w w33) := ⟨(by rw [hw]; exact (hB HB))⟩; clear hw; clear HO_8; clear BK1706; clear HB; have HO_8 := n0_; have BK1706 := n1_; have HB := n2_; clear n0_ n1_ n2_; have hcz34_0 : w33.cell? ⟨gb1706, 0, none⟩ = some (.int .i64 ((rd_T76 l0 x47_3).f0)) := bc_ BK1706 0; have hcz34_1 : w33.cell? ⟨gb1706, 1, none⟩ = some (.int .i64 ((rd_T76 l0 x47_3).f1)) := bc_ BK1706 1; have hfz34_0 := blk_frozen BK1706.out 0; have hfz34_1 := blk_frozen BK1706.out 1; obtain ⟨Ao35, co35, eo35⟩ := Kd.R_slice HO_8.out; subst eo35) | ((with_reducible refine gate_callee (f := 100) rfl ?_); refine goesL_ (some 54) rfl rfl Try.func100 (by kernel_rfl) rfl #[.slice Ao35 x8_3.length co35, .int .i64 ((rd_T76 l0 x47_3).f0)] rfl tm_ ?_; (with_reducible refine (spec_l1Has.calls k3 _ _ x8_3 ((rd_T76 l0 x47_3).f0) true _ ?side1 ?side2 A28.out).mono ?_); (case side1 => exact ca (Kd.R_reads' HO_8.out).2.2); (case side2 => exact (Kd.R_reads' HO_8.out).2.1); rintro e w' ⟨rfl, ⟨nd, rfl⟩⟩; refine ⟨_, rfl, ?_⟩) | ((with_reducible refine gate_callee (f := 108) rfl ?_); refine goesL_ (some 58) rfl rfl Try.func108 (by kernel_rfl) rfl #[.slice Ao35 x8_3.length co35, .int .i64 ((rd_T76 l0 x47_3).f1)] rfl tm_ ?_; (with_reducible refine (spec_l1Put.calls k3 (fun k_ => some k_ = (.slice Ao35 x8_3.length co35 : Value).ownBlock) (.slice Ao35 x8_3.length co35) x8_3 ((rd_T76 l0 x47_3).f1) t1708 w _ ?side1 ?side2 A30.out).mono ?_); (case side1 => repeat (first | (with_reducible first | exact HB.out | apply below_alloc | apply pw_below_drewN | apply below_drew1 | refine below_set ?_ GE1706.out) | exact HB.out)); (case side2 => exact Kd.R_tight rfl HO_8.out); rintro e w36 ⟨v1709, rfl, ho0, hb, hkp⟩; refine ⟨_, rfl, ?_⟩; have HO1710 := Aside0.mk (Kd.R_mono (ok' := fun k_ => True) ho0 (fun k_ hk_ => trivial)); replace BK1706 := Aside0.mk (blk_kept (ba BK1706.out) hkp (fun hs_ => (fun e_ => (Kd.R_ne HO_8.out BK1706.out (by decide)) e_) hs_)); replace HB := Aside0.mk (hb); clear HO_8; clear hb ho0))
       go_roundg k3
       case measure => have := HK1.out; have := HJ18.out; have := HK3.out; omega
       case rel => exact ⟨(t1708), (wrap64 (x47_3 + 1)), (by first | rfl | (simp; done) | (simp [*]; done)), H', ⟨by have := HK1.out; have := HJ18.out; have := HK3.out; omega⟩, ⟨ra HO1710.out⟩, ⟨hB HB⟩⟩

end Go.Proofs.Ytfkjnpgpofcinaa.P
