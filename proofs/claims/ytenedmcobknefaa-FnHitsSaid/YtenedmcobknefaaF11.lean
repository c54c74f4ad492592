import Derived.Test.YtenedmcobknefaaF0
import Derived.Test.YtenedmcobknefaaF1
import Derived.Test.YtenedmcobknefaaF3
import Derived.Test.YtenedmcobknefaaF8
namespace Go.Proofs.Ytenedmcobknefaa.P
open Go.RowKit Go.Proofs.YtenedmcobknefaaW.PrintWords Go.Proofs.YtenedmcobknefaaW.PrintLast Go.Proofs.YtenedmcobknefaaW.PrintMore
attribute [local go_sem] max2_int min2_int max_two min_two max_three min_three max_four min_four   -- for this text's walks alone
set_option linter.unusedVariables false
set_option linter.unusedSimpArgs false
attribute [local go_sem high] eqA27

mutual
def spec_DropOld.j0 : Nat → Int → Int → Bool → Int → List (S27) → Option (Int × (List (S27)) × Bool)
 | 0, _, _, _, _, _ => none
 | k + 1, x1, x2, x23, x400000, x400001 => if x23 = true then (some (0, ([] : List (S27)), false)) else (spec_DropOld.l0 k x1 x2 x400001 (x400001.length : Int) 0 x400000 ([] : List (S27)))
def spec_DropOld.l0 : Nat → Int → Int → List (S27) → Int → Int → Int → List (S27) → Option (Int × (List (S27)) × Bool)
 | 0, _, _, _, _, _, _, _ => none
 | k + 1, x1, x2, x29, x30, x31, x405000, x405001 => if x31 < x30 then (if 0 ≤ x31 then (if x31 < (x29.length : Int) then (if ((rd_T27 x29 x31).f2) ≥ (wrap64 (x1 - x2)) then (if x405001.length < 5864062014805 then (spec_DropOld.l0 k x1 x2 x29 x30 (wrap64 (x31 + 1)) x405000 (x405001 ++ [(⟨(rd_T27 x29 x31).f0, (rd_T27 x29 x31).f1, (rd_T27 x29 x31).f2⟩ : S27)])) else (none)) else (spec_DropOld.l0 k x1 x2 x29 x30 (wrap64 (x31 + 1)) x405000 x405001)) else (none)) else (none)) else (some (x405000, x405001, true))
end
def spec_DropOld.f (k : Nat) (a0_0 : Int) (l0_1 : List (S27)) (a1 : Int) (a2 : Int) : Option (Int × (List (S27)) × Bool) := (spec_GoodTable.f k a0_0 l0_1).bind fun t401 => (if t401 = true then ((spec_l1In.f a1 0 10000).bind fun t402 => (if t402 = true then ((spec_l1In.f a2 0 10000).bind fun t403 => (spec_DropOld.j0 k a1 a2 (!t403) a0_0 l0_1)) else (spec_DropOld.j0 k a1 a2 true a0_0 l0_1))) else (spec_DropOld.j0 k a1 a2 true a0_0 l0_1))
theorem spec_DropOld.mono_l : ∀ k, (∀ y0 y1 y2 y3 y4, LeO (spec_DropOld.j0 k y0 y1 y2 y3 y4) (spec_DropOld.j0 (k + 1) y0 y1 y2 y3 y4)) ∧ (∀ y0 y1 y2 y3 y4 y5 y6, LeO (spec_DropOld.l0 k y0 y1 y2 y3 y4 y5 y6) (spec_DropOld.l0 (k + 1) y0 y1 y2 y3 y4 y5 y6))
 | 0 => ⟨fun _ _ _ _ _ r h => by simp [spec_DropOld.j0] at h, fun _ _ _ _ _ _ _ r h => by simp [spec_DropOld.l0] at h⟩
 | k + 1 => by
  obtain ⟨ih0, ih1⟩ := spec_DropOld.mono_l k
  refine ⟨?_, ?_⟩
  ·intro y0 y1 y2 y3 y4
   unfold spec_DropOld.j0
   repeat' first
   | (with_reducible exact ih0 _ _ _ _ _)
   | (with_reducible exact ih1 _ _ _ _ _ _ _)
   | (with_reducible exact spec_GoodTable.mono _ _ _)
   | with_reducible first | exact LeO.refl _ | exact LeO.none _ | refine LeO.ite ?_ ?_ | refine LeO.bind ?_ fun _ => ?_
  ·intro y0 y1 y2 y3 y4 y5 y6
   unfold spec_DropOld.l0
   repeat' first
   | (with_reducible exact ih0 _ _ _ _ _)
   | (with_reducible exact ih1 _ _ _ _ _ _ _)
   | (with_reducible exact spec_GoodTable.mono _ _ _)
   | with_reducible first | exact LeO.refl _ | exact LeO.none _ | refine LeO.ite ?_ ?_ | refine LeO.bind ?_ fun _ => ?_
theorem spec_DropOld.mono : ∀ a0 a1 a2 a3 k, LeO (spec_DropOld.f k a0 a1 a2 a3) (spec_DropOld.f (k + 1) a0 a1 a2 a3) := by
 intro a0 a1 a2 a3 k
 obtain ⟨ih0, ih1⟩ := spec_DropOld.mono_l k
 unfold spec_DropOld.f
 repeat' first
   | (with_reducible exact ih0 _ _ _ _ _)
   | (with_reducible exact ih1 _ _ _ _ _ _ _)
   | (with_reducible exact spec_GoodTable.mono _ _ _)
   | with_reducible first | exact LeO.refl _ | exact LeO.none _ | refine LeO.ite ?_ ?_ | refine LeO.bind ?_ fun _ => ?_
set_option maxHeartbeats 8000000 in
set_option maxRecDepth 100000 in
theorem spec_DropOld.calls (k : Nat) (a0_0 : Int) (A0_1 : Option Addr) (c0_1 : Nat) (l0_1 : List (S27)) (a1 : Int) (a2 : Int) (r1 : Int) (r2 : List (S27)) (r3 : Bool) (w : World) (hr0_1 : Kd.C k27 w A0_1 l0_1.length l0_1) (hc0_1 : l0_1.length ≤ c0_1) (h : spec_DropOld.f k a0_0 l0_1 a1 a2 = some (r1, r2, r3)) :
  Calls Try.prog 16 #[.agg #[.int .i64 a0_0, .slice A0_1 l0_1.length c0_1], .int .i64 a1, .int .i64 a2] w fun e w' => ∃ v1_ : Value, e = .returned (.tuple #[.agg #[.int .i64 r1, v1_], .bool r3]) ∧ Kd.R k27 27 w' w.heap.size (fun _ => True) v1_ r2 ∧ Below w.heap.size w w' := by
 have hu25 := Try.underlying25
 have hu27 := Try.underlying27
 have HR0_1 := Aside0.mk hr0_1
 have HC0_1 := Aside0.mk hc0_1
 clear hr0_1 hc0_1
 have HB := Aside0.mk (Below.refl w.heap.size w)
 have H : ((spec_GoodTable.f k a0_0 l0_1).bind fun t401 => (if t401 = true then ((spec_l1In.f a1 0 10000).bind fun t402 => (if t402 = true then ((spec_l1In.f a2 0 10000).bind fun t403 => (spec_DropOld.j0 k a1 a2 (!t403) a0_0 l0_1)) else (spec_DropOld.j0 k a1 a2 true a0_0 l0_1))) else (spec_DropOld.j0 k a1 a2 true a0_0 l0_1))) = some (r1, r2, r3) := h
 clear h
 have HC4 := Aside0.mk H
 clear H
 go_enter Try.func16, Try.ntmps16
 go_upto_region 1 with (first | ((with_reducible refine gate_dst (N := 3) rfl ?_); refine box_event ?hg (N := 3) ?hd (cs := #[.int .i64 a0_0, .slice A0_1 l0_1.length c0_1]) (t := 25) ?hr ?_; (case hd => rfl); (case hg => rfl); (case hr => first | (go_simp; done) | (go_simp; rfl)); intro gb399 hg w5 hbox hb; have BK399 := Aside0.mk (hbox); have GW399 := gw_ hg HB; have GE399 := gw_ hg HB; replace HB := bst_ HB hb; clear hb hbox hg) | ((with_reducible refine gate_dst (N := 6) rfl ?_); refine box_event ?hg (N := 6) ?hd (cs := #[.int .i64 0, .slice none 0 0]) (t := 25) ?hr ?_; (case hd => rfl); (case hg => rfl); (case hr => first | (go_simp; done) | (go_simp; rfl)); intro gb400 hg w6 hbox hb; have BK400 := Aside0.mk (hbox); have GW400 := gw_ hg HB; have GE400 := gw_ hg HB; have NB399_400 := nl_ hg BK399; have NB400_399 := ng_ hg BK399; replace BK399 := bb_ BK399 hb; replace HB := bst_ HB hb; clear hb hbox hg))
 (try simp only [Act.put, List.setIfInBounds_toArray, List.set_cons_zero, List.set_cons_succ])
 go_cut [23] (fun v23 wc => ∃ (kq : Nat) (x23_3 : Bool), v23 = .bool x23_3 ∧ Aside0 (spec_DropOld.j0 kq a1 a2 x23_3 a0_0 l0_1 = some (r1, r2, r3)) ∧ Aside0 (kq ≤ k) ∧ Aside0 (wc.heap[gb399]? = some (.cells #[.int .i64 a0_0, (.slice A0_1 l0_1.length c0_1)] 25 (0, 0))) ∧ Aside0 (wc.heap[gb400]? = some (.cells #[.int .i64 0, (.slice none 0 0)] 25 (0, 0))) ∧ Aside0 (Below w.heap.size w wc))
 case first =>
  have H := HC4.out
  clear HC4
  replace H := Option.bind_eq_some_iff.mp H
  obtain ⟨t401, A70, H⟩ := H
  replace H : (if t401 = true then ((spec_l1In.f a1 0 10000).bind fun t402 => (if t402 = true then ((spec_l1In.f a2 0 10000).bind fun t403 => (spec_DropOld.j0 k a1 a2 (!t403) a0_0 l0_1)) else (spec_DropOld.j0 k a1 a2 true a0_0 l0_1))) else (spec_DropOld.j0 k a1 a2 true a0_0 l0_1)) = some (r1, r2, r3) := H
  have A7 := Aside0.mk A70
  clear A70
  by_cases c8 : t401 = true
  rotate_left
  ·replace c8 := Bool.eq_false_iff.mpr c8
   subst c8
   rw [if_neg (show ¬ (false = true) by decide)] at H
   have H' := Aside0.mk H
   clear H
   have hnb18 := NB399_400.out
   have hnc18 := NB400_399.out
   have hcz19_0 : w6.cell? ⟨gb399, 0, none⟩ = some (.int .i64 a0_0) := bc_ BK399 0
   have hcz19_1 : w6.cell? ⟨gb399, 1, none⟩ = some (.slice A0_1 l0_1.length c0_1) := bc_ BK399 1
   have hfz19_0 := blk_frozen BK399.out 0
   have hfz19_1 := blk_frozen BK399.out 1
   go_wp2_with (first | (refine goesL_ (some 12) rfl rfl Try.func9 (by kernel_rfl) rfl #[.agg #[.int .i64 a0_0, .slice A0_1 l0_1.length c0_1]] rfl tm_ ?_; (with_reducible refine (spec_GoodTable.calls k a0_0 _ _ l0_1 false _ ?side1 ?side2 A7.out).mono ?_); (case side1 => exact cb_ HR0_1 HB); (case side2 => exact HC0_1.out); rintro e w20 ⟨rfl, hb⟩; refine ⟨_, rfl, ?_⟩; replace BK399 := bb_ BK399 hb; replace BK400 := bb_ BK400 hb; replace HB := bst_ HB hb; clear hb))
   go_meet
   case rel => exact ⟨_, (true), (by first | rfl | (simp; done) | (simp [*]; done)), H', ⟨by first | omega | exact Nat.le_refl _⟩, ⟨by (with_reducible repeat (first | refine blk_drewN ?_ _ | refine blk_drew ?_ | refine blk_alloc ?_ _)); exact BK399.out⟩, ⟨by (with_reducible repeat (first | refine blk_drewN ?_ _ | refine blk_drew ?_ | refine blk_alloc ?_ _)); exact BK400.out⟩, ⟨hB HB⟩⟩
  subst c8
  rw [if_pos rfl] at H
  replace H := Option.bind_eq_some_iff.mp H
  obtain ⟨t402, A90, H⟩ := H
  replace H : (if t402 = true then ((spec_l1In.f a2 0 10000).bind fun t403 => (spec_DropOld.j0 k a1 a2 (!t403) a0_0 l0_1)) else (spec_DropOld.j0 k a1 a2 true a0_0 l0_1)) = some (r1, r2, r3) := H
  have A9 := Aside0.mk A90
  clear A90
  by_cases c10 : t402 = true
  rotate_left
  ·replace c10 := Bool.eq_false_iff.mpr c10
   subst c10
   rw [if_neg (show ¬ (false = true) by decide)] at H
   have H' := Aside0.mk H
   clear H
   have hnb15 := NB399_400.out
   have hnc15 := NB400_399.out
   have hcz16_0 : w6.cell? ⟨gb399, 0, none⟩ = some (.int .i64 a0_0) := bc_ BK399 0
   have hcz16_1 : w6.cell? ⟨gb399, 1, none⟩ = some (.slice A0_1 l0_1.length c0_1) := bc_ BK399 1
   have hfz16_0 := blk_frozen BK399.out 0
   have hfz16_1 := blk_frozen BK399.out 1
   go_wp2_with (first | (refine goesL_ (some 12) rfl rfl Try.func9 (by kernel_rfl) rfl #[.agg #[.int .i64 a0_0, .slice A0_1 l0_1.length c0_1]] rfl tm_ ?_; (with_reducible refine (spec_GoodTable.calls k a0_0 _ _ l0_1 true _ ?side1 ?side2 A7.out).mono ?_); (case side1 => exact cb_ HR0_1 HB); (case side2 => exact HC0_1.out); rintro e w17 ⟨rfl, hb⟩; refine ⟨_, rfl, ?_⟩; replace BK399 := bb_ BK399 hb; replace BK400 := bb_ BK400 hb; replace HB := bst_ HB hb; clear hb) | (go_at_call 28; (with_reducible refine (spec_l1In.calls a1 0 10000 false _ A9.out).mono ?_); rintro e w' ⟨rfl, ⟨nd, rfl⟩⟩))
   go_meet
   case rel => exact ⟨_, (true), (by first | rfl | (simp; done) | (simp [*]; done)), H', ⟨by first | omega | exact Nat.le_refl _⟩, ⟨by (with_reducible repeat (first | refine blk_drewN ?_ _ | refine blk_drew ?_ | refine blk_alloc ?_ _)); exact BK399.out⟩, ⟨by (with_reducible repeat (first | refine blk_drewN ?_ _ | refine blk_drew ?_ | refine blk_alloc ?_ _)); exact BK400.out⟩, ⟨hB HB⟩⟩
  subst c10
  rw [if_pos rfl] at H
  replace H := Option.bind_eq_some_iff.mp H
  obtain ⟨t403, A110, H⟩ := H
  replace H : (spec_DropOld.j0 k a1 a2 (!t403) a0_0 l0_1) = some (r1, r2, r3) := H
  have A11 := Aside0.mk A110
  clear A110
  have H' := Aside0.mk H
  clear H
  have hnb12 := NB399_400.out
  have hnc12 := NB400_399.out
  have hcz13_0 : w6.cell? ⟨gb399, 0, none⟩ = some (.int .i64 a0_0) := bc_ BK399 0
  have hcz13_1 : w6.cell? ⟨gb399, 1, none⟩ = some (.slice A0_1 l0_1.length c0_1) := bc_ BK399 1
  have hfz13_0 := blk_frozen BK399.out 0
  have hfz13_1 := blk_frozen BK399.out 1
  go_wp2_with (first | (refine goesL_ (some 12) rfl rfl Try.func9 (by kernel_rfl) rfl #[.agg #[.int .i64 a0_0, .slice A0_1 l0_1.length c0_1]] rfl tm_ ?_; (with_reducible refine (spec_GoodTable.calls k a0_0 _ _ l0_1 true _ ?side1 ?side2 A7.out).mono ?_); (case side1 => exact cb_ HR0_1 HB); (case side2 => exact HC0_1.out); rintro e w14 ⟨rfl, hb⟩; refine ⟨_, rfl, ?_⟩; replace BK399 := bb_ BK399 hb; replace BK400 := bb_ BK400 hb; replace HB := bst_ HB hb; clear hb) | (go_at_call 28; (with_reducible refine (spec_l1In.calls a1 0 10000 true _ A9.out).mono ?_); rintro e w' ⟨rfl, ⟨nd, rfl⟩⟩) | (go_at_call 28; (with_reducible refine (spec_l1In.calls a2 0 10000 t403 _ A11.out).mono ?_); rintro e w' ⟨rfl, ⟨nd, rfl⟩⟩))
  go_meet
  case rel => exact ⟨_, (!t403), (by first | rfl | (simp; done) | (simp [*]; done)), H', ⟨by first | omega | exact Nat.le_refl _⟩, ⟨by (with_reducible repeat (first | refine blk_drewN ?_ _ | refine blk_drew ?_ | refine blk_alloc ?_ _)); exact BK399.out⟩, ⟨by (with_reducible repeat (first | refine blk_drewN ?_ _ | refine blk_drew ?_ | refine blk_alloc ?_ _)); exact BK400.out⟩, ⟨hB HB⟩⟩
 case rest =>
  clear HC4
  obtain ⟨kq, x23_3, rfl, HA, HJ3, BK399, BK400, HB⟩ := hcut
  cases kq with
  | zero => exact absurd HA.out (by simp [spec_DropOld.j0])
  | succ kj3 =>
   have H := HA.out
   clear HA
   simp only [spec_DropOld.j0] at H
   by_cases c21 : x23_3 = true
   ·subst c21
    rw [if_pos rfl] at H
    simp only [Option.some.injEq, Prod.mk.injEq] at H
    obtain ⟨rfl, rfl, rfl⟩ := H
    have hnb22 := NB400_399.out
    have hnc22 := NB399_400.out
    have hcz23_0 : wc.cell? ⟨gb400, 0, none⟩ = some (.int .i64 0) := bc_ BK400 0
    have hcz23_1 : wc.cell? ⟨gb400, 1, none⟩ = some (.slice none 0 0) := bc_ BK400 1
    have hfz23_0 := blk_frozen BK400.out 0
    have hfz23_1 := blk_frozen BK400.out 1
    go_wp2
    refine bodyPost_ret (results_ct rfl _ _ gb400 25 #[.int .i64 0, .slice none 0 0] (0, 0) _ rfl (by (with_reducible repeat (first | refine blk_drewN ?_ _ | refine blk_drew ?_ | refine blk_alloc ?_ _)); refine blk_put (cs := #[.int .i64 0, .slice none 0 0]) ?_ 1 _ rfl; (with_reducible repeat (first | refine blk_drewN ?_ _ | refine blk_drew ?_ | refine blk_alloc ?_ _)); refine blk_put (cs := #[.int .i64 0, .slice none 0 0]) ?_ 0 _ rfl; (with_reducible repeat (first | refine blk_drewN ?_ _ | refine blk_drew ?_ | refine blk_alloc ?_ _)); exact BK400.out) Try.underlying25 rfl (by kernel_rfl)) rfl ?_
    exact ⟨_, rt_, by first | exact Kd.R_nil _ _ _ _ _ | exact Kd.N_nil _ _ _ _ _ | exact Kd.V_nil _ _ _ _ _ | exact Kd.Q_nil _ _ _ _ _ | exact Kd.S_nil _ _ _ _ _, hB HB⟩
   replace c21 := Bool.eq_false_iff.mpr c21
   subst c21
   rw [if_neg (show ¬ (false = true) by decide)] at H
   have H' := Aside0.mk H
   clear H
   have hnb24 := NB399_400.out
   have hnc24 := NB400_399.out
   have hcz25_0 : wc.cell? ⟨gb399, 0, none⟩ = some (.int .i64 a0_0) := bc_ BK399 0
   have hcz25_1 : wc.cell? ⟨gb399, 1, none⟩ = some (.slice A0_1 l0_1.length c0_1) := bc_ BK399 1
   have hfz25_0 := blk_frozen BK399.out 0
   have hfz25_1 := blk_frozen BK399.out 1
   go_wp2_with (first | ((with_reducible refine gate_dst (N := 8) rfl ?_); refine box_event ?hg (N := 8) ?hd (cs := #[.int .i64 0, .slice none 0 0]) (t := 25) ?hr ?_; (case hd => rfl); (case hg => rfl); (case hr => first | (go_simp; done) | (go_simp; rfl)); intro gb404 hg w26 hbox hb; have BK404 := Aside0.mk (hbox); have GW404 := gw_ hg HB; have GE404 := gw_ hg HB; have NB399_404 := nl_ hg BK399; have NB404_399 := ng_ hg BK399; have NB400_404 := nl_ hg BK400; have NB404_400 := ng_ hg BK400; replace BK399 := bb_ BK399 hb; replace BK400 := bb_ BK400 hb; replace HB := bst_ HB hb; clear hb hbox hg; have hnb27 := NB404_399.out; have hnc27 := NB399_404.out; have hnb28 := NB404_400.out; have hnc28 := NB400_404.out; obtain ⟨hcz29_0, hcz29_1⟩ := bcs2_ BK404; have hfz29_0 := blk_frozen BK404.out 0; have hfz29_1 := blk_frozen BK404.out 1; obtain ⟨hcz30_0, hcz30_1⟩ := bcs2_ BK399))
   go_loopg [31] kj3 (fun kq v31 w' => ∃ (x31_2 : Int) (x405001_2 : List (S27)) (u405001 : Value), v31 = .int .i64 x31_2 ∧ Aside0 (spec_DropOld.l0 kq a1 a2 l0_1 (l0_1.length : Int) x31_2 a0_0 x405001_2 = some (r1, r2, r3)) ∧ Aside0 (kq ≤ kj3) ∧ Aside0 (Kd.R k27 27 w' w.heap.size (fun _ => True) u405001 x405001_2) ∧ Aside0 (w'.heap[gb399]? = some (.cells #[.int .i64 a0_0, (.slice A0_1 l0_1.length c0_1)] 25 (0, 0))) ∧ Aside0 (w'.heap[gb400]? = some (.cells #[.int .i64 0, (.slice none 0 0)] 25 (0, 0))) ∧ Aside0 (w'.heap[gb404]? = some (.cells #[.int .i64 a0_0, u405001] 25 (0, 0))) ∧ Aside0 (Below w.heap.size w w'))
   case atStart => exact ⟨(0), (([] : List (S27))), (.slice none 0 0), (by first | rfl | (simp; done) | (simp [*]; done)), H', ⟨Nat.le_refl _⟩, ⟨by first | exact Kd.R_nil _ _ _ _ _ | exact Kd.N_nil _ _ _ _ _ | exact Kd.V_nil _ _ _ _ _ | exact Kd.Q_nil _ _ _ _ _ | exact Kd.S_nil _ _ _ _ _⟩, ⟨by (with_reducible repeat (first | refine blk_drewN ?_ _ | refine blk_drew ?_ | refine blk_alloc ?_ _)); refine blk_far ?_ NB399_404.out _; (with_reducible repeat (first | refine blk_drewN ?_ _ | refine blk_drew ?_ | refine blk_alloc ?_ _)); refine blk_far ?_ NB399_404.out _; (with_reducible repeat (first | refine blk_drewN ?_ _ | refine blk_drew ?_ | refine blk_alloc ?_ _)); exact BK399.out⟩, ⟨by (with_reducible repeat (first | refine blk_drewN ?_ _ | refine blk_drew ?_ | refine blk_alloc ?_ _)); refine blk_far ?_ NB400_404.out _; (with_reducible repeat (first | refine blk_drewN ?_ _ | refine blk_drew ?_ | refine blk_alloc ?_ _)); refine blk_far ?_ NB400_404.out _; (with_reducible repeat (first | refine blk_drewN ?_ _ | refine blk_drew ?_ | refine blk_alloc ?_ _)); exact BK400.out⟩, ⟨by (with_reducible repeat (first | refine blk_drewN ?_ _ | refine blk_drew ?_ | refine blk_alloc ?_ _)); refine blk_put (cs := #[.int .i64 a0_0, .slice none 0 0]) ?_ 1 _ rfl; (with_reducible repeat (first | refine blk_drewN ?_ _ | refine blk_drew ?_ | refine blk_alloc ?_ _)); refine blk_put (cs := #[.int .i64 0, .slice none 0 0]) ?_ 0 _ rfl; (with_reducible repeat (first | refine blk_drewN ?_ _ | refine blk_drew ?_ | refine blk_alloc ?_ _)); exact BK404.out⟩, ⟨hB HB⟩⟩
   case round =>
    clear H'
    try clear c21
    try clear hcz25_0
    try clear hcz25_1
    try clear hcz29_0
    try clear hcz29_1
    try clear hcz30_0
    try clear hcz30_1
    try clear hfz25_0
    try clear hfz25_1
    try clear hfz29_0
    try clear hfz29_1
    try clear hfz30_0
    try clear hfz30_1
    obtain ⟨x31_2, x405001_2, u405001, rfl, HA, HK2, HO_405001, BK399, BK400, BK404, HB⟩ := hrel
    cases gk with
    | zero => exact absurd HA.out (by simp [spec_DropOld.l0])
    | succ k2 =>
     have H := HA.out
     clear HA
     simp only [spec_DropOld.l0] at H
     by_cases c31 : x31_2 < (l0_1.length : Int)
     rotate_left
     ·rw [if_neg c31] at H
      have c31b0 : decide (x31_2 < (l0_1.length : Int)) = false := decide_eq_false c31
      clear c31
      simp only [Option.some.injEq, Prod.mk.injEq] at H
      obtain ⟨rfl, rfl, rfl⟩ := H
      have hnb52 := NB404_399.out
      have hnc52 := NB399_404.out
      have hnb53 := NB404_400.out
      have hnc53 := NB400_404.out
      have hcz54_0 : wr.cell? ⟨gb404, 0, none⟩ = some (.int .i64 a0_0) := bc_ BK404 0
      have hcz54_1 : wr.cell? ⟨gb404, 1, none⟩ = some (u405001) := bc_ BK404 1
      have hfz54_0 := blk_frozen BK404.out 0
      have hfz54_1 := blk_frozen BK404.out 1
      have hnb55 := NB400_399.out
      have hnc55 := NB399_400.out
      have hcz56_0 : wr.cell? ⟨gb400, 0, none⟩ = some (.int .i64 0) := bc_ BK400 0
      have hcz56_1 : wr.cell? ⟨gb400, 1, none⟩ = some (.slice none 0 0) := bc_ BK400 1
      have hfz56_0 := blk_frozen BK400.out 0
      have hfz56_1 := blk_frozen BK400.out 1
      obtain ⟨Ao57, co57, eo57⟩ := Kd.R_slice HO_405001.out
      subst eo57
      go_wp2
      refine bodyPost_ret (results_ct rfl _ _ gb400 25 #[.int .i64 a0_0, .slice Ao57 x405001_2.length co57] (0, 0) _ rfl (by (with_reducible repeat (first | refine blk_drewN ?_ _ | refine blk_drew ?_ | refine blk_alloc ?_ _)); refine blk_put (cs := #[.int .i64 a0_0, .slice none 0 0]) ?_ 1 _ rfl; (with_reducible repeat (first | refine blk_drewN ?_ _ | refine blk_drew ?_ | refine blk_alloc ?_ _)); refine blk_put (cs := #[.int .i64 0, .slice none 0 0]) ?_ 0 _ rfl; (with_reducible repeat (first | refine blk_drewN ?_ _ | refine blk_drew ?_ | refine blk_alloc ?_ _)); exact BK400.out) Try.underlying25 rfl (by kernel_rfl)) rfl ?_
      exact ⟨_, rt_, by (with_reducible repeat (first | apply Kd.R_alloc | apply Kd.R_drewN | apply Kd.R_drew)); exact Kd.R_mono (fs2_ HO_405001.out BK400.out) (fun _ hk => trivial), hB HB⟩
     rw [if_pos c31] at H
     have c31b0 : decide (x31_2 < (l0_1.length : Int)) = true := decide_eq_true c31
     clear c31
     by_cases c32 : 0 ≤ x31_2
     rotate_left
     ·rw [if_neg c32] at H
      exact absurd H (by simp)
     rw [if_pos c32] at H
     have c32b0 : decide (0 ≤ x31_2) = true := decide_eq_true c32
     clear c32
     by_cases c33 : x31_2 < (l0_1.length : Int)
     rotate_left
     ·rw [if_neg c33] at H
      exact absurd H (by simp)
     rw [if_pos c33] at H
     have c33b0 : decide (x31_2 < (l0_1.length : Int)) = true := decide_eq_true c33
     clear c33
     by_cases c34 : ((rd_T27 l0_1 x31_2).f2) ≥ (wrap64 (a1 - a2))
     rotate_left
     ·rw [if_neg c34] at H
      have c34b0 : decide ((wrap64 (a1 - a2)) ≤ ((rd_T27 l0_1 x31_2).f2)) = false := decide_eq_false c34
      clear c34
      have H' := Aside0.mk H
      clear H
      have p405 : 0 ≤ (x31_2 : Int) := od_
      have q405 : x31_2 < (l0_1.length : Int) := od_
      obtain ⟨ad405, e405, hx405_0, hx405_1, hx405_2⟩ := at_T27 HR0_1.out x31_2 p405 q405
      cases e405
      replace hx405_0 := hc_ HB hx405_0
      replace hx405_1 := hc_ HB hx405_1
      replace hx405_2 := hc_ HB hx405_2
      replace p405 := eq_true p405
      replace q405 := eq_true q405
      go_wp2_with (first | ((with_reducible refine gate_dst (N := 10) rfl ?_); refine box_event ?hg (N := 10) ?hd (cs := #[.int .i64 0, .int .i64 0, .int .i64 0]) (t := 27) ?hr ?_; (case hd => rfl); (case hg => rfl); (case hr => first | (go_simp; done) | (go_simp; rfl)); intro gb406 hg w47 hbox hb; have BK406 := Aside0.mk (hbox); have GW406 := gw_ hg HB; have GE406 := gw_ hg HB; have NB399_406 := nl_ hg BK399; have NB406_399 := ng_ hg BK399; have NB400_406 := nl_ hg BK400; have NB406_400 := ng_ hg BK400; have NB404_406 := nl_ hg BK404; have NB406_404 := ng_ hg BK404; replace HO_405001 := Aside0.mk (Kd.R_below (Kd.R_elderB (ra HO_405001.out) gb406 (Nat.le_of_eq hg.symm)) hb); replace BK399 := bb_ BK399 hb; replace BK400 := bb_ BK400 hb; replace BK404 := bb_ BK404 hb; replace HB := bst_ HB hb; clear hb hbox hg; have hnb48 := NB406_399.out; have hnc48 := NB399_406.out; have hnb49 := NB406_400.out; have hnc49 := NB400_406.out; have hnb50 := NB406_404.out; have hnc50 := NB404_406.out; obtain ⟨hcz51_0, hcz51_1, hcz51_2⟩ := bcs3_ BK406; have hfz51_0 := blk_frozen BK406.out 0; have hfz51_1 := blk_frozen BK406.out 1; have hfz51_2 := blk_frozen BK406.out 2))
      go_roundg k2
      case measure => have := HJ3.out; have := HK2.out; omega
      case rel => exact ⟨(wrap64 (x31_2 + 1)), (x405001_2), (u405001), (by first | rfl | (simp; done) | (simp [*]; done)), H', ⟨by have := HJ3.out; have := HK2.out; omega⟩, ⟨by (with_reducible repeat (first | apply Kd.R_alloc | apply Kd.R_drewN | apply Kd.R_drew)); exact Kd.R_mono (Kd.R_far (p := ⟨gb406, 2, none⟩) (Kd.R_far (p := ⟨gb406, 1, none⟩) (Kd.R_far (p := ⟨gb406, 0, none⟩) (Kd.R_mono HO_405001.out (fun k_ hk => (⟨hk, hk.2⟩ : _ ∧ k_ ≠ gb406))) (fun _ hk => hk.2) (.int .i64 ((rd_T27 l0_1 x31_2).f0))) (fun _ hk => hk.2) (.int .i64 ((rd_T27 l0_1 x31_2).f1))) (fun _ hk => hk.2) (.int .i64 ((rd_T27 l0_1 x31_2).f2))) (fun _ hk => trivial)⟩, ⟨by (with_reducible repeat (first | refine blk_drewN ?_ _ | refine blk_drew ?_ | refine blk_alloc ?_ _)); refine blk_far ?_ NB399_406.out _; (with_reducible repeat (first | refine blk_drewN ?_ _ | refine blk_drew ?_ | refine blk_alloc ?_ _)); refine blk_far ?_ NB399_406.out _; (with_reducible repeat (first | refine blk_drewN ?_ _ | refine blk_drew ?_ | refine blk_alloc ?_ _)); refine blk_far ?_ NB399_406.out _; (with_reducible repeat (first | refine blk_drewN ?_ _ | refine blk_drew ?_ | refine blk_alloc ?_ _)); exact BK399.out⟩, ⟨by (with_reducible repeat (first | refine blk_drewN ?_ _ | refine blk_drew ?_ | refine blk_alloc ?_ _)); refine blk_far ?_ NB400_406.out _; (with_reducible repeat (first | refine blk_drewN ?_ _ | refine blk_drew ?_ | refine blk_alloc ?_ _)); refine blk_far ?_ NB400_406.out _; (with_reducible repeat (first | refine blk_drewN ?_ _ | refine blk_drew ?_ | refine blk_alloc ?_ _)); refine blk_far ?_ NB400_406.out _; (with_reducible repeat (first | refine blk_drewN ?_ _ | refine blk_drew ?_ | refine blk_alloc ?_ _)); exact BK400.out⟩, ⟨by (with_reducible repeat (first | refine blk_drewN ?_ _ | refine blk_drew ?_ | refine blk_alloc ?_ _)); refine blk_far ?_ NB404_406.out _; (with_reducible repeat (first | refine blk_drewN ?_ _ | refine blk_drew ?_ | refine blk_alloc ?_ _)); refine blk_far ?_ NB404_406.out _; (with_reducible repeat (first | refine blk_drewN ?_ _ | refine blk_drew ?_ | refine blk_alloc ?_ _)); refine blk_far ?_ NB404_406.out _; (with_reducible repeat (first | refine blk_drewN ?_ _ | refine blk_drew ?_ | refine blk_alloc ?_ _)); exact BK404.out⟩, ⟨hB HB⟩⟩
     rw [if_pos c34] at H
     have c34b0 : decide ((wrap64 (a1 - a2)) ≤ ((rd_T27 l0_1 x31_2).f2)) = true := decide_eq_true c34
     clear c34
     by_cases c35 : x405001_2.length < 5864062014805
     rotate_left
     ·rw [if_neg c35] at H
      exact absurd H (by simp)
     rw [if_pos c35] at H
     have LMc35 := Aside0.mk c35
     clear c35
     obtain ⟨y407, hy407⟩ : ∃ y_ : List (S27), y_ = (x405001_2 ++ [(⟨(rd_T27 l0_1 x31_2).f0, (rd_T27 l0_1 x31_2).f1, (rd_T27 l0_1 x31_2).f2⟩ : S27)]) := ⟨_, rfl⟩
     replace H : (spec_DropOld.l0 k2 a1 a2 l0_1 (l0_1.length : Int) (wrap64 (x31_2 + 1)) a0_0 y407) = some (r1, r2, r3) := by first | (rw [hy407]; with_reducible exact H) | (have H2_ := (Option.bind_some _ _).symm.trans H; rw [hy407]; with_reducible exact H2_) | (have H2_ := (Option.bind_some _ _).symm.trans H; with_reducible exact H2_) | with_reducible exact H | (rw [hy407]; exact H) | exact H
     have Ny407 := Aside0.mk hy407
     clear hy407
     have H' := Aside0.mk H
     clear H
     have p405 : 0 ≤ (x31_2 : Int) := od_
     have q405 : x31_2 < (l0_1.length : Int) := od_
     obtain ⟨ad405, e405, hx405_0, hx405_1, hx405_2⟩ := at_T27 HR0_1.out x31_2 p405 q405
     cases e405
     replace hx405_0 := hc_ HB hx405_0
     replace hx405_1 := hc_ HB hx405_1
     replace hx405_2 := hc_ HB hx405_2
     replace p405 := eq_true p405
     replace q405 := eq_true q405
     go_wp2_with (first | ((with_reducible refine gate_dst (N := 10) rfl ?_); refine box_event ?hg (N := 10) ?hd (cs := #[.int .i64 0, .int .i64 0, .int .i64 0]) (t := 27) ?hr ?_; (case hd => rfl); (case hg => rfl); (case hr => first | (go_simp; done) | (go_simp; rfl)); intro gb406 hg w36 hbox hb; have BK406 := Aside0.mk (hbox); have GW406 := gw_ hg HB; have GE406 := gw_ hg HB; have NB399_406 := nl_ hg BK399; have NB406_399 := ng_ hg BK399; have NB400_406 := nl_ hg BK400; have NB406_400 := ng_ hg BK400; have NB404_406 := nl_ hg BK404; have NB406_404 := ng_ hg BK404; replace HO_405001 := Aside0.mk (Kd.R_below (Kd.R_elderB (ra HO_405001.out) gb406 (Nat.le_of_eq hg.symm)) hb); replace BK399 := bb_ BK399 hb; replace BK400 := bb_ BK400 hb; replace BK404 := bb_ BK404 hb; replace HB := bst_ HB hb; clear hb hbox hg; have hnb37 := NB406_399.out; have hnc37 := NB399_406.out; have hnb38 := NB406_400.out; have hnc38 := NB400_406.out; have hnb39 := NB406_404.out; have hnc39 := NB404_406.out; obtain ⟨hcz40_0, hcz40_1, hcz40_2⟩ := bcs3_ BK406; have hfz40_0 := blk_frozen BK406.out 0; have hfz40_1 := blk_frozen BK406.out 1; have hfz40_2 := blk_frozen BK406.out 2; have hnb41 := NB404_399.out; have hnc41 := NB399_404.out; have hnb42 := NB404_400.out; have hnc42 := NB400_404.out; obtain ⟨hcz43_0, hcz43_1⟩ := bcs2_ BK404; have hfz43_0 := blk_frozen BK404.out 0; have hfz43_1 := blk_frozen BK404.out 1) | ((with_reducible refine gate_builtin (b := .append) (xs := #[.tmp 42, .tmp 44]) rfl ?_); at_builtin; refine Kd.R_append k27 (w0 := w) w.heap.size rfl (.tmp 42) (.tmp 44) 23 27 (.agg #[(.int .i64 0), (.int .i64 0), (.int .i64 0)]) 24 rfl Try.underlying23 info27 rfl (by decide) (by omega) u405001 x405001_2 (⟨(rd_T27 l0_1 x31_2).f0, (rd_T27 l0_1 x31_2).f1, (rd_T27 l0_1 x31_2).f2⟩ : S27) [.int .i64 ((rd_T27 l0_1 x31_2).f0), .int .i64 ((rd_T27 l0_1 x31_2).f1), .int .i64 ((rd_T27 l0_1 x31_2).f2)] (fun k_ => k_ ≠ gb406) (fun _ => False) rfl (by first | (go_simp; done) | (go_simp; rfl)) ?aP (fun _ hk => hk.elim) ?aF ?aO ?aB ?aS ?aL ?_; (case aP => exact k27_mkM _ _ _ (⟨(rd_T27 l0_1 x31_2).f0, (rd_T27 l0_1 x31_2).f1, (rd_T27 l0_1 x31_2).f2⟩ : S27)); (case aB => exact (hB HB)); (case aF => exact (fun k_ hk => Kd.freshB (g := gb406) (o := .cells #[.int .i64 ((rd_T27 l0_1 x31_2).f0), .int .i64 ((rd_T27 l0_1 x31_2).f1), .int .i64 ((rd_T27 l0_1 x31_2).f2)] 27 (0, 0)) (by (with_reducible repeat (first | refine blk_drewN ?_ _ | refine blk_drew ?_ | refine blk_alloc ?_ _)); refine blk_put (cs := #[.int .i64 ((rd_T27 l0_1 x31_2).f0), .int .i64 ((rd_T27 l0_1 x31_2).f1), .int .i64 0]) ?_ 2 _ rfl; (with_reducible repeat (first | refine blk_drewN ?_ _ | refine blk_drew ?_ | refine blk_alloc ?_ _)); refine blk_put (cs := #[.int .i64 ((rd_T27 l0_1 x31_2).f0), .int .i64 0, .int .i64 0]) ?_ 1 _ rfl; (with_reducible repeat (first | refine blk_drewN ?_ _ | refine blk_drew ?_ | refine blk_alloc ?_ _)); refine blk_put (cs := #[.int .i64 0, .int .i64 0, .int .i64 0]) ?_ 0 _ rfl; (with_reducible repeat (first | refine blk_drewN ?_ _ | refine blk_drew ?_ | refine blk_alloc ?_ _)); exact BK406.out) k_ hk)); (case aO => exact (ra (Kd.R_mono (Kd.R_far (p := ⟨gb406, 2, none⟩) (Kd.R_far (p := ⟨gb406, 1, none⟩) (Kd.R_far (p := ⟨gb406, 0, none⟩) (Kd.R_mono HO_405001.out (fun k_ hk => (⟨hk, hk.2⟩ : _ ∧ k_ ≠ gb406))) (fun _ hk => hk.2) (.int .i64 ((rd_T27 l0_1 x31_2).f0))) (fun _ hk => hk.2) (.int .i64 ((rd_T27 l0_1 x31_2).f1))) (fun _ hk => hk.2) (.int .i64 ((rd_T27 l0_1 x31_2).f2))) (fun _ hk => hk.1.2)))); (case aS => exact (below_size (hB HB))); (case aL => have := LMc35.out; omega); intro v408 w44 ho hb hg hat; rw [← Ny407.out] at ho; have HO409 := Aside0.mk (ho); replace BK399 := Aside0.mk (blk_grown (g := gb399) (o := .cells #[.int .i64 a0_0, .slice (some ad405) l0_1.length c0_1] 25 (0, 0)) (bx BK399) hg (Kd.R_ne HO_405001.out BK399.out (by decide))); replace BK400 := Aside0.mk (blk_grown (g := gb400) (o := .cells #[.int .i64 0, .slice none 0 0] 25 (0, 0)) (bx BK400) hg (Kd.R_ne HO_405001.out BK400.out (by decide))); replace BK404 := Aside0.mk (blk_grown (g := gb404) (o := .cells #[.int .i64 a0_0, u405001] 25 (0, 0)) (bx BK404) hg (Kd.R_ne HO_405001.out BK404.out (by decide))); replace BK406 := Aside0.mk (blk_grown (g := gb406) (o := .cells #[.int .i64 ((rd_T27 l0_1 x31_2).f0), .int .i64 ((rd_T27 l0_1 x31_2).f1), .int .i64 ((rd_T27 l0_1 x31_2).f2)] 27 (0, 0)) (by (with_reducible repeat (first | refine blk_drewN ?_ _ | refine blk_drew ?_ | refine blk_alloc ?_ _)); refine blk_put (cs := #[.int .i64 ((rd_T27 l0_1 x31_2).f0), .int .i64 ((rd_T27 l0_1 x31_2).f1), .int .i64 0]) ?_ 2 _ rfl; (with_reducible repeat (first | refine blk_drewN ?_ _ | refine blk_drew ?_ | refine blk_alloc ?_ _)); refine blk_put (cs := #[.int .i64 ((rd_T27 l0_1 x31_2).f0), .int .i64 0, .int .i64 0]) ?_ 1 _ rfl; (with_reducible repeat (first | refine blk_drewN ?_ _ | refine blk_drew ?_ | refine blk_alloc ?_ _)); refine blk_put (cs := #[.int .i64 0, .int .i64 0, .int .i64 0]) ?_ 0 _ rfl; (with_reducible repeat (first | refine blk_drewN ?_ _ | refine blk_drew ?_ | refine blk_alloc ?_ _)); exact BK406.out) hg (Kd.R_away HO_405001.out (fun _ hk => hk.2))); replace HB := Aside0.mk (hb); clear HO_405001; clear ho hb hg hat; obtain ⟨Ao45, co45, eo45⟩ := Kd.R_slice HO409.out; subst eo45; obtain ⟨hcz46_0, hcz46_1⟩ := bcs2_ BK404; have hfz46_0 := blk_frozen BK404.out 0; have hfz46_1 := blk_frozen BK404.out 1))
     go_roundg k2
     case measure => have := HJ3.out; have := HK2.out; omega
     case rel => exact ⟨(wrap64 (x31_2 + 1)), (y407), (.slice Ao45 y407.length co45), (by first | rfl | (simp; done) | (simp [*]; done)), H', ⟨by have := HJ3.out; have := HK2.out; omega⟩, ⟨by (with_reducible repeat (first | apply Kd.R_alloc | apply Kd.R_drewN | apply Kd.R_drew)); exact Kd.R_mono (Kd.R_far (p := ⟨gb404, 1, none⟩) (Kd.R_types HO409.out BK404.out (by decide)) (fun _ hk => hk.2) (.slice Ao45 y407.length co45)) (fun _ hk => trivial)⟩, ⟨by (with_reducible repeat (first | refine blk_drewN ?_ _ | refine blk_drew ?_ | refine blk_alloc ?_ _)); refine blk_far ?_ NB399_404.out _; (with_reducible repeat (first | refine blk_drewN ?_ _ | refine blk_drew ?_ | refine blk_alloc ?_ _)); exact BK399.out⟩, ⟨by (with_reducible repeat (first | refine blk_drewN ?_ _ | refine blk_drew ?_ | refine blk_alloc ?_ _)); refine blk_far ?_ NB400_404.out _; (with_reducible repeat (first | refine blk_drewN ?_ _ | refine blk_drew ?_ | refine blk_alloc ?_ _)); exact BK400.out⟩, ⟨by (with_reducible repeat (first | refine blk_drewN ?_ _ | refine blk_drew ?_ | refine blk_alloc ?_ _)); refine blk_put (cs := #[.int .i64 a0_0, u405001]) ?_ 1 _ rfl; (with_reducible repeat (first | refine blk_drewN ?_ _ | refine blk_drew ?_ | refine blk_alloc ?_ _)); exact BK404.out⟩, ⟨hB HB⟩⟩

def spec_DrawFlushPort.f (k : Nat) (l0 : List Int) : Option (Int × (List (S27)) × Int) := (slices_xorshift_Next.f l0).bind fun bt411 => ((spec_l1Cur_learned.f k bt411.1 bt411.2.1 bt411.2.2).bind fun bt415 => ((spec_l1Cur_pick.f bt411.1 bt415.2.2.1 bt415.2.2.2 12).bind fun bt421 => (some (bt415.1, bt415.2.1, wrap64 (bt421.1 - 1)))))
theorem spec_DrawFlushPort.mono : ∀ a0 k, LeO (spec_DrawFlushPort.f k a0) (spec_DrawFlushPort.f (k + 1) a0) := by
 intro a0 k
 unfold spec_DrawFlushPort.f
 repeat' first
   | (with_reducible exact spec_l1Cur_learned.mono _ _ _ _)
   | with_reducible first | exact LeO.refl _ | exact LeO.none _ | refine LeO.ite ?_ ?_ | refine LeO.bind ?_ fun _ => ?_
set_option maxHeartbeats 8000000 in
set_option maxRecDepth 100000 in
theorem spec_DrawFlushPort.calls (k : Nat) (A0 : Option Addr) (c0 : Nat) (l0 : List Int) (r1 : Int) (r2 : List (S27)) (r3 : Int) (w : World) (hr0 : Kd.C (Kd.int .u8) w A0 l0.length l0) (hc0 : l0.length ≤ c0) (h : spec_DrawFlushPort.f k l0 = some (r1, r2, r3)) :
  Calls Try.prog 17 #[.slice A0 l0.length c0] w fun e w' => ∃ v1_ : Value, e = .returned (.tuple #[.agg #[.int .i64 r1, v1_], .int .i64 r3]) ∧ Kd.R k27 27 w' w.heap.size (fun _ => True) v1_ r2 ∧ Below w.heap.size w w' := by
 have hu25 := Try.underlying25
 have HR0 := Aside0.mk hr0
 have HC0 := Aside0.mk hc0
 clear hr0 hc0
 have HB := Aside0.mk (Below.refl w.heap.size w)
 have H : ((slices_xorshift_Next.f l0).bind fun bt411 => ((spec_l1Cur_learned.f k bt411.1 bt411.2.1 bt411.2.2).bind fun bt415 => ((spec_l1Cur_pick.f bt411.1 bt415.2.2.1 bt415.2.2.2 12).bind fun bt421 => (some (bt415.1, bt415.2.1, wrap64 (bt421.1 - 1)))))) = some (r1, r2, r3) := h
 clear h
 replace H := Option.bind_eq_some_iff.mp H
 obtain ⟨⟨t411, t412, t413⟩, A20, H⟩ := H
 replace H : ((spec_l1Cur_learned.f k t411 t412 t413).bind fun bt415 => ((spec_l1Cur_pick.f t411 bt415.2.2.1 bt415.2.2.2 12).bind fun bt421 => (some (bt415.1, bt415.2.1, wrap64 (bt421.1 - 1))))) = some (r1, r2, r3) := H
 have DE_A2 : Aside0 (t411 = l0 ∧ t412 = 0 ∧ t413 = 0) := ⟨by have h_ := A20; simp only [slices_xorshift_Next.f, Option.some.injEq, Prod.mk.injEq] at h_; exact ⟨h_.1.symm, h_.2.1.symm, h_.2.2.symm⟩⟩
 have A2 := Aside0.mk A20
 clear A20
 replace H := Option.bind_eq_some_iff.mp H
 obtain ⟨⟨t415, t416, t419, t420⟩, A30, H⟩ := H
 replace H : ((spec_l1Cur_pick.f t411 t419 t420 12).bind fun bt421 => (some (t415, t416, wrap64 (bt421.1 - 1)))) = some (r1, r2, r3) := H
 have A3 := Aside0.mk A30
 clear A30
 replace H := Option.bind_eq_some_iff.mp H
 obtain ⟨⟨t421, t422, t423⟩, A40, H⟩ := H
 replace H : (some (t415, t416, wrap64 (t421 - 1))) = some (r1, r2, r3) := H
 have A4 := Aside0.mk A40
 clear A40
 simp only [Option.some.injEq, Prod.mk.injEq] at H
 obtain ⟨rfl, rfl, rfl⟩ := H
 go_enter Try.func17, Try.ntmps17
 go_wp2_with (first | ((with_reducible refine gate_dst (N := 2) rfl ?_); refine box_event ?hg (N := 2) ?hd (cs := #[.int .i64 0, .slice none 0 0]) (t := 25) ?hr ?_; (case hd => rfl); (case hg => rfl); (case hr => first | (go_simp; done) | (go_simp; rfl)); intro gb410 hg w5 hbox hb; have BK410 := Aside0.mk (hbox); have GW410 := gw_ hg HB; have GE410 := gw_ hg HB; replace HB := bst_ HB hb; clear hb hbox hg) | ((with_reducible refine gate_dst (N := 7) rfl ?_); refine box_event ?hg (N := 7) ?hd (cs := #[.slice A0 l0.length c0, .int .i64 0, .int .u64 0]) (t := 46) ?hr ?_; (case hd => rfl); (case hg => rfl); (case hr => first | (go_simp; done) | (go_simp; rfl)); intro g414 hg w6 hbox hb2; have hi : IsS46 w w6 g414 t411 t412 t413 := (by rw [DE_A2.out.1, DE_A2.out.2.1, DE_A2.out.2.2]; exact ⟨_, _, hbox, (gw_ hg HB).out, HR0.out⟩); have hb := (bst_ HB hb2).out; clear hg hbox; have HI414 := Aside0.mk (hi); have NB414_410 := Aside0.mk (IsS46.ne_blk hi (blk_below (g := gb410) (o := .cells #[.int .i64 0, .slice none 0 0] 25 (0, 0)) (ba BK410.out) hb2) (by decide)); have NB410_414 := Aside0.mk (Ne.symm (IsS46.ne_blk hi (blk_below (g := gb410) (o := .cells #[.int .i64 0, .slice none 0 0] 25 (0, 0)) (ba BK410.out) hb2) (by decide))); replace BK410 := Aside0.mk (blk_below (g := gb410) (o := .cells #[.int .i64 0, .slice none 0 0] 25 (0, 0)) (ba BK410.out) hb2); replace HB := Aside0.mk (hb); clear hb hb2 hi) | (refine goesL_ (some 9) rfl rfl Try.func19 (by kernel_rfl) rfl #[.pointer (some ⟨g414, 0, none⟩)] rfl tm_ ?_; (with_reducible refine (spec_l1Cur_learned.calls k g414 t411 t412 t413 t415 t416 t419 t420 w _ ?side1 ?side2 A3.out).mono ?_); (case side1 => repeat (first | (with_reducible first | exact HI414.out | apply IsS46.alloc | apply IsS46.drewN | apply IsS46.drew | apply IsS46.set_1 | apply IsS46.set_2 | refine IsS46.far ?_ NB414_410.out _) | exact HI414.out)); (case side2 => repeat (first | (with_reducible first | exact HB.out | apply below_alloc | apply pw_below_drewN | apply below_drew1 | refine below_set ?_ (IsS46.ge HI414.out) | refine below_set ?_ GE410.out) | exact HB.out)); rintro e w7 ⟨v417, rfl, ho0, hi, hb, hk⟩; refine ⟨_, rfl, ?_⟩; have HO418 := Aside0.mk (Kd.R_lower ho0 (below_size (by repeat (first | (with_reducible first | exact HB.out | apply below_alloc | apply pw_below_drewN | apply below_drew1 | refine below_set ?_ (IsS46.ge HI414.out) | refine below_set ?_ GE410.out) | exact HB.out)))); replace BK410 := Aside0.mk (KeepBut.blk hk (g' := gb410) (o := .cells #[.int .i64 0, .slice none 0 0] 25 (0, 0)) (ba BK410.out) NB410_414.out (by simp)); replace HB := Aside0.mk (hb); replace HI414 := Aside0.mk (hi); clear hb hk hi ho0) | (refine goesL_ (some 11) rfl rfl Try.func20 (by kernel_rfl) rfl #[.pointer (some ⟨g414, 0, none⟩), .int .i64 12] rfl tm_ ?_; (with_reducible refine (spec_l1Cur_pick.calls g414 t411 t419 t420 12 t421 t422 t423 w _ ?side1 ?side2 A4.out).mono ?_); (case side1 => repeat (first | (with_reducible first | exact HI414.out | apply IsS46.alloc | apply IsS46.drewN | apply IsS46.drew | apply IsS46.set_1 | apply IsS46.set_2 | refine IsS46.far ?_ NB414_410.out _) | exact HI414.out)); (case side2 => repeat (first | (with_reducible first | exact HB.out | apply below_alloc | apply pw_below_drewN | apply below_drew1 | refine below_set ?_ (IsS46.ge HI414.out) | refine below_set ?_ GE410.out) | exact HB.out)); rintro e w8 ⟨rfl, hi, hb, hk⟩; refine ⟨_, rfl, ?_⟩; replace BK410 := Aside0.mk (KeepBut.blk hk (g' := gb410) (o := .cells #[.int .i64 0, .slice none 0 0] 25 (0, 0)) (ba BK410.out) NB410_414.out (by simp)); replace HO418 := Aside0.mk (Kd.R_mono (Kd.R_keep (IsS46.apart (show IsS46 w _ g414 t411 t419 t420 from by repeat (first | (with_reducible first | exact HI414.out | apply IsS46.alloc | apply IsS46.drewN | apply IsS46.drew | apply IsS46.set_1 | apply IsS46.set_2 | refine IsS46.far ?_ NB414_410.out _) | exact HI414.out)) (ra HO418.out) (by decide)) hk (fun _ h => h.2)) (fun _ h => h.1)); replace HB := Aside0.mk (hb); replace HI414 := Aside0.mk (hi); clear hb hk hi; have hnb9 := NB410_414.out; have hnc9 := NB414_410.out; obtain ⟨hcz10_0, hcz10_1⟩ := bcs2_ BK410; have hfz10_0 := blk_frozen BK410.out 0; have hfz10_1 := blk_frozen BK410.out 1; obtain ⟨Ao11, co11, eo11⟩ := Kd.R_slice HO418.out; subst eo11))
 refine bodyPost_ret (results_ct rfl _ _ gb410 25 #[.int .i64 t415, .slice Ao11 t416.length co11] (0, 0) _ rfl (by (with_reducible repeat (first | refine blk_drewN ?_ _ | refine blk_drew ?_ | refine blk_alloc ?_ _)); refine blk_put (cs := #[.int .i64 t415, .slice none 0 0]) ?_ 1 _ rfl; (with_reducible repeat (first | refine blk_drewN ?_ _ | refine blk_drew ?_ | refine blk_alloc ?_ _)); refine blk_put (cs := #[.int .i64 0, .slice none 0 0]) ?_ 0 _ rfl; (with_reducible repeat (first | refine blk_drewN ?_ _ | refine blk_drew ?_ | refine blk_alloc ?_ _)); exact BK410.out) Try.underlying25 rfl (by kernel_rfl)) rfl ?_
 exact ⟨_, rt_, by (with_reducible repeat (first | apply Kd.R_alloc | apply Kd.R_drewN | apply Kd.R_drew)); exact Kd.R_mono (fs2_ HO418.out BK410.out) (fun _ hk => trivial), by repeat (first | (with_reducible first | exact HB.out | apply below_alloc | apply pw_below_drewN | apply below_drew1 | refine below_set ?_ (IsS46.ge HI414.out) | refine below_set ?_ GE410.out) | exact HB.out)⟩

mutual
def spec_FlushPort.j0 : Nat → Int → Bool → Int → List (S27) → Option (Int × (List (S27)) × Bool)
 | 0, _, _, _, _ => none
 | k + 1, x1, x16, x425000, x425001 => if x16 = true then (some (0, ([] : List (S27)), false)) else (spec_FlushPort.l0 k x1 x425001 (x425001.length : Int) 0 x425000 ([] : List (S27)))
def spec_FlushPort.l0 : Nat → Int → List (S27) → Int → Int → Int → List (S27) → Option (Int × (List (S27)) × Bool)
 | 0, _, _, _, _, _, _ => none
 | k + 1, x1, x22, x23, x24, x429000, x429001 => if x24 < x23 then (if 0 ≤ x24 then (if x24 < (x22.length : Int) then (if ((rd_T27 x22 x24).f1) = x1 then (spec_FlushPort.l0 k x1 x22 x23 (wrap64 (x24 + 1)) x429000 x429001) else (if x429001.length < 5864062014805 then (spec_FlushPort.l0 k x1 x22 x23 (wrap64 (x24 + 1)) x429000 (x429001 ++ [(⟨(rd_T27 x22 x24).f0, (rd_T27 x22 x24).f1, (rd_T27 x22 x24).f2⟩ : S27)])) else (none))) else (none)) else (none)) else (some (x429000, x429001, true))
end
def spec_FlushPort.f (k : Nat) (a0_0 : Int) (l0_1 : List (S27)) (a1 : Int) : Option (Int × (List (S27)) × Bool) := (spec_GoodTable.f k a0_0 l0_1).bind fun t426 => (if t426 = true then ((spec_l1In.f a1 0 9).bind fun t427 => (spec_FlushPort.j0 k a1 (!t427) a0_0 l0_1)) else (spec_FlushPort.j0 k a1 true a0_0 l0_1))
theorem spec_FlushPort.mono_l : ∀ k, (∀ y0 y1 y2 y3, LeO (spec_FlushPort.j0 k y0 y1 y2 y3) (spec_FlushPort.j0 (k + 1) y0 y1 y2 y3)) ∧ (∀ y0 y1 y2 y3 y4 y5, LeO (spec_FlushPort.l0 k y0 y1 y2 y3 y4 y5) (spec_FlushPort.l0 (k + 1) y0 y1 y2 y3 y4 y5))
 | 0 => ⟨fun _ _ _ _ r h => by simp [spec_FlushPort.j0] at h, fun _ _ _ _ _ _ r h => by simp [spec_FlushPort.l0] at h⟩
 | k + 1 => by
  obtain ⟨ih0, ih1⟩ := spec_FlushPort.mono_l k
  refine ⟨?_, ?_⟩
  ·intro y0 y1 y2 y3
   unfold spec_FlushPort.j0
   repeat' first
   | (with_reducible exact ih0 _ _ _ _)
   | (with_reducible exact ih1 _ _ _ _ _ _)
   | (with_reducible exact spec_GoodTable.mono _ _ _)
   | with_reducible first | exact LeO.refl _ | exact LeO.none _ | refine LeO.ite ?_ ?_ | refine LeO.bind ?_ fun _ => ?_
  ·intro y0 y1 y2 y3 y4 y5
   unfold spec_FlushPort.l0
   repeat' first
   | (with_reducible exact ih0 _ _ _ _)
   | (with_reducible exact ih1 _ _ _ _ _ _)
   | (with_reducible exact spec_GoodTable.mono _ _ _)
   | with_reducible first | exact LeO.refl _ | exact LeO.none _ | refine LeO.ite ?_ ?_ | refine LeO.bind ?_ fun _ => ?_
theorem spec_FlushPort.mono : ∀ a0 a1 a2 k, LeO (spec_FlushPort.f k a0 a1 a2) (spec_FlushPort.f (k + 1) a0 a1 a2) := by
 intro a0 a1 a2 k
 obtain ⟨ih0, ih1⟩ := spec_FlushPort.mono_l k
 unfold spec_FlushPort.f
 repeat' first
   | (with_reducible exact ih0 _ _ _ _)
   | (with_reducible exact ih1 _ _ _ _ _ _)
   | (with_reducible exact spec_GoodTable.mono _ _ _)
   | with_reducible first | exact LeO.refl _ | exact LeO.none _ | refine LeO.ite ?_ ?_ | refine LeO.bind ?_ fun _ => ?_
set_option maxHeartbeats 8000000 in
set_option maxRecDepth 100000 in
theorem spec_FlushPort.calls (k : Nat) (a0_0 : Int) (A0_1 : Option Addr) (c0_1 : Nat) (l0_1 : List (S27)) (a1 : Int) (r1 : Int) (r2 : List (S27)) (r3 : Bool) (w : World) (hr0_1 : Kd.C k27 w A0_1 l0_1.length l0_1) (hc0_1 : l0_1.length ≤ c0_1) (h : spec_FlushPort.f k a0_0 l0_1 a1 = some (r1, r2, r3)) :
  Calls Try.prog 18 #[.agg #[.int .i64 a0_0, .slice A0_1 l0_1.length c0_1], .int .i64 a1] w fun e w' => ∃ v1_ : Value, e = .returned (.tuple #[.agg #[.int .i64 r1, v1_], .bool r3]) ∧ Kd.R k27 27 w' w.heap.size (fun _ => True) v1_ r2 ∧ Below w.heap.size w w' := by
 have hu25 := Try.underlying25
 have hu27 := Try.underlying27
 have HR0_1 := Aside0.mk hr0_1
 have HC0_1 := Aside0.mk hc0_1
 clear hr0_1 hc0_1
 have HB := Aside0.mk (Below.refl w.heap.size w)
 have H : ((spec_GoodTable.f k a0_0 l0_1).bind fun t426 => (if t426 = true then ((spec_l1In.f a1 0 9).bind fun t427 => (spec_FlushPort.j0 k a1 (!t427) a0_0 l0_1)) else (spec_FlushPort.j0 k a1 true a0_0 l0_1))) = some (r1, r2, r3) := h
 clear h
 have HC3 := Aside0.mk H
 clear H
 go_enter Try.func18, Try.ntmps18
 go_upto_region 1 with (first | ((with_reducible refine gate_dst (N := 2) rfl ?_); refine box_event ?hg (N := 2) ?hd (cs := #[.int .i64 a0_0, .slice A0_1 l0_1.length c0_1]) (t := 25) ?hr ?_; (case hd => rfl); (case hg => rfl); (case hr => first | (go_simp; done) | (go_simp; rfl)); intro gb424 hg w4 hbox hb; have BK424 := Aside0.mk (hbox); have GW424 := gw_ hg HB; have GE424 := gw_ hg HB; replace HB := bst_ HB hb; clear hb hbox hg) | ((with_reducible refine gate_dst (N := 4) rfl ?_); refine box_event ?hg (N := 4) ?hd (cs := #[.int .i64 0, .slice none 0 0]) (t := 25) ?hr ?_; (case hd => rfl); (case hg => rfl); (case hr => first | (go_simp; done) | (go_simp; rfl)); intro gb425 hg w5 hbox hb; have BK425 := Aside0.mk (hbox); have GW425 := gw_ hg HB; have GE425 := gw_ hg HB; have NB424_425 := nl_ hg BK424; have NB425_424 := ng_ hg BK424; replace BK424 := bb_ BK424 hb; replace HB := bst_ HB hb; clear hb hbox hg))
 (try simp only [Act.put, List.setIfInBounds_toArray, List.set_cons_zero, List.set_cons_succ])
 go_cut [16] (fun v16 wc => ∃ (kq : Nat) (x16_2 : Bool), v16 = .bool x16_2 ∧ Aside0 (spec_FlushPort.j0 kq a1 x16_2 a0_0 l0_1 = some (r1, r2, r3)) ∧ Aside0 (kq ≤ k) ∧ Aside0 (wc.heap[gb424]? = some (.cells #[.int .i64 a0_0, (.slice A0_1 l0_1.length c0_1)] 25 (0, 0))) ∧ Aside0 (wc.heap[gb425]? = some (.cells #[.int .i64 0, (.slice none 0 0)] 25 (0, 0))) ∧ Aside0 (Below w.heap.size w wc))
 case first =>
  have H := HC3.out
  clear HC3
  replace H := Option.bind_eq_some_iff.mp H
  obtain ⟨t426, A60, H⟩ := H
  replace H : (if t426 = true then ((spec_l1In.f a1 0 9).bind fun t427 => (spec_FlushPort.j0 k a1 (!t427) a0_0 l0_1)) else (spec_FlushPort.j0 k a1 true a0_0 l0_1)) = some (r1, r2, r3) := H
  have A6 := Aside0.mk A60
  clear A60
  by_cases c7 : t426 = true
  rotate_left
  ·replace c7 := Bool.eq_false_iff.mpr c7
   subst c7
   rw [if_neg (show ¬ (false = true) by decide)] at H
   have H' := Aside0.mk H
   clear H
   have hnb12 := NB424_425.out
   have hnc12 := NB425_424.out
   have hcz13_0 : w5.cell? ⟨gb424, 0, none⟩ = some (.int .i64 a0_0) := bc_ BK424 0
   have hcz13_1 : w5.cell? ⟨gb424, 1, none⟩ = some (.slice A0_1 l0_1.length c0_1) := bc_ BK424 1
   have hfz13_0 := blk_frozen BK424.out 0
   have hfz13_1 := blk_frozen BK424.out 1
   go_wp2_with (first | (refine goesL_ (some 10) rfl rfl Try.func9 (by kernel_rfl) rfl #[.agg #[.int .i64 a0_0, .slice A0_1 l0_1.length c0_1]] rfl tm_ ?_; (with_reducible refine (spec_GoodTable.calls k a0_0 _ _ l0_1 false _ ?side1 ?side2 A6.out).mono ?_); (case side1 => exact cb_ HR0_1 HB); (case side2 => exact HC0_1.out); rintro e w14 ⟨rfl, hb⟩; refine ⟨_, rfl, ?_⟩; replace BK424 := bb_ BK424 hb; replace BK425 := bb_ BK425 hb; replace HB := bst_ HB hb; clear hb))
   go_meet
   case rel => exact ⟨_, (true), (by first | rfl | (simp; done) | (simp [*]; done)), H', ⟨by first | omega | exact Nat.le_refl _⟩, ⟨by (with_reducible repeat (first | refine blk_drewN ?_ _ | refine blk_drew ?_ | refine blk_alloc ?_ _)); exact BK424.out⟩, ⟨by (with_reducible repeat (first | refine blk_drewN ?_ _ | refine blk_drew ?_ | refine blk_alloc ?_ _)); exact BK425.out⟩, ⟨hB HB⟩⟩
  subst c7
  rw [if_pos rfl] at H
  replace H := Option.bind_eq_some_iff.mp H
  obtain ⟨t427, A80, H⟩ := H
  replace H : (spec_FlushPort.j0 k a1 (!t427) a0_0 l0_1) = some (r1, r2, r3) := H
  have A8 := Aside0.mk A80
  clear A80
  have H' := Aside0.mk H
  clear H
  have hnb9 := NB424_425.out
  have hnc9 := NB425_424.out
  have hcz10_0 : w5.cell? ⟨gb424, 0, none⟩ = some (.int .i64 a0_0) := bc_ BK424 0
  have hcz10_1 : w5.cell? ⟨gb424, 1, none⟩ = some (.slice A0_1 l0_1.length c0_1) := bc_ BK424 1
  have hfz10_0 := blk_frozen BK424.out 0
  have hfz10_1 := blk_frozen BK424.out 1
  go_wp2_with (first | (refine goesL_ (some 10) rfl rfl Try.func9 (by kernel_rfl) rfl #[.agg #[.int .i64 a0_0, .slice A0_1 l0_1.length c0_1]] rfl tm_ ?_; (with_reducible refine (spec_GoodTable.calls k a0_0 _ _ l0_1 true _ ?side1 ?side2 A6.out).mono ?_); (case side1 => exact cb_ HR0_1 HB); (case side2 => exact HC0_1.out); rintro e w11 ⟨rfl, hb⟩; refine ⟨_, rfl, ?_⟩; replace BK424 := bb_ BK424 hb; replace BK425 := bb_ BK425 hb; replace HB := bst_ HB hb; clear hb) | (go_at_call 28; (with_reducible refine (spec_l1In.calls a1 0 9 t427 _ A8.out).mono ?_); rintro e w' ⟨rfl, ⟨nd, rfl⟩⟩))
  go_meet
  case rel => exact ⟨_, (!t427), (by first | rfl | (simp; done) | (simp [*]; done)), H', ⟨by first | omega | exact Nat.le_refl _⟩, ⟨by (with_reducible repeat (first | refine blk_drewN ?_ _ | refine blk_drew ?_ | refine blk_alloc ?_ _)); exact BK424.out⟩, ⟨by (with_reducible repeat (first | refine blk_drewN ?_ _ | refine blk_drew ?_ | refine blk_alloc ?_ _)); exact BK425.out⟩, ⟨hB HB⟩⟩
 case rest =>
  clear HC3
  obtain ⟨kq, x16_2, rfl, HA, HJ2, BK424, BK425, HB⟩ := hcut
  cases kq with
  | zero => exact absurd HA.out (by simp [spec_FlushPort.j0])
  | succ kj2 =>
   have H := HA.out
   clear HA
   simp only [spec_FlushPort.j0] at H
   by_cases c15 : x16_2 = true
   ·subst c15
    rw [if_pos rfl] at H
    simp only [Option.some.injEq, Prod.mk.injEq] at H
    obtain ⟨rfl, rfl, rfl⟩ := H
    have hnb16 := NB425_424.out
    have hnc16 := NB424_425.out
    have hcz17_0 : wc.cell? ⟨gb425, 0, none⟩ = some (.int .i64 0) := bc_ BK425 0
    have hcz17_1 : wc.cell? ⟨gb425, 1, none⟩ = some (.slice none 0 0) := bc_ BK425 1
    have hfz17_0 := blk_frozen BK425.out 0
    have hfz17_1 := blk_frozen BK425.out 1
    go_wp2
    refine bodyPost_ret (results_ct rfl _ _ gb425 25 #[.int .i64 0, .slice none 0 0] (0, 0) _ rfl (by (with_reducible repeat (first | refine blk_drewN ?_ _ | refine blk_drew ?_ | refine blk_alloc ?_ _)); refine blk_put (cs := #[.int .i64 0, .slice none 0 0]) ?_ 1 _ rfl; (with_reducible repeat (first | refine blk_drewN ?_ _ | refine blk_drew ?_ | refine blk_alloc ?_ _)); refine blk_put (cs := #[.int .i64 0, .slice none 0 0]) ?_ 0 _ rfl; (with_reducible repeat (first | refine blk_drewN ?_ _ | refine blk_drew ?_ | refine blk_alloc ?_ _)); exact BK425.out) Try.underlying25 rfl (by kernel_rfl)) rfl ?_
    exact ⟨_, rt_, by first | exact Kd.R_nil _ _ _ _ _ | exact Kd.N_nil _ _ _ _ _ | exact Kd.V_nil _ _ _ _ _ | exact Kd.Q_nil _ _ _ _ _ | exact Kd.S_nil _ _ _ _ _, hB HB⟩
   replace c15 := Bool.eq_false_iff.mpr c15
   subst c15
   rw [if_neg (show ¬ (false = true) by decide)] at H
   have H' := Aside0.mk H
   clear H
   have hnb18 := NB424_425.out
   have hnc18 := NB425_424.out
   have hcz19_0 : wc.cell? ⟨gb424, 0, none⟩ = some (.int .i64 a0_0) := bc_ BK424 0
   have hcz19_1 : wc.cell? ⟨gb424, 1, none⟩ = some (.slice A0_1 l0_1.length c0_1) := bc_ BK424 1
   have hfz19_0 := blk_frozen BK424.out 0
   have hfz19_1 := blk_frozen BK424.out 1
   go_wp2_with (first | ((with_reducible refine gate_dst (N := 6) rfl ?_); refine box_event ?hg (N := 6) ?hd (cs := #[.int .i64 0, .slice none 0 0]) (t := 25) ?hr ?_; (case hd => rfl); (case hg => rfl); (case hr => first | (go_simp; done) | (go_simp; rfl)); intro gb428 hg w20 hbox hb; have BK428 := Aside0.mk (hbox); have GW428 := gw_ hg HB; have GE428 := gw_ hg HB; have NB424_428 := nl_ hg BK424; have NB428_424 := ng_ hg BK424; have NB425_428 := nl_ hg BK425; have NB428_425 := ng_ hg BK425; replace BK424 := bb_ BK424 hb; replace BK425 := bb_ BK425 hb; replace HB := bst_ HB hb; clear hb hbox hg; have hnb21 := NB428_424.out; have hnc21 := NB424_428.out; have hnb22 := NB428_425.out; have hnc22 := NB425_428.out; obtain ⟨hcz23_0, hcz23_1⟩ := bcs2_ BK428; have hfz23_0 := blk_frozen BK428.out 0; have hfz23_1 := blk_frozen BK428.out 1; obtain ⟨hcz24_0, hcz24_1⟩ := bcs2_ BK424))
   go_loopg [24] kj2 (fun kq v24 w' => ∃ (x24_2 : Int) (x429001_2 : List (S27)) (u429001 : Value), v24 = .int .i64 x24_2 ∧ Aside0 (spec_FlushPort.l0 kq a1 l0_1 (l0_1.length : Int) x24_2 a0_0 x429001_2 = some (r1, r2, r3)) ∧ Aside0 (kq ≤ kj2) ∧ Aside0 (Kd.R k27 27 w' w.heap.size (fun _ => True) u429001 x429001_2) ∧ Aside0 (w'.heap[gb424]? = some (.cells #[.int .i64 a0_0, (.slice A0_1 l0_1.length c0_1)] 25 (0, 0))) ∧ Aside0 (w'.heap[gb425]? = some (.cells #[.int .i64 0, (.slice none 0 0)] 25 (0, 0))) ∧ Aside0 (w'.heap[gb428]? = some (.cells #[.int .i64 a0_0, u429001] 25 (0, 0))) ∧ Aside0 (Below w.heap.size w w'))
   case atStart => exact ⟨(0), (([] : List (S27))), (.slice none 0 0), (by first | rfl | (simp; done) | (simp [*]; done)), H', ⟨Nat.le_refl _⟩, ⟨by first | exact Kd.R_nil _ _ _ _ _ | exact Kd.N_nil _ _ _ _ _ | exact Kd.V_nil _ _ _ _ _ | exact Kd.Q_nil _ _ _ _ _ | exact Kd.S_nil _ _ _ _ _⟩, ⟨by (with_reducible repeat (first | refine blk_drewN ?_ _ | refine blk_drew ?_ | refine blk_alloc ?_ _)); refine blk_far ?_ NB424_428.out _; (with_reducible repeat (first | refine blk_drewN ?_ _ | refine blk_drew ?_ | refine blk_alloc ?_ _)); refine blk_far ?_ NB424_428.out _; (with_reducible repeat (first | refine blk_drewN ?_ _ | refine blk_drew ?_ | refine blk_alloc ?_ _)); exact BK424.out⟩, ⟨by (with_reducible repeat (first | refine blk_drewN ?_ _ | refine blk_drew ?_ | refine blk_alloc ?_ _)); refine blk_far ?_ NB425_428.out _; (with_reducible repeat (first | refine blk_drewN ?_ _ | refine blk_drew ?_ | refine blk_alloc ?_ _)); refine blk_far ?_ NB425_428.out _; (with_reducible repeat (first | refine blk_drewN ?_ _ | refine blk_drew ?_ | refine blk_alloc ?_ _)); exact BK425.out⟩, ⟨by (with_reducible repeat (first | refine blk_drewN ?_ _ | refine blk_drew ?_ | refine blk_alloc ?_ _)); refine blk_put (cs := #[.int .i64 a0_0, .slice none 0 0]) ?_ 1 _ rfl; (with_reducible repeat (first | refine blk_drewN ?_ _ | refine blk_drew ?_ | refine blk_alloc ?_ _)); refine blk_put (cs := #[.int .i64 0, .slice none 0 0]) ?_ 0 _ rfl; (with_reducible repeat (first | refine blk_drewN ?_ _ | refine blk_drew ?_ | refine blk_alloc ?_ _)); exact BK428.out⟩, ⟨hB HB⟩⟩
   case round =>
    clear H'
    try clear c15
    try clear hcz19_0
    try clear hcz19_1
    try clear hcz23_0
    try clear hcz23_1
    try clear hcz24_0
    try clear hcz24_1
    try clear hfz19_0
    try clear hfz19_1
    try clear hfz23_0
    try clear hfz23_1
    try clear hfz24_0
    try clear hfz24_1
    obtain ⟨x24_2, x429001_2, u429001, rfl, HA, HK2, HO_429001, BK424, BK425, BK428, HB⟩ := hrel
    cases gk with
    | zero => exact absurd HA.out (by simp [spec_FlushPort.l0])
    | succ k2 =>
     have H := HA.out
     clear HA
     simp only [spec_FlushPort.l0] at H
     by_cases c25 : x24_2 < (l0_1.length : Int)
     rotate_left
     ·rw [if_neg c25] at H
      have c25b0 : decide (x24_2 < (l0_1.length : Int)) = false := decide_eq_false c25
      clear c25
      simp only [Option.some.injEq, Prod.mk.injEq] at H
      obtain ⟨rfl, rfl, rfl⟩ := H
      have hnb46 := NB428_424.out
      have hnc46 := NB424_428.out
      have hnb47 := NB428_425.out
      have hnc47 := NB425_428.out
      have hcz48_0 : wr.cell? ⟨gb428, 0, none⟩ = some (.int .i64 a0_0) := bc_ BK428 0
      have hcz48_1 : wr.cell? ⟨gb428, 1, none⟩ = some (u429001) := bc_ BK428 1
      have hfz48_0 := blk_frozen BK428.out 0
      have hfz48_1 := blk_frozen BK428.out 1
      have hnb49 := NB425_424.out
      have hnc49 := NB424_425.out
      have hcz50_0 : wr.cell? ⟨gb425, 0, none⟩ = some (.int .i64 0) := bc_ BK425 0
      have hcz50_1 : wr.cell? ⟨gb425, 1, none⟩ = some (.slice none 0 0) := bc_ BK425 1
      have hfz50_0 := blk_frozen BK425.out 0
      have hfz50_1 := blk_frozen BK425.out 1
      obtain ⟨Ao51, co51, eo51⟩ := Kd.R_slice HO_429001.out
      subst eo51
      go_wp2
      refine bodyPost_ret (results_ct rfl _ _ gb425 25 #[.int .i64 a0_0, .slice Ao51 x429001_2.length co51] (0, 0) _ rfl (by (with_reducible repeat (first | refine blk_drewN ?_ _ | refine blk_drew ?_ | refine blk_alloc ?_ _)); refine blk_put (cs := #[.int .i64 a0_0, .slice none 0 0]) ?_ 1 _ rfl; (with_reducible repeat (first | refine blk_drewN ?_ _ | refine blk_drew ?_ | refine blk_alloc ?_ _)); refine blk_put (cs := #[.int .i64 0, .slice none 0 0]) ?_ 0 _ rfl; (with_reducible repeat (first | refine blk_drewN ?_ _ | refine blk_drew ?_ | refine blk_alloc ?_ _)); exact BK425.out) Try.underlying25 rfl (by kernel_rfl)) rfl ?_
      exact ⟨_, rt_, by (with_reducible repeat (first | apply Kd.R_alloc | apply Kd.R_drewN | apply Kd.R_drew)); exact Kd.R_mono (fs2_ HO_429001.out BK425.out) (fun _ hk => trivial), hB HB⟩
     rw [if_pos c25] at H
     have c25b0 : decide (x24_2 < (l0_1.length : Int)) = true := decide_eq_true c25
     clear c25
     by_cases c26 : 0 ≤ x24_2
     rotate_left
     ·rw [if_neg c26] at H
      exact absurd H (by simp)
     rw [if_pos c26] at H
     have c26b0 : decide (0 ≤ x24_2) = true := decide_eq_true c26
     clear c26
     by_cases c27 : x24_2 < (l0_1.length : Int)
     rotate_left
     ·rw [if_neg c27] at H
      exact absurd H (by simp)
     rw [if_pos c27] at H
     have c27b0 : decide (x24_2 < (l0_1.length : Int)) = true := decide_eq_true c27
     clear c27
     by_cases c28 : ((rd_T27 l0_1 x24_2).f1) = a1
     ·rw [if_pos c28] at H
      have c28b0 : (((rd_T27 l0_1 x24_2).f1) == a1) = true := beq_iff_eq.mpr c28
      have c28b1 : (((rd_T27 l0_1 x24_2).f1) != a1) = false := bne_eq_false_iff_eq.mpr c28
      clear c28
      have H' := Aside0.mk H
      clear H
      have p429 : 0 ≤ (x24_2 : Int) := od_
      have q429 : x24_2 < (l0_1.length : Int) := od_
      obtain ⟨ad429, e429, hx429_0, hx429_1, hx429_2⟩ := at_T27 HR0_1.out x24_2 p429 q429
      cases e429
      replace hx429_0 := hc_ HB hx429_0
      replace hx429_1 := hc_ HB hx429_1
      replace hx429_2 := hc_ HB hx429_2
      replace p429 := eq_true p429
      replace q429 := eq_true q429
      go_wp2_with (first | ((with_reducible refine gate_dst (N := 8) rfl ?_); refine box_event ?hg (N := 8) ?hd (cs := #[.int .i64 0, .int .i64 0, .int .i64 0]) (t := 27) ?hr ?_; (case hd => rfl); (case hg => rfl); (case hr => first | (go_simp; done) | (go_simp; rfl)); intro gb430 hg w29 hbox hb; have BK430 := Aside0.mk (hbox); have GW430 := gw_ hg HB; have GE430 := gw_ hg HB; have NB424_430 := nl_ hg BK424; have NB430_424 := ng_ hg BK424; have NB425_430 := nl_ hg BK425; have NB430_425 := ng_ hg BK425; have NB428_430 := nl_ hg BK428; have NB430_428 := ng_ hg BK428; replace HO_429001 := Aside0.mk (Kd.R_below (Kd.R_elderB (ra HO_429001.out) gb430 (Nat.le_of_eq hg.symm)) hb); replace BK424 := bb_ BK424 hb; replace BK425 := bb_ BK425 hb; replace BK428 := bb_ BK428 hb; replace HB := bst_ HB hb; clear hb hbox hg; have hnb30 := NB430_424.out; have hnc30 := NB424_430.out; have hnb31 := NB430_425.out; have hnc31 := NB425_430.out; have hnb32 := NB430_428.out; have hnc32 := NB428_430.out; obtain ⟨hcz33_0, hcz33_1, hcz33_2⟩ := bcs3_ BK430; have hfz33_0 := blk_frozen BK430.out 0; have hfz33_1 := blk_frozen BK430.out 1; have hfz33_2 := blk_frozen BK430.out 2))
      go_roundg k2
      case measure => have := HJ2.out; have := HK2.out; omega
      case rel => exact ⟨(wrap64 (x24_2 + 1)), (x429001_2), (u429001), (by first | rfl | (simp; done) | (simp [*]; done)), H', ⟨by have := HJ2.out; have := HK2.out; omega⟩, ⟨by (with_reducible repeat (first | apply Kd.R_alloc | apply Kd.R_drewN | apply Kd.R_drew)); exact Kd.R_mono (Kd.R_far (p := ⟨gb430, 2, none⟩) (Kd.R_far (p := ⟨gb430, 1, none⟩) (Kd.R_far (p := ⟨gb430, 0, none⟩) (Kd.R_mono HO_429001.out (fun k_ hk => (⟨hk, hk.2⟩ : _ ∧ k_ ≠ gb430))) (fun _ hk => hk.2) (.int .i64 ((rd_T27 l0_1 x24_2).f0))) (fun _ hk => hk.2) (.int .i64 ((rd_T27 l0_1 x24_2).f1))) (fun _ hk => hk.2) (.int .i64 ((rd_T27 l0_1 x24_2).f2))) (fun _ hk => trivial)⟩, ⟨by (with_reducible repeat (first | refine blk_drewN ?_ _ | refine blk_drew ?_ | refine blk_alloc ?_ _)); refine blk_far ?_ NB424_430.out _; (with_reducible repeat (first | refine blk_drewN ?_ _ | refine blk_drew ?_ | refine blk_alloc ?_ _)); refine blk_far ?_ NB424_430.out _; (with_reducible repeat (first | refine blk_drewN ?_ _ | refine blk_drew ?_ | refine blk_alloc ?_ _)); refine blk_far ?_ NB424_430.out _; (with_reducible repeat (first | refine blk_drewN ?_ _ | refine blk_drew ?_ | refine blk_alloc ?_ _)); exact BK424.out⟩, ⟨by (with_reducible repeat (first | refine blk_drewN ?_ _ | refine blk_drew ?_ | refine blk_alloc ?_ _)); refine blk_far ?_ NB425_430.out _; (with_reducible repeat (first | refine blk_drewN ?_ _ | refine blk_drew ?_ | refine blk_alloc ?_ _)); refine blk_far ?_ NB425_430.out _; (with_reducible repeat (first | refine blk_drewN ?_ _ | refine blk_drew ?_ | refine blk_alloc ?_ _)); refine blk_far ?_ NB425_430.out _; (with_reducible repeat (first | refine blk_drewN ?_ _ | refine blk_drew ?_ | refine blk_alloc ?_ _)); exact BK425.out⟩, ⟨by (with_reducible repeat (first | refine blk_drewN ?_ _ | refine blk_drew ?_ | refine blk_alloc ?_ _)); refine blk_far ?_ NB428_430.out _; (with_reducible repeat (first | refine blk_drewN ?_ _ | refine blk_drew ?_ | refine blk_alloc ?_ _)); refine blk_far ?_ NB428_430.out _; (with_reducible repeat (first | refine blk_drewN ?_ _ | refine blk_drew ?_ | refine blk_alloc ?_ _)); refine blk_far ?_ NB428_430.out _; (with_reducible repeat (first | refine blk_drewN ?_ _ | refine blk_drew ?_ | refine blk_alloc ?_ _)); exact BK428.out⟩, ⟨hB HB⟩⟩
     rw [if_neg c28] at H
     have c28b0 : (((rd_T27 l0_1 x24_2).f1) == a1) = false := beq_eq_false_iff_ne.mpr c28
     have c28b1 : (((rd_T27 l0_1 x24_2).f1) != a1) = true := bne_iff_ne.mpr c28
     by_cases c34 : x429001_2.length < 5864062014805
     rotate_left
     ·rw [if_neg c34] at H
      exact absurd H (by simp)
     rw [if_pos c34] at H
     have LMc34 := Aside0.mk c34
     clear c34
     obtain ⟨y431, hy431⟩ : ∃ y_ : List (S27), y_ = (x429001_2 ++ [(⟨(rd_T27 l0_1 x24_2).f0, (rd_T27 l0_1 x24_2).f1, (rd_T27 l0_1 x24_2).f2⟩ : S27)]) := ⟨_, rfl⟩
     replace H : (spec_FlushPort.l0 k2 a1 l0_1 (l0_1.length : Int) (wrap64 (x24_2 + 1)) a0_0 y431) = some (r1, r2, r3) := by first | (rw [hy431]; with_reducible exact H) | (have H2_ := (Option.bind_some _ _).symm.trans H; rw [hy431]; with_reducible exact H2_) | (have H2_ := (Option.bind_some _ _).symm.trans H; with_reducible exact H2_) | with_reducible exact H | (rw [hy431]; exact H) | exact H
     have Ny431 := Aside0.mk hy431
     clear hy431
     have H' := Aside0.mk H
     clear H
     have p429 : 0 ≤ (x24_2 : Int) := od_
     have q429 : x24_2 < (l0_1.length : Int) := od_
     obtain ⟨ad429, e429, hx429_0, hx429_1, hx429_2⟩ := at_T27 HR0_1.out x24_2 p429 q429
     cases e429
     replace hx429_0 := hc_ HB hx429_0
     replace hx429_1 := hc_ HB hx429_1
     replace hx429_2 := hc_ HB hx429_2
     replace p429 := eq_true p429
     replace q429 := eq_true q429
     go_wp2_with (first | ((with_reducible refine gate_dst (N := 8) rfl ?_); refine box_event ?hg (N := 8) ?hd (cs := #[.int .i64 0, .int .i64 0, .int .i64 0]) (t := 27) ?hr ?_; (case hd => rfl); (case hg => rfl); (case hr => first | (go_simp; done) | (go_simp; rfl)); intro gb430 hg w35 hbox hb; have BK430 := Aside0.mk (hbox); have GW430 := gw_ hg HB; have GE430 := gw_ hg HB; have NB424_430 := nl_ hg BK424; have NB430_424 := ng_ hg BK424; have NB425_430 := nl_ hg BK425; have NB430_425 := ng_ hg BK425; have NB428_430 := nl_ hg BK428; have NB430_428 := ng_ hg BK428; replace HO_429001 := Aside0.mk (Kd.R_below (Kd.R_elderB (ra HO_429001.out) gb430 (Nat.le_of_eq hg.symm)) hb); replace BK424 := bb_ BK424 hb; replace BK425 := bb_ BK425 hb; replace BK428 := bb_ BK428 hb; replace HB := bst_ HB hb; clear hb hbox hg; have hnb36 := NB430_424.out; have hnc36 := NB424_430.out; have hnb37 := NB430_425.out; have hnc37 := NB425_430.out; have hnb38 := NB430_428.out; have hnc38 := NB428_430.out; obtain ⟨hcz39_0, hcz39_1, hcz39_2⟩ := bcs3_ BK430; have hfz39_0 := blk_frozen BK430.out 0; have hfz39_1 := blk_frozen BK430.out 1; have hfz39_2 := blk_frozen BK430.out 2; have hnb40 := NB428_424.out; have hnc40 := NB424_428.out; have hnb41 := NB428_425.out; have hnc41 := NB425_428.out; obtain ⟨hcz42_0, hcz42_1⟩ := bcs2_ BK428; have hfz42_0 := blk_frozen BK428.out 0; have hfz42_1 := blk_frozen BK428.out 1) | ((with_reducible refine gate_builtin (b := .append) (xs := #[.tmp 33, .tmp 35]) rfl ?_); at_builtin; refine Kd.R_append k27 (w0 := w) w.heap.size rfl (.tmp 33) (.tmp 35) 23 27 (.agg #[(.int .i64 0), (.int .i64 0), (.int .i64 0)]) 24 rfl Try.underlying23 info27 rfl (by decide) (by omega) u429001 x429001_2 (⟨(rd_T27 l0_1 x24_2).f0, (rd_T27 l0_1 x24_2).f1, (rd_T27 l0_1 x24_2).f2⟩ : S27) [.int .i64 ((rd_T27 l0_1 x24_2).f0), .int .i64 ((rd_T27 l0_1 x24_2).f1), .int .i64 ((rd_T27 l0_1 x24_2).f2)] (fun k_ => k_ ≠ gb430) (fun _ => False) rfl (by first | (go_simp; done) | (go_simp; rfl)) ?aP (fun _ hk => hk.elim) ?aF ?aO ?aB ?aS ?aL ?_; (case aP => exact k27_mkM _ _ _ (⟨(rd_T27 l0_1 x24_2).f0, (rd_T27 l0_1 x24_2).f1, (rd_T27 l0_1 x24_2).f2⟩ : S27)); (case aB => exact (hB HB)); (case aF => exact (fun k_ hk => Kd.freshB (g := gb430) (o := .cells #[.int .i64 ((rd_T27 l0_1 x24_2).f0), .int .i64 ((rd_T27 l0_1 x24_2).f1), .int .i64 ((rd_T27 l0_1 x24_2).f2)] 27 (0, 0)) (by (with_reducible repeat (first | refine blk_drewN ?_ _ | refine blk_drew ?_ | refine blk_alloc ?_ _)); refine blk_put (cs := #[.int .i64 ((rd_T27 l0_1 x24_2).f0), .int .i64 ((rd_T27 l0_1 x24_2).f1), .int .i64 0]) ?_ 2 _ rfl; (with_reducible repeat (first | refine blk_drewN ?_ _ | refine blk_drew ?_ | refine blk_alloc ?_ _)); refine blk_put (cs := #[.int .i64 ((rd_T27 l0_1 x24_2).f0), .int .i64 0, .int .i64 0]) ?_ 1 _ rfl; (with_reducible repeat (first | refine blk_drewN ?_ _ | refine blk_drew ?_ | refine blk_alloc ?_ _)); refine blk_put (cs := #[.int .i64 0, .int .i64 0, .int .i64 0]) ?_ 0 _ rfl; (with_reducible repeat (first | refine blk_drewN ?_ _ | refine blk_drew ?_ | refine blk_alloc ?_ _)); exact BK430.out) k_ hk)); (case aO => exact (ra (Kd.R_mono (Kd.R_far (p := ⟨gb430, 2, none⟩) (Kd.R_far (p := ⟨gb430, 1, none⟩) (Kd.R_far (p := ⟨gb430, 0, none⟩) (Kd.R_mono HO_429001.out (fun k_ hk => (⟨hk, hk.2⟩ : _ ∧ k_ ≠ gb430))) (fun _ hk => hk.2) (.int .i64 ((rd_T27 l0_1 x24_2).f0))) (fun _ hk => hk.2) (.int .i64 ((rd_T27 l0_1 x24_2).f1))) (fun _ hk => hk.2) (.int .i64 ((rd_T27 l0_1 x24_2).f2))) (fun _ hk => hk.1.2)))); (case aS => exact (below_size (hB HB))); (case aL => have := LMc34.out; omega); intro v432 w43 ho hb hg hat; rw [← Ny431.out] at ho; have HO433 := Aside0.mk (ho); replace BK424 := Aside0.mk (blk_grown (g := gb424) (o := .cells #[.int .i64 a0_0, .slice (some ad429) l0_1.length c0_1] 25 (0, 0)) (bx BK424) hg (Kd.R_ne HO_429001.out BK424.out (by decide))); replace BK425 := Aside0.mk (blk_grown (g := gb425) (o := .cells #[.int .i64 0, .slice none 0 0] 25 (0, 0)) (bx BK425) hg (Kd.R_ne HO_429001.out BK425.out (by decide))); replace BK428 := Aside0.mk (blk_grown (g := gb428) (o := .cells #[.int .i64 a0_0, u429001] 25 (0, 0)) (bx BK428) hg (Kd.R_ne HO_429001.out BK428.out (by decide))); replace BK430 := Aside0.mk (blk_grown (g := gb430) (o := .cells #[.int .i64 ((rd_T27 l0_1 x24_2).f0), .int .i64 ((rd_T27 l0_1 x24_2).f1), .int .i64 ((rd_T27 l0_1 x24_2).f2)] 27 (0, 0)) (by (with_reducible repeat (first | refine blk_drewN ?_ _ | refine blk_drew ?_ | refine blk_alloc ?_ _)); refine blk_put (cs := #[.int .i64 ((rd_T27 l0_1 x24_2).f0), .int .i64 ((rd_T27 l0_1 x24_2).f1), .int .i64 0]) ?_ 2 _ rfl; (with_reducible repeat (first | refine blk_drewN ?_ _ | refine blk_drew ?_ | refine blk_alloc ?_ _)); refine blk_put (cs := #[.int .i64 ((rd_T27 l0_1 x24_2).f0), .int .i64 0, .int .i64 0]) ?_ 1 _ rfl; (with_reducible repeat (first | refine blk_drewN ?_ _ | refine blk_drew ?_ | refine blk_alloc ?_ _)); refine blk_put (cs := #[.int .i64 0, .int .i64 0, .int .i64 0]) ?_ 0 _ rfl; (with_reducible repeat (first | refine blk_drewN ?_ _ | refine blk_drew ?_ | refine blk_alloc ?_ _)); exact BK430.out) hg (Kd.R_away HO_429001.out (fun _ hk => hk.2))); replace HB := Aside0.mk (hb); clear HO_429001; clear ho hb hg hat; obtain ⟨Ao44, co44, eo44⟩ := Kd.R_slice HO433.out; subst eo44; obtain ⟨hcz45_0, hcz45_1⟩ := bcs2_ BK428; have hfz45_0 := blk_frozen BK428.out 0; have hfz45_1 := blk_frozen BK428.out 1))
     go_roundg k2
     case measure => have := HJ2.out; have := HK2.out; omega
     case rel => exact ⟨(wrap64 (x24_2 + 1)), (y431), (.slice Ao44 y431.length co44), (by first | rfl | (simp; done) | (simp [*]; done)), H', ⟨by have := HJ2.out; have := HK2.out; omega⟩, ⟨by (with_reducible repeat (first | apply Kd.R_alloc | apply Kd.R_drewN | apply Kd.R_drew)); exact Kd.R_mono (Kd.R_far (p := ⟨gb428, 1, none⟩) (Kd.R_types HO433.out BK428.out (by decide)) (fun _ hk => hk.2) (.slice Ao44 y431.length co44)) (fun _ hk => trivial)⟩, ⟨by (with_reducible repeat (first | refine blk_drewN ?_ _ | refine blk_drew ?_ | refine blk_alloc ?_ _)); refine blk_far ?_ NB424_428.out _; (with_reducible repeat (first | refine blk_drewN ?_ _ | refine blk_drew ?_ | refine blk_alloc ?_ _)); exact BK424.out⟩, ⟨by (with_reducible repeat (first | refine blk_drewN ?_ _ | refine blk_drew ?_ | refine blk_alloc ?_ _)); refine blk_far ?_ NB425_428.out _; (with_reducible repeat (first | refine blk_drewN ?_ _ | refine blk_drew ?_ | refine blk_alloc ?_ _)); exact BK425.out⟩, ⟨by (with_reducible repeat (first | refine blk_drewN ?_ _ | refine blk_drew ?_ | refine blk_alloc ?_ _)); refine blk_put (cs := #[.int .i64 a0_0, u429001]) ?_ 1 _ rfl; (with_reducible repeat (first | refine blk_drewN ?_ _ | refine blk_drew ?_ | refine blk_alloc ?_ _)); exact BK428.out⟩, ⟨hB HB⟩⟩

end Go.Proofs.Ytenedmcobknefaa.P
