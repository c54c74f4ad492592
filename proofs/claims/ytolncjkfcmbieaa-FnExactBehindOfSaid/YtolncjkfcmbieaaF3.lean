import Derived.Test.YtolncjkfcmbieaaF0
import Derived.Test.YtolncjkfcmbieaaF1
import Derived.Test.YtolncjkfcmbieaaF2
namespace Go.Proofs.Ytolncjkfcmbieaa.P
open Go.RowKit Go.Proofs.YtolncjkfcmbieaaW.PrintWords Go.Proofs.YtolncjkfcmbieaaW.PrintLast Go.Proofs.YtolncjkfcmbieaaW.PrintMore
attribute [local go_sem] max2_int min2_int max_two min_two max_three min_three max_four min_four   -- for this text's walks alone
set_option linter.unusedVariables false
set_option linter.unusedSimpArgs false

mutual
def impl_behind.l0 : Nat → Int → Int → List Int → List (S162) → Int → Int → Option (List Int)
 | 0, _, _, _, _, _, _ => none
 | k + 1, x1, x2, x7, x14, x15, x16 => if x16 < x15 then (if 0 ≤ x16 then (if x16 < (x14.length : Int) then (if ((rd_T162 x14 x16).f0) = x2 then (impl_behind.j1 k x1 x2 x7 x14 x15 x16 (((rd_T162 x14 x16).f1) == x1) ((rd_T162 x14 x16).f0) ((rd_T162 x14 x16).f1)) else (impl_behind.j1 k x1 x2 x7 x14 x15 x16 false ((rd_T162 x14 x16).f0) ((rd_T162 x14 x16).f1))) else (none)) else (none)) else ((slices_Sort_int_int.f x7).bind fun t354 => (some t354))
def impl_behind.j1 : Nat → Int → Int → List Int → List (S162) → Int → Int → Bool → Int → Int → Option (List Int)
 | 0, _, _, _, _, _, _, _, _, _ => none
 | k + 1, x1, x2, x7, x14, x15, x16, x29, x357000, x357001 => if x29 = true then (impl_behind.l0 k x1 x2 x7 x14 x15 (wrap64 (x16 + 1))) else ((slices_Contains_int_int.f k x7 x357000).bind fun t357 => (if t357 = true then (if x7.length < 17592186044416 then (impl_behind.l0 k x1 x2 (x7 ++ [x357001]) x14 x15 (wrap64 (x16 + 1))) else (none)) else (impl_behind.l0 k x1 x2 x7 x14 x15 (wrap64 (x16 + 1)))))
end
def impl_behind.f (k : Nat) (l0 : List Int) (a1 : Int) (a2 : Int) : Option (List Int) := (impl_spread.f k l0 a2).bind fun t351 => (impl_behind.l0 k a1 a2 (([a2] : List Int)) t351 (t351.length : Int) 0)
theorem impl_behind.mono_l : ∀ k, (∀ y0 y1 y2 y3 y4 y5, LeO (impl_behind.l0 k y0 y1 y2 y3 y4 y5) (impl_behind.l0 (k + 1) y0 y1 y2 y3 y4 y5)) ∧ (∀ y0 y1 y2 y3 y4 y5 y6 y7 y8, LeO (impl_behind.j1 k y0 y1 y2 y3 y4 y5 y6 y7 y8) (impl_behind.j1 (k + 1) y0 y1 y2 y3 y4 y5 y6 y7 y8))
 | 0 => ⟨fun _ _ _ _ _ _ r h => by simp [impl_behind.l0] at h, fun _ _ _ _ _ _ _ _ _ r h => by simp [impl_behind.j1] at h⟩
 | k + 1 => by
  obtain ⟨ih0, ih1⟩ := impl_behind.mono_l k
  refine ⟨?_, ?_⟩
  ·intro y0 y1 y2 y3 y4 y5
   unfold impl_behind.l0
   repeat' first
   | (with_reducible exact ih0 _ _ _ _ _ _)
   | (with_reducible exact ih1 _ _ _ _ _ _ _ _ _)
   | (with_reducible exact impl_spread.mono _ _ _)
   | (with_reducible exact slices_Contains_int_int.mono _ _ _)
   | (with_reducible exact LeO.refl _)
   | (with_reducible exact LeO.none _)
   | (with_reducible refine LeO.ite ?_ ?_)
   | (with_reducible refine LeO.bind ?_ (fun _ => ?_))
  ·intro y0 y1 y2 y3 y4 y5 y6 y7 y8
   unfold impl_behind.j1
   repeat' first
   | (with_reducible exact ih0 _ _ _ _ _ _)
   | (with_reducible exact ih1 _ _ _ _ _ _ _ _ _)
   | (with_reducible exact impl_spread.mono _ _ _)
   | (with_reducible exact slices_Contains_int_int.mono _ _ _)
   | (with_reducible exact LeO.refl _)
   | (with_reducible exact LeO.none _)
   | (with_reducible refine LeO.ite ?_ ?_)
   | (with_reducible refine LeO.bind ?_ (fun _ => ?_))
theorem impl_behind.mono : ∀ a0 a1 a2 k, LeO (impl_behind.f k a0 a1 a2) (impl_behind.f (k + 1) a0 a1 a2) := by
 intro a0 a1 a2 k
 obtain ⟨ih0, ih1⟩ := impl_behind.mono_l k
 unfold impl_behind.f
 repeat' first
   | (with_reducible exact ih0 _ _ _ _ _ _)
   | (with_reducible exact ih1 _ _ _ _ _ _ _ _ _)
   | (with_reducible exact impl_spread.mono _ _ _)
   | (with_reducible exact slices_Contains_int_int.mono _ _ _)
   | (with_reducible exact LeO.refl _)
   | (with_reducible exact LeO.none _)
   | (with_reducible refine LeO.ite ?_ ?_)
   | (with_reducible refine LeO.bind ?_ (fun _ => ?_))
set_option maxHeartbeats 8000000 in
set_option maxRecDepth 100000 in
theorem impl_behind.calls (k : Nat) (A0 : Option Addr) (c0 : Nat) (l0 : List Int) (a1 : Int) (a2 : Int) (r : List Int) (w : World) (hr0 : Kd.C (Kd.int .i64) w A0 l0.length l0) (hc0 : l0.length ≤ c0) (h : impl_behind.f k l0 a1 a2 = some r) :
  Calls Try.prog 139 #[.slice A0 l0.length c0, .int .i64 a1, .int .i64 a2] w fun e w' => ∃ v0_ : Value, e = .returned (v0_) ∧ Kd.R (Kd.int .i64) 3 w' w.heap.size (fun _ => True) v0_ r ∧ Below w.heap.size w w' := by
 have hu162 := Try.underlying162
 have HR0 := Aside0.mk hr0
 have HC0 := Aside0.mk hc0
 clear hr0 hc0
 have HB := Aside0.mk (Below.refl w.heap.size w)
 have H : ((impl_spread.f k l0 a2).bind fun t351 => (impl_behind.l0 k a1 a2 (([a2] : List Int)) t351 (t351.length : Int) 0)) = some r := h
 clear h
 obtain ⟨y348, hy348⟩ : ∃ y_ : List Int, y_ = (([a2] : List Int)) := ⟨_, rfl⟩
 replace H : ((impl_spread.f k l0 a2).bind fun t351 => (impl_behind.l0 k a1 a2 y348 t351 (t351.length : Int) 0)) = some r := by first | (rw [hy348]; with_reducible exact H) | (have H2_ := (Option.bind_some _ _).symm.trans H; rw [hy348]; with_reducible exact H2_) | (have H2_ := (Option.bind_some _ _).symm.trans H; with_reducible exact H2_) | with_reducible exact H | (rw [hy348]; exact H) | exact H
 have Ny348 := Aside0.mk hy348
 clear hy348
 replace H := Option.bind_eq_some_iff.mp H
 obtain ⟨t351, A40, H⟩ := H
 replace H : (impl_behind.l0 k a1 a2 y348 t351 (t351.length : Int) 0) = some r := H
 have A4 := Aside0.mk A40
 clear A40
 have H' := Aside0.mk H
 clear H
 go_enter Try.func139, Try.ntmps139
 go_wp2_with (first | ((with_reducible refine gate_dst (N := 11) rfl ?_); refine Kd.R_lit (Kd.int .i64) _ 3 ?hg (N := 11) ?hd (xs := ([a2] : List Int)) (inner := [.int .i64 a2]) (ok := fun _ => True) (okp := fun _ => True) ?hr ?hp (fun _ hk => hk) trivial (Below.refl _ _) (Nat.le_refl _) (by simp) ?_; (case hd => rfl); (case hg => rfl); (case hr => first | (go_simp; done) | (go_simp; rfl)); (case hp => exact (Reps.one (show Kd.M (Kd.int .i64) _ _ _ a2 [.int .i64 a2] from rfl) (Reps.none _ _))); intro v349 w5 ho6 hb hg_ hnew_; clear hg_ hnew_; (first | rw [← Ny348.out] at ho6 | (simp only [Int.reduceToNat] at ho6; rw [← Ny348.out] at ho6)); have HO350 := Aside0.mk (Kd.R_lower ho6 (below_size (hB HB))); replace HB := bst_ HB hb; clear hb ho6) | ((with_reducible refine gate_callee (f := 147) rfl ?_); refine goesL_ (some 14) rfl rfl Try.func147 (by kernel_rfl) rfl #[.slice A0 l0.length c0, .int .i64 a2] rfl tm_ ?_; (with_reducible refine (impl_spread.calls k _ _ l0 a2 t351 _ ?side1 ?side2 A4.out).mono ?_); (case side1 => exact ca (Kd.C_below HR0.out HB.out)); (case side2 => exact HC0.out); rintro e w7 ⟨v352, rfl, ho0, hb⟩; refine ⟨_, rfl, ?_⟩; have HO353 := Aside0.mk (Kd.R_lower ho0 (below_size (hB HB))); replace HO350 := rb_ HO350 hb; replace HB := bst_ HB hb; clear hb ho0; obtain ⟨Ao8, co8, eo8⟩ := Kd.R_slice HO353.out; subst eo8))
 go_loopg [7, 16] k (fun kq v7 v16 w' => ∃ (x7_1 : List Int) (x16_1 : Int), v16 = .int .i64 x16_1 ∧ Aside0 (impl_behind.l0 kq a1 a2 x7_1 t351 (t351.length : Int) x16_1 = some r) ∧ Aside0 (kq ≤ k) ∧ Aside0 (Kd.R (Kd.int .i64) 3 w' w.heap.size (fun _ => True) v7 x7_1) ∧ Aside0 (Kd.R k162 162 w' w.heap.size (fun _ => True) (.slice Ao8 t351.length co8) t351) ∧ Aside0 (Below w.heap.size w w'))
 case atStart => exact ⟨(y348), (0), (by first | rfl | (simp; done) | (simp [*]; done)), H', ⟨Nat.le_refl _⟩, ⟨ra HO350.out⟩, ⟨ra HO353.out⟩, ⟨hB HB⟩⟩
 case round =>
  clear H'
  obtain ⟨x7_1, x16_1, rfl, HA, HK1, HO_7, HO_14, HB⟩ := hrel
  cases gk with
  | zero => exact absurd HA.out (by simp [impl_behind.l0])
  | succ k1 =>
   have H := HA.out
   clear HA
   simp only [impl_behind.l0] at H
   by_cases c9 : x16_1 < (t351.length : Int)
   rotate_left
   ·rw [if_neg c9] at H
    have c9b0 : decide (x16_1 < (t351.length : Int)) = false := decide_eq_false c9
    clear c9
    replace H := Option.bind_eq_some_iff.mp H
    obtain ⟨t354, A270, H⟩ := H
    replace H : (some t354) = some r := H
    have A27 := Aside0.mk A270
    clear A270
    obtain rfl := Option.some.inj H
    obtain ⟨Ao28, co28, eo28⟩ := Kd.R_slice HO_7.out
    subst eo28
    go_wp2_with (first | ((with_reducible refine gate_callee (f := 178) rfl ?_); refine goesL_ (some 41) rfl rfl Try.func178 (by kernel_rfl) rfl #[.slice Ao28 x7_1.length co28] rfl tm_ ?_; (with_reducible refine (slices_Sort_int_int.calls (fun k_ => some k_ = (.slice Ao28 x7_1.length co28 : Value).ownBlock) (.slice Ao28 x7_1.length co28) x7_1 t354 w _ ?side1 ?side2 A27.out).mono ?_); (case side1 => repeat (first | (with_reducible first | exact HB.out | apply below_alloc | apply pw_below_drewN | apply below_drew1) | exact HB.out)); (case side2 => exact Kd.R_tight rfl HO_7.out); rintro e w29 ⟨rfl, hy0, hb, hkp⟩; refine ⟨_, rfl, ?_⟩; replace HO_14 := Aside0.mk (Kd.R_mono (ok' := fun k_ => True) (Kd.R_keptB ((Kd.R_apart' HO_14.out (Kd.R_typed HO_7.out) (by decide))) hkp (fun k_ hk_ hs_ => (hk_.2) hs_)) (fun k_ hk_ => trivial)); replace HO_7 := Aside0.mk (Kd.R_reok rfl hy0 (fun k_ e_ => HO_7.out.1 k_ e_)); replace HB := Aside0.mk (hb); clear hb))
    go_ret
    exact ⟨_, by first | rfl | (simp [errW_none, errW_some] <;> rfl) | (simp [*, errW_none, errW_some] <;> rfl), by (with_reducible repeat (first | apply Kd.R_alloc | apply Kd.R_drewN | apply Kd.R_drew)); exact HO_7.out, by repeat (first | (with_reducible first | exact HB.out | apply below_alloc | apply pw_below_drewN | apply below_drew1) | exact HB.out)⟩
   rw [if_pos c9] at H
   have c9b0 : decide (x16_1 < (t351.length : Int)) = true := decide_eq_true c9
   clear c9
   by_cases c10 : 0 ≤ x16_1
   rotate_left
   ·rw [if_neg c10] at H
    exact absurd H (by simp)
   rw [if_pos c10] at H
   have c10b0 : decide (0 ≤ x16_1) = true := decide_eq_true c10
   clear c10
   by_cases c11 : x16_1 < (t351.length : Int)
   rotate_left
   ·rw [if_neg c11] at H
    exact absurd H (by simp)
   rw [if_pos c11] at H
   have c11b0 : decide (x16_1 < (t351.length : Int)) = true := decide_eq_true c11
   clear c11
   have HC12 := Aside0.mk H
   clear H
   have p355 : 0 ≤ (x16_1 : Int) := of_decide_eq_true (by first | (with_reducible assumption) | assumption)
   have q355 : x16_1 < (t351.length : Int) := of_decide_eq_true (by first | (with_reducible assumption) | assumption)
   obtain ⟨ad355, e355, hx355_0, hx355_1⟩ := at_T162 (Kd.R_reads' HO_14.out).2.2 x16_1 p355 q355
   cases e355
   replace p355 := eq_true p355
   replace q355 := eq_true q355
   go_upto_region 5 with (first | ((with_reducible refine gate_dst (N := 9) rfl ?_); refine box_event ?hg (N := 9) ?hd (cs := #[.int .i64 0, .int .i64 0]) (t := 162) ?hr ?_; (case hd => rfl); (case hg => rfl); (case hr => first | (go_simp; done) | (go_simp; rfl)); intro gb356 hg w13 hbox hb; have BK356 := Aside0.mk (hbox); have GW356 := gw_ hg HB; have GE356 := gw_ hg HB; replace HO_7 := rb_ HO_7 hb; replace HO_14 := Aside0.mk (Kd.R_below (Kd.R_elderB (ra HO_14.out) gb356 (Nat.le_of_eq hg.symm)) hb); replace HB := bst_ HB hb; clear hb hbox hg; have hcz14_0 : w13.cell? ⟨gb356, 0, none⟩ = some (.int .i64 0) := bc_ BK356 0; have hcz14_1 : w13.cell? ⟨gb356, 1, none⟩ = some (.int .i64 0) := bc_ BK356 1; have hfz14_0 := blk_frozen BK356.out 0; have hfz14_1 := blk_frozen BK356.out 1))
   (try simp only [Act.put, List.setIfInBounds_toArray, List.set_cons_zero, List.set_cons_succ])
   go_cut [29] (fun v29 wc => ∃ (kq : Nat) (x29_11 : Bool), v29 = .bool x29_11 ∧ Aside0 (impl_behind.j1 kq a1 a2 x7_1 t351 (t351.length : Int) x16_1 x29_11 ((rd_T162 t351 x16_1).f0) ((rd_T162 t351 x16_1).f1) = some r) ∧ Aside0 (kq ≤ k1) ∧ Aside0 (Kd.R (Kd.int .i64) 3 wc w.heap.size (fun _ => True) u7 x7_1) ∧ Aside0 (Kd.R k162 162 wc w.heap.size (fun k_ => k_ ≠ gb356) (.slice (some ad355) t351.length co8) t351) ∧ Aside0 (wc.heap[gb356]? = some (.cells #[.int .i64 ((rd_T162 t351 x16_1).f0), .int .i64 ((rd_T162 t351 x16_1).f1)] 162 (0, 0))) ∧ Aside0 (Below w.heap.size w wc))
   case first =>
    have H := HC12.out
    clear HC12
    by_cases c15 : ((rd_T162 t351 x16_1).f0) = a2
    rotate_left
    ·rw [if_neg c15] at H
     have c15b0 : (((rd_T162 t351 x16_1).f0) == a2) = false := beq_eq_false_iff_ne.mpr c15
     have c15b1 : (((rd_T162 t351 x16_1).f0) != a2) = true := bne_iff_ne.mpr c15
     (first | rw [c15b0] | (simp only [i64_w, i32_w]; rw [c15b0]) | skip)
     have H' := Aside0.mk H
     clear H
     have hcz17_0 : w13.cell? ⟨gb356, 0, none⟩ = some (.int .i64 0) := bc_ BK356 0
     have hcz17_1 : w13.cell? ⟨gb356, 1, none⟩ = some (.int .i64 0) := bc_ BK356 1
     have hfz17_0 := blk_frozen BK356.out 0
     have hfz17_1 := blk_frozen BK356.out 1
     go_wp2
     go_meet
     case rel => exact ⟨_, (false), (by first | rfl | (simp; done) | (simp [*]; done)), H', ⟨by have := HK1.out; first | omega | exact Nat.le_refl _⟩, ⟨by (with_reducible repeat (first | apply Kd.R_alloc | apply Kd.R_drewN | apply Kd.R_drew)); exact Kd.R_mono (Kd.R_far (p := ⟨gb356, 1, none⟩) (Kd.R_far (p := ⟨gb356, 0, none⟩) (Kd.R_types HO_7.out BK356.out (by decide)) (fun _ hk => hk.2) (.int .i64 ((rd_T162 t351 x16_1).f0))) (fun _ hk => hk.2) (.int .i64 ((rd_T162 t351 x16_1).f1))) (fun _ hk => trivial)⟩, ⟨by (with_reducible repeat (first | apply Kd.R_alloc | apply Kd.R_drewN | apply Kd.R_drew)); exact Kd.R_mono (Kd.R_far (p := ⟨gb356, 1, none⟩) (Kd.R_far (p := ⟨gb356, 0, none⟩) (Kd.R_mono HO_14.out (fun k_ hk => (⟨hk, hk.2⟩ : _ ∧ k_ ≠ gb356))) (fun _ hk => hk.2) (.int .i64 ((rd_T162 t351 x16_1).f0))) (fun _ hk => hk.2) (.int .i64 ((rd_T162 t351 x16_1).f1))) (fun _ hk => hk.1.2)⟩, ⟨by (with_reducible repeat (first | refine blk_drewN ?_ _ | refine blk_drew ?_ | refine blk_alloc ?_ _)); refine blk_put (cs := #[.int .i64 ((rd_T162 t351 x16_1).f0), .int .i64 0]) ?_ 1 _ rfl; (with_reducible repeat (first | refine blk_drewN ?_ _ | refine blk_drew ?_ | refine blk_alloc ?_ _)); refine blk_put (cs := #[.int .i64 0, .int .i64 0]) ?_ 0 _ rfl; (with_reducible repeat (first | refine blk_drewN ?_ _ | refine blk_drew ?_ | refine blk_alloc ?_ _)); exact BK356.out⟩, ⟨hB HB⟩⟩
    rw [if_pos c15] at H
    have c15b0 : (((rd_T162 t351 x16_1).f0) == a2) = true := beq_iff_eq.mpr c15
    have c15b1 : (((rd_T162 t351 x16_1).f0) != a2) = false := bne_eq_false_iff_eq.mpr c15
    clear c15
    (first | rw [c15b0] | (simp only [i64_w, i32_w]; rw [c15b0]) | skip)
    have H' := Aside0.mk H
    clear H
    have hcz16_0 : w13.cell? ⟨gb356, 0, none⟩ = some (.int .i64 0) := bc_ BK356 0
    have hcz16_1 : w13.cell? ⟨gb356, 1, none⟩ = some (.int .i64 0) := bc_ BK356 1
    have hfz16_0 := blk_frozen BK356.out 0
    have hfz16_1 := blk_frozen BK356.out 1
    go_wp2
    go_meet
    case rel => exact ⟨_, ((((rd_T162 t351 x16_1).f1) == a1)), (by first | rfl | (simp; done) | (simp [*]; done)), H', ⟨by have := HK1.out; first | omega | exact Nat.le_refl _⟩, ⟨by (with_reducible repeat (first | apply Kd.R_alloc | apply Kd.R_drewN | apply Kd.R_drew)); exact Kd.R_mono (Kd.R_far (p := ⟨gb356, 1, none⟩) (Kd.R_far (p := ⟨gb356, 0, none⟩) (Kd.R_types HO_7.out BK356.out (by decide)) (fun _ hk => hk.2) (.int .i64 ((rd_T162 t351 x16_1).f0))) (fun _ hk => hk.2) (.int .i64 ((rd_T162 t351 x16_1).f1))) (fun _ hk => trivial)⟩, ⟨by (with_reducible repeat (first | apply Kd.R_alloc | apply Kd.R_drewN | apply Kd.R_drew)); exact Kd.R_mono (Kd.R_far (p := ⟨gb356, 1, none⟩) (Kd.R_far (p := ⟨gb356, 0, none⟩) (Kd.R_mono HO_14.out (fun k_ hk => (⟨hk, hk.2⟩ : _ ∧ k_ ≠ gb356))) (fun _ hk => hk.2) (.int .i64 ((rd_T162 t351 x16_1).f0))) (fun _ hk => hk.2) (.int .i64 ((rd_T162 t351 x16_1).f1))) (fun _ hk => hk.1.2)⟩, ⟨by (with_reducible repeat (first | refine blk_drewN ?_ _ | refine blk_drew ?_ | refine blk_alloc ?_ _)); refine blk_put (cs := #[.int .i64 ((rd_T162 t351 x16_1).f0), .int .i64 0]) ?_ 1 _ rfl; (with_reducible repeat (first | refine blk_drewN ?_ _ | refine blk_drew ?_ | refine blk_alloc ?_ _)); refine blk_put (cs := #[.int .i64 0, .int .i64 0]) ?_ 0 _ rfl; (with_reducible repeat (first | refine blk_drewN ?_ _ | refine blk_drew ?_ | refine blk_alloc ?_ _)); exact BK356.out⟩, ⟨hB HB⟩⟩
   case rest =>
    clear HC12
    try clear c9
    try clear c9b0
    try clear c10
    try clear c10b0
    try clear c11
    try clear c11b0
    try clear hcz14_0
    try clear hcz14_1
    try clear hfz14_0
    try clear hfz14_1
    try clear hx355_0
    try clear hx355_1
    try clear p355
    try clear q355
    obtain ⟨kq, x29_11, rfl, HA, HJ11, HO_7, HO_14, BK356, HB⟩ := hcut
    cases kq with
    | zero => exact absurd HA.out (by simp [impl_behind.j1])
    | succ kj11 =>
     have H := HA.out
     clear HA
     simp only [impl_behind.j1] at H
     by_cases c18 : x29_11 = true
     ·subst c18
      rw [if_pos rfl] at H
      have H' := Aside0.mk H
      clear H
      go_wp2
      go_roundg kj11
      case measure => have := HK1.out; have := HJ11.out; omega
      case rel => exact ⟨(x7_1), (wrap64 (x16_1 + 1)), (by first | rfl | (simp; done) | (simp [*]; done)), H', ⟨by have := HK1.out; have := HJ11.out; omega⟩, ⟨ra HO_7.out⟩, rm_ HO_14 (fun _ hk => trivial), ⟨hB HB⟩⟩
     replace c18 := Bool.eq_false_iff.mpr c18
     subst c18
     rw [if_neg (show ¬ (false = true) by decide)] at H
     replace H := Option.bind_eq_some_iff.mp H
     obtain ⟨t357, A190, H⟩ := H
     replace H : (if t357 = true then (if x7_1.length < 17592186044416 then (impl_behind.l0 kj11 a1 a2 (x7_1 ++ [((rd_T162 t351 x16_1).f1)]) t351 (t351.length : Int) (wrap64 (x16_1 + 1))) else (none)) else (impl_behind.l0 kj11 a1 a2 x7_1 t351 (t351.length : Int) (wrap64 (x16_1 + 1)))) = some r := H
     have A19 := Aside0.mk A190
     clear A190
     by_cases c20 : t357 = true
     rotate_left
     ·replace c20 := Bool.eq_false_iff.mpr c20
      subst c20
      rw [if_neg (show ¬ (false = true) by decide)] at H
      have H' := Aside0.mk H
      clear H
      have hcz25_0 : wc.cell? ⟨gb356, 0, none⟩ = some (.int .i64 ((rd_T162 t351 x16_1).f0)) := bc_ BK356 0
      have hcz25_1 : wc.cell? ⟨gb356, 1, none⟩ = some (.int .i64 ((rd_T162 t351 x16_1).f1)) := bc_ BK356 1
      have hfz25_0 := blk_frozen BK356.out 0
      have hfz25_1 := blk_frozen BK356.out 1
      obtain ⟨Ao26, co26, eo26⟩ := Kd.R_slice HO_7.out
      subst eo26
      go_wp2_with (first | ((with_reducible refine gate_callee (f := 137) rfl ?_); refine goesL_ (some 33) rfl rfl Try.func137 (by kernel_rfl) rfl #[.slice Ao26 x7_1.length co26, .int .i64 ((rd_T162 t351 x16_1).f0)] rfl tm_ ?_; (with_reducible refine (slices_Contains_int_int.calls kj11 _ _ x7_1 ((rd_T162 t351 x16_1).f0) false _ ?side1 ?side2 A19.out).mono ?_); (case side1 => exact ca (Kd.R_reads' HO_7.out).2.2); (case side2 => exact (Kd.R_reads' HO_7.out).2.1); rintro e w' ⟨rfl, ⟨nd, rfl⟩⟩; refine ⟨_, rfl, ?_⟩))
      go_roundg kj11
      case measure => have := HK1.out; have := HJ11.out; omega
      case rel => exact ⟨(x7_1), (wrap64 (x16_1 + 1)), (by first | rfl | (simp; done) | (simp [*]; done)), H', ⟨by have := HK1.out; have := HJ11.out; omega⟩, ⟨ra HO_7.out⟩, rm_ HO_14 (fun _ hk => trivial), ⟨hB HB⟩⟩
     subst c20
     rw [if_pos rfl] at H
     by_cases c21 : x7_1.length < 17592186044416
     rotate_left
     ·rw [if_neg c21] at H
      exact absurd H (by simp)
     rw [if_pos c21] at H
     have LMc21 := Aside0.mk c21
     clear c21
     obtain ⟨y358, hy358⟩ : ∃ y_ : List Int, y_ = (x7_1 ++ [((rd_T162 t351 x16_1).f1)]) := ⟨_, rfl⟩
     replace H : (impl_behind.l0 kj11 a1 a2 y358 t351 (t351.length : Int) (wrap64 (x16_1 + 1))) = some r := by first | (rw [hy358]; with_reducible exact H) | (have H2_ := (Option.bind_some _ _).symm.trans H; rw [hy358]; with_reducible exact H2_) | (have H2_ := (Option.bind_some _ _).symm.trans H; with_reducible exact H2_) | with_reducible exact H | (rw [hy358]; exact H) | exact H
     have Ny358 := Aside0.mk hy358
     clear hy358
     have H' := Aside0.mk H
     clear H
     have hcz22_0 : wc.cell? ⟨gb356, 0, none⟩ = some (.int .i64 ((rd_T162 t351 x16_1).f0)) := bc_ BK356 0
     have hcz22_1 : wc.cell? ⟨gb356, 1, none⟩ = some (.int .i64 ((rd_T162 t351 x16_1).f1)) := bc_ BK356 1
     have hfz22_0 := blk_frozen BK356.out 0
     have hfz22_1 := blk_frozen BK356.out 1
     obtain ⟨Ao23, co23, eo23⟩ := Kd.R_slice HO_7.out
     subst eo23
     go_wp2_with (first | ((with_reducible refine gate_callee (f := 137) rfl ?_); refine goesL_ (some 33) rfl rfl Try.func137 (by kernel_rfl) rfl #[.slice Ao23 x7_1.length co23, .int .i64 ((rd_T162 t351 x16_1).f0)] rfl tm_ ?_; (with_reducible refine (slices_Contains_int_int.calls kj11 _ _ x7_1 ((rd_T162 t351 x16_1).f0) true _ ?side1 ?side2 A19.out).mono ?_); (case side1 => exact ca (Kd.R_reads' HO_7.out).2.2); (case side2 => exact (Kd.R_reads' HO_7.out).2.1); rintro e w' ⟨rfl, ⟨nd, rfl⟩⟩; refine ⟨_, rfl, ?_⟩) | ((with_reducible refine gate_builtin (b := .append) (xs := #[.tmp 34, .tmp 37]) rfl ?_); at_builtin; refine Kd.R_append (Kd.int .i64) (w0 := w) w.heap.size rfl (.tmp 34) (.tmp 37) 24 3 (.int .i64 0) 8 rfl Try.underlying24 info3 rfl (by decide) (by omega) (.slice Ao23 x7_1.length co23) x7_1 ((rd_T162 t351 x16_1).f1) [.int .i64 ((rd_T162 t351 x16_1).f1)] (fun _ => True) (fun _ => False) rfl rfl ?aP (fun _ hk => hk.elim) ?aF ?aO ?aB ?aS ?aL ?_; (case aP => exact rfl); (case aB => exact (hB HB)); (case aF => exact (fun _ _ => trivial)); (case aO => exact (ra HO_7.out)); (case aS => exact (below_size (hB HB))); (case aL => have := LMc21.out; omega); intro v359 w24 ho hb hg hat; rw [← Ny358.out] at ho; have HO360 := Aside0.mk (ho); replace HO_14 := Aside0.mk (Kd.R_over' (ra HO_14.out) (Kd.R_typed (ra HO_7.out)) (by decide) hg); replace BK356 := Aside0.mk (blk_grown (g := gb356) (o := .cells #[.int .i64 ((rd_T162 t351 x16_1).f0), .int .i64 ((rd_T162 t351 x16_1).f1)] 162 (0, 0)) (ba BK356.out) hg (Kd.R_ne HO_7.out BK356.out (by decide))); replace HB := Aside0.mk (hb); clear HO_7; clear ho hb hg hat))
     go_roundg kj11
     case measure => have := HK1.out; have := HJ11.out; omega
     case rel => exact ⟨(y358), (wrap64 (x16_1 + 1)), (by first | rfl | (simp; done) | (simp [*]; done)), H', ⟨by have := HK1.out; have := HJ11.out; omega⟩, ⟨ra HO360.out⟩, rm_ HO_14 (fun _ hk => trivial), ⟨hB HB⟩⟩

def impl_BehindOf.f (k : Nat) (l0 : List Int) (a1 : Int) (a2 : Int) : Option (List Int × Bool) := (impl_goodTree.f k l0 (([a1, a2] : List Int))).bind fun t364 => (if t364 = true then ((impl_branches.f k l0 a1).bind fun t365 => ((slices_Contains_int_int.f k t365 a2).bind fun t368 => (if t368 = true then ((impl_behind.f k l0 a1 a2).bind fun t369 => (some (t369, true))) else (some (([] : List Int), false))))) else (some (([] : List Int), false)))
theorem impl_BehindOf.mono : ∀ a0 a1 a2 k, LeO (impl_BehindOf.f k a0 a1 a2) (impl_BehindOf.f (k + 1) a0 a1 a2) := by
 intro a0 a1 a2 k
 unfold impl_BehindOf.f
 repeat' first
   | (with_reducible exact impl_behind.mono _ _ _ _)
   | (with_reducible exact impl_branches.mono _ _ _)
   | (with_reducible exact impl_goodTree.mono _ _ _)
   | (with_reducible exact slices_Contains_int_int.mono _ _ _)
   | (with_reducible exact LeO.refl _)
   | (with_reducible exact LeO.none _)
   | (with_reducible refine LeO.ite ?_ ?_)
   | (with_reducible refine LeO.bind ?_ (fun _ => ?_))
set_option maxHeartbeats 8000000 in
set_option maxRecDepth 100000 in
theorem impl_BehindOf.calls (k : Nat) (A0 : Option Addr) (c0 : Nat) (l0 : List Int) (a1 : Int) (a2 : Int) (r1 : List Int) (r2 : Bool) (w : World) (hr0 : Kd.C (Kd.int .i64) w A0 l0.length l0) (hc0 : l0.length ≤ c0) (h : impl_BehindOf.f k l0 a1 a2 = some (r1, r2)) :
  Calls Try.prog 72 #[.slice A0 l0.length c0, .int .i64 a1, .int .i64 a2] w fun e w' => ∃ v0_ : Value, e = .returned (.tuple #[v0_, .bool r2]) ∧ Kd.R (Kd.int .i64) 3 w' w.heap.size (fun _ => True) v0_ r1 ∧ Below w.heap.size w w' := by
 have HR0 := Aside0.mk hr0
 have HC0 := Aside0.mk hc0
 clear hr0 hc0
 have HB := Aside0.mk (Below.refl w.heap.size w)
 have H : ((impl_goodTree.f k l0 (([a1, a2] : List Int))).bind fun t364 => (if t364 = true then ((impl_branches.f k l0 a1).bind fun t365 => ((slices_Contains_int_int.f k t365 a2).bind fun t368 => (if t368 = true then ((impl_behind.f k l0 a1 a2).bind fun t369 => (some (t369, true))) else (some (([] : List Int), false))))) else (some (([] : List Int), false)))) = some (r1, r2) := h
 clear h
 obtain ⟨y361, hy361⟩ : ∃ y_ : List Int, y_ = (([a1, a2] : List Int)) := ⟨_, rfl⟩
 replace H : ((impl_goodTree.f k l0 y361).bind fun t364 => (if t364 = true then ((impl_branches.f k l0 a1).bind fun t365 => ((slices_Contains_int_int.f k t365 a2).bind fun t368 => (if t368 = true then ((impl_behind.f k l0 a1 a2).bind fun t369 => (some (t369, true))) else (some (([] : List Int), false))))) else (some (([] : List Int), false)))) = some (r1, r2) := by first | (rw [hy361]; with_reducible exact H) | (have H2_ := (Option.bind_some _ _).symm.trans H; rw [hy361]; with_reducible exact H2_) | (have H2_ := (Option.bind_some _ _).symm.trans H; with_reducible exact H2_) | with_reducible exact H | (rw [hy361]; exact H) | exact H
 have Ny361 := Aside0.mk hy361
 clear hy361
 replace H := Option.bind_eq_some_iff.mp H
 obtain ⟨t364, A40, H⟩ := H
 replace H : (if t364 = true then ((impl_branches.f k l0 a1).bind fun t365 => ((slices_Contains_int_int.f k t365 a2).bind fun t368 => (if t368 = true then ((impl_behind.f k l0 a1 a2).bind fun t369 => (some (t369, true))) else (some (([] : List Int), false))))) else (some (([] : List Int), false))) = some (r1, r2) := H
 have A4 := Aside0.mk A40
 clear A40
 by_cases c5 : t364 = true
 rotate_left
 ·replace c5 := Bool.eq_false_iff.mpr c5
  subst c5
  rw [if_neg (show ¬ (false = true) by decide)] at H
  simp only [Option.some.injEq, Prod.mk.injEq] at H
  obtain ⟨rfl, rfl⟩ := H
  go_enter Try.func72, Try.ntmps72
  go_wp2_with (first | ((with_reducible refine gate_dst (N := 11) rfl ?_); refine Kd.R_lit (Kd.int .i64) _ 3 ?hg (N := 11) ?hd (xs := ([a1, a2] : List Int)) (inner := [.int .i64 a1, .int .i64 a2]) (ok := fun _ => True) (okp := fun _ => True) ?hr ?hp (fun _ hk => hk) trivial (Below.refl _ _) (Nat.le_refl _) (by simp) ?_; (case hd => rfl); (case hg => rfl); (case hr => first | (go_simp; done) | (go_simp; rfl)); (case hp => exact (Reps.one (show Kd.M (Kd.int .i64) _ _ _ a1 [.int .i64 a1] from rfl) (Reps.one (show Kd.M (Kd.int .i64) _ _ _ a2 [.int .i64 a2] from rfl) (Reps.none _ _)))); intro v362 w21 ho22 hb hg_ hnew_; clear hg_ hnew_; (first | rw [← Ny361.out] at ho22 | (simp only [Int.reduceToNat] at ho22; rw [← Ny361.out] at ho22)); have HO363 := Aside0.mk (Kd.R_lower ho22 (below_size (hB HB))); replace HB := bst_ HB hb; clear hb ho22; obtain ⟨Ao23, co23, eo23⟩ := Kd.R_slice HO363.out; subst eo23) | ((with_reducible refine gate_callee (f := 136) rfl ?_); refine goesL_ (some 12) rfl rfl Try.func136 (by kernel_rfl) rfl #[.slice A0 l0.length c0, .slice Ao23 y361.length co23] rfl tm_ ?_; (with_reducible refine (impl_goodTree.calls k _ _ l0 _ _ y361 false _ ?side1 ?side2 ?side3 ?side4 A4.out).mono ?_); (case side1 => exact ca (Kd.C_below HR0.out HB.out)); (case side2 => exact HC0.out); (case side3 => exact ca (Kd.R_reads' HO363.out).2.2); (case side4 => exact (Kd.R_reads' HO363.out).2.1); rintro e w' ⟨rfl, ⟨nd, rfl⟩⟩; refine ⟨_, rfl, ?_⟩))
  go_ret2
  exact ⟨_, by first | rfl | (simp [errW_none, errW_some] <;> rfl) | (simp [*, errW_none, errW_some] <;> rfl), by first | exact Kd.R_nil _ _ _ _ _ | exact Kd.N_nil _ _ _ _ _ | exact Kd.V_nil _ _ _ _ _ | exact Kd.Q_nil _ _ _ _ _ | exact Kd.S_nil _ _ _ _ _, by repeat (first | (with_reducible first | exact HB.out | apply below_alloc | apply pw_below_drewN | apply below_drew1) | exact HB.out)⟩
 subst c5
 rw [if_pos rfl] at H
 replace H := Option.bind_eq_some_iff.mp H
 obtain ⟨t365, A60, H⟩ := H
 replace H : ((slices_Contains_int_int.f k t365 a2).bind fun t368 => (if t368 = true then ((impl_behind.f k l0 a1 a2).bind fun t369 => (some (t369, true))) else (some (([] : List Int), false)))) = some (r1, r2) := H
 have A6 := Aside0.mk A60
 clear A60
 replace H := Option.bind_eq_some_iff.mp H
 obtain ⟨t368, A70, H⟩ := H
 replace H : (if t368 = true then ((impl_behind.f k l0 a1 a2).bind fun t369 => (some (t369, true))) else (some (([] : List Int), false))) = some (r1, r2) := H
 have A7 := Aside0.mk A70
 clear A70
 by_cases c8 : t368 = true
 rotate_left
 ·replace c8 := Bool.eq_false_iff.mpr c8
  subst c8
  rw [if_neg (show ¬ (false = true) by decide)] at H
  simp only [Option.some.injEq, Prod.mk.injEq] at H
  obtain ⟨rfl, rfl⟩ := H
  go_enter Try.func72, Try.ntmps72
  go_wp2_with (first | ((with_reducible refine gate_dst (N := 11) rfl ?_); refine Kd.R_lit (Kd.int .i64) _ 3 ?hg (N := 11) ?hd (xs := ([a1, a2] : List Int)) (inner := [.int .i64 a1, .int .i64 a2]) (ok := fun _ => True) (okp := fun _ => True) ?hr ?hp (fun _ hk => hk) trivial (Below.refl _ _) (Nat.le_refl _) (by simp) ?_; (case hd => rfl); (case hg => rfl); (case hr => first | (go_simp; done) | (go_simp; rfl)); (case hp => exact (Reps.one (show Kd.M (Kd.int .i64) _ _ _ a1 [.int .i64 a1] from rfl) (Reps.one (show Kd.M (Kd.int .i64) _ _ _ a2 [.int .i64 a2] from rfl) (Reps.none _ _)))); intro v362 w16 ho17 hb hg_ hnew_; clear hg_ hnew_; (first | rw [← Ny361.out] at ho17 | (simp only [Int.reduceToNat] at ho17; rw [← Ny361.out] at ho17)); have HO363 := Aside0.mk (Kd.R_lower ho17 (below_size (hB HB))); replace HB := bst_ HB hb; clear hb ho17; obtain ⟨Ao18, co18, eo18⟩ := Kd.R_slice HO363.out; subst eo18) | ((with_reducible refine gate_callee (f := 136) rfl ?_); refine goesL_ (some 12) rfl rfl Try.func136 (by kernel_rfl) rfl #[.slice A0 l0.length c0, .slice Ao18 y361.length co18] rfl tm_ ?_; (with_reducible refine (impl_goodTree.calls k _ _ l0 _ _ y361 true _ ?side1 ?side2 ?side3 ?side4 A4.out).mono ?_); (case side1 => exact ca (Kd.C_below HR0.out HB.out)); (case side2 => exact HC0.out); (case side3 => exact ca (Kd.R_reads' HO363.out).2.2); (case side4 => exact (Kd.R_reads' HO363.out).2.1); rintro e w' ⟨rfl, ⟨nd, rfl⟩⟩; refine ⟨_, rfl, ?_⟩) | (go_at_call 138; (with_reducible refine (impl_branches.calls k _ _ l0 a1 t365 _ ?side1 ?side2 A6.out).mono ?_); (case side1 => exact ca (Kd.C_below HR0.out (hB HB))); (case side2 => exact HC0.out); rintro e w19 ⟨v366, rfl, ho0, hb⟩; have HO367 := Aside0.mk (Kd.R_lower (Kd.R_new' ho0 (rl_ HO363)) (below_size (hB HB))); replace HO363 := re_ HO363 ho0 hb; replace HB := bst_ HB hb; clear hb ho0; obtain ⟨Ao20, co20, eo20⟩ := Kd.R_slice HO367.out; subst eo20) | (go_at_call 137; (with_reducible refine (slices_Contains_int_int.calls k _ _ t365 a2 false _ ?side1 ?side2 A7.out).mono ?_); (case side1 => exact ca (Kd.R_reads' HO367.out).2.2); (case side2 => exact (Kd.R_reads' HO367.out).2.1); rintro e w' ⟨rfl, ⟨nd, rfl⟩⟩))
  go_ret2
  exact ⟨_, by first | rfl | (simp [errW_none, errW_some] <;> rfl) | (simp [*, errW_none, errW_some] <;> rfl), by first | exact Kd.R_nil _ _ _ _ _ | exact Kd.N_nil _ _ _ _ _ | exact Kd.V_nil _ _ _ _ _ | exact Kd.Q_nil _ _ _ _ _ | exact Kd.S_nil _ _ _ _ _, by repeat (first | (with_reducible first | exact HB.out | apply below_alloc | apply pw_below_drewN | apply below_drew1) | exact HB.out)⟩
 subst c8
 rw [if_pos rfl] at H
 replace H := Option.bind_eq_some_iff.mp H
 obtain ⟨t369, A90, H⟩ := H
 replace H : (some (t369, true)) = some (r1, r2) := H
 have A9 := Aside0.mk A90
 clear A90
 simp only [Option.some.injEq, Prod.mk.injEq] at H
 obtain ⟨rfl, rfl⟩ := H
 go_enter Try.func72, Try.ntmps72
 go_wp2_with (first | ((with_reducible refine gate_dst (N := 11) rfl ?_); refine Kd.R_lit (Kd.int .i64) _ 3 ?hg (N := 11) ?hd (xs := ([a1, a2] : List Int)) (inner := [.int .i64 a1, .int .i64 a2]) (ok := fun _ => True) (okp := fun _ => True) ?hr ?hp (fun _ hk => hk) trivial (Below.refl _ _) (Nat.le_refl _) (by simp) ?_; (case hd => rfl); (case hg => rfl); (case hr => first | (go_simp; done) | (go_simp; rfl)); (case hp => exact (Reps.one (show Kd.M (Kd.int .i64) _ _ _ a1 [.int .i64 a1] from rfl) (Reps.one (show Kd.M (Kd.int .i64) _ _ _ a2 [.int .i64 a2] from rfl) (Reps.none _ _)))); intro v362 w10 ho11 hb hg_ hnew_; clear hg_ hnew_; (first | rw [← Ny361.out] at ho11 | (simp only [Int.reduceToNat] at ho11; rw [← Ny361.out] at ho11)); have HO363 := Aside0.mk (Kd.R_lower ho11 (below_size (hB HB))); replace HB := bst_ HB hb; clear hb ho11; obtain ⟨Ao12, co12, eo12⟩ := Kd.R_slice HO363.out; subst eo12) | ((with_reducible refine gate_callee (f := 136) rfl ?_); refine goesL_ (some 12) rfl rfl Try.func136 (by kernel_rfl) rfl #[.slice A0 l0.length c0, .slice Ao12 y361.length co12] rfl tm_ ?_; (with_reducible refine (impl_goodTree.calls k _ _ l0 _ _ y361 true _ ?side1 ?side2 ?side3 ?side4 A4.out).mono ?_); (case side1 => exact ca (Kd.C_below HR0.out HB.out)); (case side2 => exact HC0.out); (case side3 => exact ca (Kd.R_reads' HO363.out).2.2); (case side4 => exact (Kd.R_reads' HO363.out).2.1); rintro e w' ⟨rfl, ⟨nd, rfl⟩⟩; refine ⟨_, rfl, ?_⟩) | (go_at_call 138; (with_reducible refine (impl_branches.calls k _ _ l0 a1 t365 _ ?side1 ?side2 A6.out).mono ?_); (case side1 => exact ca (Kd.C_below HR0.out (hB HB))); (case side2 => exact HC0.out); rintro e w13 ⟨v366, rfl, ho0, hb⟩; have HO367 := Aside0.mk (Kd.R_lower (Kd.R_new' ho0 (rl_ HO363)) (below_size (hB HB))); replace HO363 := re_ HO363 ho0 hb; replace HB := bst_ HB hb; clear hb ho0; obtain ⟨Ao14, co14, eo14⟩ := Kd.R_slice HO367.out; subst eo14) | (go_at_call 137; (with_reducible refine (slices_Contains_int_int.calls k _ _ t365 a2 true _ ?side1 ?side2 A7.out).mono ?_); (case side1 => exact ca (Kd.R_reads' HO367.out).2.2); (case side2 => exact (Kd.R_reads' HO367.out).2.1); rintro e w' ⟨rfl, ⟨nd, rfl⟩⟩) | ((with_reducible refine gate_callee (f := 139) rfl ?_); refine goesL_ (some 25) rfl rfl Try.func139 (by kernel_rfl) rfl #[.slice A0 l0.length c0, .int .i64 a1, .int .i64 a2] rfl tm_ ?_; (with_reducible refine (impl_behind.calls k _ _ l0 a1 a2 t369 _ ?side1 ?side2 A9.out).mono ?_); (case side1 => exact ca (Kd.C_below HR0.out (hB HB))); (case side2 => exact HC0.out); rintro e w15 ⟨v370, rfl, ho0, hb⟩; refine ⟨_, rfl, ?_⟩; have HO371 := Aside0.mk (Kd.R_lower (Kd.R_new' (Kd.R_new' ho0 (rl_ HO363)) (rl_ HO367)) (below_size (hB HB))); replace HO363 := re_ HO363 ho0 hb; replace HO367 := re_ HO367 ho0 hb; replace HB := bst_ HB hb; clear hb ho0))
 go_ret2
 exact ⟨_, by first | rfl | (simp [errW_none, errW_some] <;> rfl) | (simp [*, errW_none, errW_some] <;> rfl), by (with_reducible repeat (first | apply Kd.R_alloc | apply Kd.R_drewN | apply Kd.R_drew)); exact Kd.R_mono HO371.out (fun _ hk => trivial), by repeat (first | (with_reducible first | exact HB.out | apply below_alloc | apply pw_below_drewN | apply below_drew1) | exact HB.out)⟩

mutual
def laws_FnExactBehindOf.j0 : Nat → List Int → Int → Int → List Int → Bool → List Int → List Int → Bool → Bool → Option (Bool)
 | 0, _, _, _, _, _, _, _, _, _ => none
 | k + 1, x0, x1, x2, x7, x8, x9, x10, x11, x45 => if x45 = true then (some false) else ((laws_toIntS.f k x0).bind fun t387 => ((laws_eqIntS.f k x9 t387).bind fun t390 => (if t390 = true then ((laws_markIntS.f k x9 1).bind fun bt391 => (if bt391.1 < 0 then (laws_FnExactBehindOf.j1 k x0 x1 x2 x7 x8 x10 true) else ((laws_eqIntS.f k x10 x7).bind fun t393 => (if t393 = true then (laws_FnExactBehindOf.j1 k x0 x1 x2 x7 x8 x10 (x11 != x8)) else (laws_FnExactBehindOf.j1 k x0 x1 x2 x7 x8 x10 true))))) else (some false))))
def laws_FnExactBehindOf.j1 : Nat → List Int → Int → Int → List Int → Bool → List Int → Bool → Option (Bool)
 | 0, _, _, _, _, _, _, _ => none
 | k + 1, x0, x1, x2, x7, x8, x10, x66 => if x66 = true then (some false) else ((laws_markIntS.f k x10 1).bind fun bt394 => ((laws_heldIntS.f k bt394.2 1).bind fun t396 => (if t396 < 0 then (some false) else (if t396 = bt394.1 then ((laws_toIntS.f k x0).bind fun t397 => ((impl_BehindOf.f k t397 x1 x2).bind fun bt400 => ((laws_eqIntS.f k bt400.1 x7).bind fun t404 => (if t404 = true then (laws_FnExactBehindOf.j2 k bt394.2 bt394.1 (bt400.2 != x8)) else (laws_FnExactBehindOf.j2 k bt394.2 bt394.1 true))))) else (some false)))))
def laws_FnExactBehindOf.j2 : Nat → List Int → Int → Bool → Option (Bool)
 | 0, _, _, _ => none
 | k + 1, x10, x13, x94 => if x94 = true then (some false) else ((laws_heldIntS.f k x10 1).bind fun t405 => (if t405 < 0 then (some false) else (if t405 = x13 then (some true) else (some false))))
end
def laws_FnExactBehindOf.f (k : Nat) (l0 : List Int) (a1 : Int) (a2 : Int) : Option (Bool) := if (l0.length : Int) > 1048576 then (some true) else ((laws_toIntS.f k l0).bind fun t372 => ((spec_BehindOf.f k t372 a1 a2).bind fun bt375 => ((laws_toIntS.f k l0).bind fun t379 => ((impl_BehindOf.f k t379 a1 a2).bind fun bt382 => ((laws_eqIntS.f k bt382.1 bt375.1).bind fun t386 => (if t386 = true then (laws_FnExactBehindOf.j0 k l0 a1 a2 bt375.1 bt375.2 t379 bt382.1 bt382.2 (bt382.2 != bt375.2)) else (laws_FnExactBehindOf.j0 k l0 a1 a2 bt375.1 bt375.2 t379 bt382.1 bt382.2 true)))))))
theorem laws_FnExactBehindOf.mono_l : ∀ k, (∀ y0 y1 y2 y3 y4 y5 y6 y7 y8, LeO (laws_FnExactBehindOf.j0 k y0 y1 y2 y3 y4 y5 y6 y7 y8) (laws_FnExactBehindOf.j0 (k + 1) y0 y1 y2 y3 y4 y5 y6 y7 y8)) ∧ (∀ y0 y1 y2 y3 y4 y5 y6, LeO (laws_FnExactBehindOf.j1 k y0 y1 y2 y3 y4 y5 y6) (laws_FnExactBehindOf.j1 (k + 1) y0 y1 y2 y3 y4 y5 y6)) ∧ (∀ y0 y1 y2, LeO (laws_FnExactBehindOf.j2 k y0 y1 y2) (laws_FnExactBehindOf.j2 (k + 1) y0 y1 y2))
 | 0 => ⟨fun _ _ _ _ _ _ _ _ _ r h => by simp [laws_FnExactBehindOf.j0] at h, fun _ _ _ _ _ _ _ r h => by simp [laws_FnExactBehindOf.j1] at h, fun _ _ _ r h => by simp [laws_FnExactBehindOf.j2] at h⟩
 | k + 1 => by
  obtain ⟨ih0, ih1, ih2⟩ := laws_FnExactBehindOf.mono_l k
  refine ⟨?_, ?_, ?_⟩
  ·intro y0 y1 y2 y3 y4 y5 y6 y7 y8
   unfold laws_FnExactBehindOf.j0
   repeat' first
   | (with_reducible exact ih0 _ _ _ _ _ _ _ _ _)
   | (with_reducible exact ih1 _ _ _ _ _ _ _)
   | (with_reducible exact ih2 _ _ _)
   | (with_reducible exact impl_BehindOf.mono _ _ _ _)
   | (with_reducible exact laws_eqIntS.mono _ _ _)
   | (with_reducible exact laws_heldIntS.mono _ _ _)
   | (with_reducible exact laws_markIntS.mono _ _ _)
   | (with_reducible exact laws_toIntS.mono _ _)
   | (with_reducible exact spec_BehindOf.mono _ _ _ _)
   | (with_reducible exact LeO.refl _)
   | (with_reducible exact LeO.none _)
   | (with_reducible refine LeO.ite ?_ ?_)
   | (with_reducible refine LeO.bind ?_ (fun _ => ?_))
  ·intro y0 y1 y2 y3 y4 y5 y6
   unfold laws_FnExactBehindOf.j1
   repeat' first
   | (with_reducible exact ih0 _ _ _ _ _ _ _ _ _)
   | (with_reducible exact ih1 _ _ _ _ _ _ _)
   | (with_reducible exact ih2 _ _ _)
   | (with_reducible exact impl_BehindOf.mono _ _ _ _)
   | (with_reducible exact laws_eqIntS.mono _ _ _)
   | (with_reducible exact laws_heldIntS.mono _ _ _)
   | (with_reducible exact laws_markIntS.mono _ _ _)
   | (with_reducible exact laws_toIntS.mono _ _)
   | (with_reducible exact spec_BehindOf.mono _ _ _ _)
   | (with_reducible exact LeO.refl _)
   | (with_reducible exact LeO.none _)
   | (with_reducible refine LeO.ite ?_ ?_)
   | (with_reducible refine LeO.bind ?_ (fun _ => ?_))
  ·intro y0 y1 y2
   unfold laws_FnExactBehindOf.j2
   repeat' first
   | (with_reducible exact ih0 _ _ _ _ _ _ _ _ _)
   | (with_reducible exact ih1 _ _ _ _ _ _ _)
   | (with_reducible exact ih2 _ _ _)
   | (with_reducible exact impl_BehindOf.mono _ _ _ _)
   | (with_reducible exact laws_eqIntS.mono _ _ _)
   | (with_reducible exact laws_heldIntS.mono _ _ _)
   | (with_reducible exact laws_markIntS.mono _ _ _)
   | (with_reducible exact laws_toIntS.mono _ _)
   | (with_reducible exact spec_BehindOf.mono _ _ _ _)
   | (with_reducible exact LeO.refl _)
   | (with_reducible exact LeO.none _)
   | (with_reducible refine LeO.ite ?_ ?_)
   | (with_reducible refine LeO.bind ?_ (fun _ => ?_))
theorem laws_FnExactBehindOf.mono : ∀ a0 a1 a2 k, LeO (laws_FnExactBehindOf.f k a0 a1 a2) (laws_FnExactBehindOf.f (k + 1) a0 a1 a2) := by
 intro a0 a1 a2 k
 obtain ⟨ih0, ih1, ih2⟩ := laws_FnExactBehindOf.mono_l k
 unfold laws_FnExactBehindOf.f
 repeat' first
   | (with_reducible exact ih0 _ _ _ _ _ _ _ _ _)
   | (with_reducible exact ih1 _ _ _ _ _ _ _)
   | (with_reducible exact ih2 _ _ _)
   | (with_reducible exact impl_BehindOf.mono _ _ _ _)
   | (with_reducible exact laws_eqIntS.mono _ _ _)
   | (with_reducible exact laws_heldIntS.mono _ _ _)
   | (with_reducible exact laws_markIntS.mono _ _ _)
   | (with_reducible exact laws_toIntS.mono _ _)
   | (with_reducible exact spec_BehindOf.mono _ _ _ _)
   | (with_reducible exact LeO.refl _)
   | (with_reducible exact LeO.none _)
   | (with_reducible refine LeO.ite ?_ ?_)
   | (with_reducible refine LeO.bind ?_ (fun _ => ?_))
set_option maxHeartbeats 8000000 in
set_option maxRecDepth 100000 in
theorem laws_FnExactBehindOf.calls (k : Nat) (A0 : Option Addr) (c0 : Nat) (l0 : List Int) (a1 : Int) (a2 : Int) (r : Bool) (w : World) (hr0 : Kd.C (Kd.int .i64) w A0 l0.length l0) (hc0 : l0.length ≤ c0) (h : laws_FnExactBehindOf.f k l0 a1 a2 = some r) :
  Calls Try.prog 12 #[.slice A0 l0.length c0, .int .i64 a1, .int .i64 a2] w fun e w' => e = .returned (.bool r) ∧ Below w.heap.size w w' := by
 have HR0 := Aside0.mk hr0
 have HC0 := Aside0.mk hc0
 clear hr0 hc0
 have HB := Aside0.mk (Below.refl w.heap.size w)
 have H : (if (l0.length : Int) > 1048576 then (some true) else ((laws_toIntS.f k l0).bind fun t372 => ((spec_BehindOf.f k t372 a1 a2).bind fun bt375 => ((laws_toIntS.f k l0).bind fun t379 => ((impl_BehindOf.f k t379 a1 a2).bind fun bt382 => ((laws_eqIntS.f k bt382.1 bt375.1).bind fun t386 => (if t386 = true then (laws_FnExactBehindOf.j0 k l0 a1 a2 bt375.1 bt375.2 t379 bt382.1 bt382.2 (bt382.2 != bt375.2)) else (laws_FnExactBehindOf.j0 k l0 a1 a2 bt375.1 bt375.2 t379 bt382.1 bt382.2 true)))))))) = some r := h
 clear h
 by_cases c4 : (l0.length : Int) > 1048576
 ·rw [if_pos c4] at H
  have c4b0 : decide (1048576 < (l0.length : Int)) = true := decide_eq_true c4
  have c4b1 : decide (1048576 < l0.length) = true := decide_eq_true (by omega)
  clear c4
  obtain rfl := Option.some.inj H
  go_enter Try.func12, Try.ntmps12
  go_wp2
  go_ret
  exact ⟨by first | rfl | (simp [errW_none, errW_some] <;> rfl) | (simp [*, errW_none, errW_some] <;> rfl), by repeat (first | (with_reducible first | exact HB.out | apply below_alloc | apply pw_below_drewN | apply below_drew1) | exact HB.out)⟩
 rw [if_neg c4] at H
 have c4b0 : decide (1048576 < (l0.length : Int)) = false := decide_eq_false c4
 have c4b1 : decide (1048576 < l0.length) = false := decide_eq_false (by omega)
 clear c4
 replace H := Option.bind_eq_some_iff.mp H
 obtain ⟨t372, A50, H⟩ := H
 replace H : ((spec_BehindOf.f k t372 a1 a2).bind fun bt375 => ((laws_toIntS.f k l0).bind fun t379 => ((impl_BehindOf.f k t379 a1 a2).bind fun bt382 => ((laws_eqIntS.f k bt382.1 bt375.1).bind fun t386 => (if t386 = true then (laws_FnExactBehindOf.j0 k l0 a1 a2 bt375.1 bt375.2 t379 bt382.1 bt382.2 (bt382.2 != bt375.2)) else (laws_FnExactBehindOf.j0 k l0 a1 a2 bt375.1 bt375.2 t379 bt382.1 bt382.2 true)))))) = some r := H
 have A5 := Aside0.mk A50
 clear A50
 replace H := Option.bind_eq_some_iff.mp H
 obtain ⟨⟨t375, t376⟩, A60, H⟩ := H
 replace H : ((laws_toIntS.f k l0).bind fun t379 => ((impl_BehindOf.f k t379 a1 a2).bind fun bt382 => ((laws_eqIntS.f k bt382.1 t375).bind fun t386 => (if t386 = true then (laws_FnExactBehindOf.j0 k l0 a1 a2 t375 t376 t379 bt382.1 bt382.2 (bt382.2 != t376)) else (laws_FnExactBehindOf.j0 k l0 a1 a2 t375 t376 t379 bt382.1 bt382.2 true))))) = some r := H
 have A6 := Aside0.mk A60
 clear A60
 replace H := Option.bind_eq_some_iff.mp H
 obtain ⟨t379, A70, H⟩ := H
 replace H : ((impl_BehindOf.f k t379 a1 a2).bind fun bt382 => ((laws_eqIntS.f k bt382.1 t375).bind fun t386 => (if t386 = true then (laws_FnExactBehindOf.j0 k l0 a1 a2 t375 t376 t379 bt382.1 bt382.2 (bt382.2 != t376)) else (laws_FnExactBehindOf.j0 k l0 a1 a2 t375 t376 t379 bt382.1 bt382.2 true)))) = some r := H
 have A7 := Aside0.mk A70
 clear A70
 replace H := Option.bind_eq_some_iff.mp H
 obtain ⟨⟨t382, t383⟩, A80, H⟩ := H
 replace H : ((laws_eqIntS.f k t382 t375).bind fun t386 => (if t386 = true then (laws_FnExactBehindOf.j0 k l0 a1 a2 t375 t376 t379 t382 t383 (t383 != t376)) else (laws_FnExactBehindOf.j0 k l0 a1 a2 t375 t376 t379 t382 t383 true))) = some r := H
 have A8 := Aside0.mk A80
 clear A80
 have HC9 := Aside0.mk H
 clear H
 go_enter Try.func12, Try.ntmps12
 go_upto_region 6 with (first | ((with_reducible refine gate_callee (f := 71) rfl ?_); refine goesL_ (some 22) rfl rfl Try.func71 (by kernel_rfl) rfl #[.slice A0 l0.length c0] rfl tm_ ?_; (with_reducible refine (laws_toIntS.calls k _ _ l0 t372 _ ?side1 ?side2 A5.out).mono ?_); (case side1 => exact ca HR0.out); (case side2 => exact HC0.out); rintro e w10 ⟨v373, rfl, ho0, hb⟩; refine ⟨_, rfl, ?_⟩; have HO374 := Aside0.mk (Kd.R_lower ho0 (below_size (hB HB))); replace HB := bst_ HB hb; clear hb ho0; obtain ⟨Ao11, co11, eo11⟩ := Kd.R_slice HO374.out; subst eo11) | ((with_reducible refine gate_callee (f := 70) rfl ?_); refine goesL_ (some 25) rfl rfl Try.func70 (by kernel_rfl) rfl #[.slice Ao11 t372.length co11, .int .i64 a1, .int .i64 a2] rfl tm_ ?_; (with_reducible refine (spec_BehindOf.calls k _ _ t372 a1 a2 t375 t376 _ ?side1 ?side2 A6.out).mono ?_); (case side1 => exact ca (Kd.R_reads' HO374.out).2.2); (case side2 => exact (Kd.R_reads' HO374.out).2.1); rintro e w12 ⟨v377, rfl, ho0, hb⟩; refine ⟨_, rfl, ?_⟩; have HO378 := Aside0.mk (Kd.R_lower (Kd.R_new' ho0 (rl_ HO374)) (below_size (hB HB))); replace HO374 := re_ HO374 ho0 hb; replace HB := bst_ HB hb; clear hb ho0) | ((with_reducible refine gate_callee (f := 71) rfl ?_); refine goesL_ (some 29) rfl rfl Try.func71 (by kernel_rfl) rfl #[.slice A0 l0.length c0] rfl tm_ ?_; (with_reducible refine (laws_toIntS.calls k _ _ l0 t379 _ ?side1 ?side2 A7.out).mono ?_); (case side1 => exact ca (Kd.C_below HR0.out HB.out)); (case side2 => exact HC0.out); rintro e w13 ⟨v380, rfl, ho0, hb⟩; refine ⟨_, rfl, ?_⟩; have HO381 := Aside0.mk (Kd.R_lower (Kd.R_new' (Kd.R_new' ho0 (rl_ HO374)) (rl_ HO378)) (below_size (hB HB))); replace HO374 := re_ HO374 ho0 hb; replace HO378 := re_ HO378 ho0 hb; replace HB := bst_ HB hb; clear hb ho0; obtain ⟨Ao14, co14, eo14⟩ := Kd.R_slice HO381.out; subst eo14) | ((with_reducible refine gate_callee (f := 72) rfl ?_); refine goesL_ (some 34) rfl rfl Try.func72 (by kernel_rfl) rfl #[.slice Ao14 t379.length co14, .int .i64 a1, .int .i64 a2] rfl tm_ ?_; (with_reducible refine (impl_BehindOf.calls k _ _ t379 a1 a2 t382 t383 _ ?side1 ?side2 A8.out).mono ?_); (case side1 => exact ca (Kd.R_reads' HO381.out).2.2); (case side2 => exact (Kd.R_reads' HO381.out).2.1); rintro e w15 ⟨v384, rfl, ho0, hb⟩; refine ⟨_, rfl, ?_⟩; have HO385 := Aside0.mk (Kd.R_lower (Kd.R_new' (Kd.R_new' (Kd.R_new' ho0 (rl_ HO374)) (rl_ HO378)) (rl_ HO381)) (below_size (hB HB))); replace HO374 := re_ HO374 ho0 hb; replace HO378 := re_ HO378 ho0 hb; replace HO381 := re_ HO381 ho0 hb; replace HB := bst_ HB hb; clear hb ho0))
 (try simp only [Act.put, List.setIfInBounds_toArray, List.set_cons_zero, List.set_cons_succ])
 go_cut [45] (fun v45 wc => ∃ (kq : Nat) (x45_8 : Bool), v45 = .bool x45_8 ∧ Aside0 (laws_FnExactBehindOf.j0 kq l0 a1 a2 t375 t376 t379 t382 t383 x45_8 = some r) ∧ Aside0 (kq ≤ k) ∧ Aside0 (Kd.R (Kd.int .i64) 3 wc w.heap.size (fun k_ => no_ (.slice Ao14 t379.length co14) k_ ∧ no_ v384 k_) v377 t375) ∧ Aside0 (Kd.R (Kd.int .i64) 3 wc w.heap.size (fun k_ => no_ v377 k_ ∧ no_ v384 k_) (.slice Ao14 t379.length co14) t379) ∧ Aside0 (Kd.R (Kd.int .i64) 3 wc w.heap.size (fun k_ => no_ v377 k_ ∧ no_ (.slice Ao14 t379.length co14) k_) v384 t382) ∧ Aside0 (Below w.heap.size w wc))
 case first =>
  have H := HC9.out
  clear HC9
  replace H := Option.bind_eq_some_iff.mp H
  obtain ⟨t386, A160, H⟩ := H
  replace H : (if t386 = true then (laws_FnExactBehindOf.j0 k l0 a1 a2 t375 t376 t379 t382 t383 (t383 != t376)) else (laws_FnExactBehindOf.j0 k l0 a1 a2 t375 t376 t379 t382 t383 true)) = some r := H
  have A16 := Aside0.mk A160
  clear A160
  by_cases c17 : t386 = true
  ·subst c17
   rw [if_pos rfl] at H
   have H' := Aside0.mk H
   clear H
   obtain ⟨Ao18, co18, eo18⟩ := Kd.R_slice HO385.out
   subst eo18
   obtain ⟨Ao19, co19, eo19⟩ := Kd.R_slice HO378.out
   subst eo19
   go_wp2_with (first | ((with_reducible refine gate_callee (f := 19) rfl ?_); refine goesL_ (some 39) rfl rfl Try.func19 (by kernel_rfl) rfl #[.slice Ao18 t382.length co18, .slice Ao19 t375.length co19] rfl tm_ ?_; (with_reducible refine (laws_eqIntS.calls k _ _ t382 _ _ t375 true _ ?side1 ?side2 ?side3 ?side4 A16.out).mono ?_); (case side1 => exact ca (Kd.R_reads' HO385.out).2.2); (case side2 => exact (Kd.R_reads' HO385.out).2.1); (case side3 => exact ca (Kd.R_reads' HO378.out).2.2); (case side4 => exact (Kd.R_reads' HO378.out).2.1); rintro e w' ⟨rfl, ⟨nd, rfl⟩⟩; refine ⟨_, rfl, ?_⟩))
   go_meet
   case rel => exact ⟨_, ((t383 != t376)), (by first | rfl | (simp; done) | (simp [*]; done)), H', ⟨by first | omega | exact Nat.le_refl _⟩, rm_ HO378 (fun _ hk => ⟨hk.1.2, hk.2⟩), rm_ HO381 (fun _ hk => ⟨hk.1.2, hk.2⟩), rm_ HO385 (fun _ hk => ⟨hk.1.2, hk.2⟩), ⟨hB HB⟩⟩
  replace c17 := Bool.eq_false_iff.mpr c17
  subst c17
  rw [if_neg (show ¬ (false = true) by decide)] at H
  have H' := Aside0.mk H
  clear H
  obtain ⟨Ao20, co20, eo20⟩ := Kd.R_slice HO385.out
  subst eo20
  obtain ⟨Ao21, co21, eo21⟩ := Kd.R_slice HO378.out
  subst eo21
  go_wp2_with (first | ((with_reducible refine gate_callee (f := 19) rfl ?_); refine goesL_ (some 39) rfl rfl Try.func19 (by kernel_rfl) rfl #[.slice Ao20 t382.length co20, .slice Ao21 t375.length co21] rfl tm_ ?_; (with_reducible refine (laws_eqIntS.calls k _ _ t382 _ _ t375 false _ ?side1 ?side2 ?side3 ?side4 A16.out).mono ?_); (case side1 => exact ca (Kd.R_reads' HO385.out).2.2); (case side2 => exact (Kd.R_reads' HO385.out).2.1); (case side3 => exact ca (Kd.R_reads' HO378.out).2.2); (case side4 => exact (Kd.R_reads' HO378.out).2.1); rintro e w' ⟨rfl, ⟨nd, rfl⟩⟩; refine ⟨_, rfl, ?_⟩))
  go_meet
  case rel => exact ⟨_, (true), (by first | rfl | (simp; done) | (simp [*]; done)), H', ⟨by first | omega | exact Nat.le_refl _⟩, rm_ HO378 (fun _ hk => ⟨hk.1.2, hk.2⟩), rm_ HO381 (fun _ hk => ⟨hk.1.2, hk.2⟩), rm_ HO385 (fun _ hk => ⟨hk.1.2, hk.2⟩), ⟨hB HB⟩⟩
 case rest =>
  clear HC9
  try clear c4
  try clear c4b0
  try clear c4b1
  obtain ⟨kq, x45_8, rfl, HA, HJ8, HO_7, HO_9, HO_10, HB⟩ := hcut
  cases kq with
  | zero => exact absurd HA.out (by simp [laws_FnExactBehindOf.j0])
  | succ kj8 =>
   have H := HA.out
   clear HA
   simp only [laws_FnExactBehindOf.j0] at H
   by_cases c22 : x45_8 = true
   ·subst c22
    rw [if_pos rfl] at H
    obtain rfl := Option.some.inj H
    go_wp2
    go_ret
    exact ⟨by first | rfl | (simp [errW_none, errW_some] <;> rfl) | (simp [*, errW_none, errW_some] <;> rfl), by repeat (first | (with_reducible first | exact HB.out | apply below_alloc | apply pw_below_drewN | apply below_drew1) | exact HB.out)⟩
   replace c22 := Bool.eq_false_iff.mpr c22
   subst c22
   rw [if_neg (show ¬ (false = true) by decide)] at H
   replace H := Option.bind_eq_some_iff.mp H
   obtain ⟨t387, A230, H⟩ := H
   replace H : ((laws_eqIntS.f kj8 t379 t387).bind fun t390 => (if t390 = true then ((laws_markIntS.f kj8 t379 1).bind fun bt391 => (if bt391.1 < 0 then (laws_FnExactBehindOf.j1 kj8 l0 a1 a2 t375 t376 t382 true) else ((laws_eqIntS.f kj8 t382 t375).bind fun t393 => (if t393 = true then (laws_FnExactBehindOf.j1 kj8 l0 a1 a2 t375 t376 t382 (t383 != t376)) else (laws_FnExactBehindOf.j1 kj8 l0 a1 a2 t375 t376 t382 true))))) else (some false))) = some r := H
   have A23 := Aside0.mk A230
   clear A230
   replace H := Option.bind_eq_some_iff.mp H
   obtain ⟨t390, A240, H⟩ := H
   replace H : (if t390 = true then ((laws_markIntS.f kj8 t379 1).bind fun bt391 => (if bt391.1 < 0 then (laws_FnExactBehindOf.j1 kj8 l0 a1 a2 t375 t376 t382 true) else ((laws_eqIntS.f kj8 t382 t375).bind fun t393 => (if t393 = true then (laws_FnExactBehindOf.j1 kj8 l0 a1 a2 t375 t376 t382 (t383 != t376)) else (laws_FnExactBehindOf.j1 kj8 l0 a1 a2 t375 t376 t382 true))))) else (some false)) = some r := H
   have A24 := Aside0.mk A240
   clear A240
   by_cases c25 : t390 = true
   rotate_left
   ·replace c25 := Bool.eq_false_iff.mpr c25
    subst c25
    rw [if_neg (show ¬ (false = true) by decide)] at H
    obtain rfl := Option.some.inj H
    go_wp2_with (first | ((with_reducible refine gate_callee (f := 71) rfl ?_); refine goesL_ (some 48) rfl rfl Try.func71 (by kernel_rfl) rfl #[.slice A0 l0.length c0] rfl tm_ ?_; (with_reducible refine (laws_toIntS.calls kj8 _ _ l0 t387 _ ?side1 ?side2 A23.out).mono ?_); (case side1 => exact ca (Kd.C_below HR0.out HB.out)); (case side2 => exact HC0.out); rintro e w65 ⟨v388, rfl, ho0, hb⟩; refine ⟨_, rfl, ?_⟩; have HO389 := Aside0.mk (Kd.R_lower (Kd.R_new' (Kd.R_new' (Kd.R_new' ho0 (rl_ HO_7)) (rl_ HO_9)) (rl_ HO_10)) (below_size (hB HB))); replace HO_7 := re_ HO_7 ho0 hb; replace HO_9 := re_ HO_9 ho0 hb; replace HO_10 := re_ HO_10 ho0 hb; replace HB := bst_ HB hb; clear hb ho0; obtain ⟨Ao66, co66, eo66⟩ := Kd.R_slice HO389.out; subst eo66) | ((with_reducible refine gate_callee (f := 19) rfl ?_); refine goesL_ (some 49) rfl rfl Try.func19 (by kernel_rfl) rfl #[.slice Ao14 t379.length co14, .slice Ao66 t387.length co66] rfl tm_ ?_; (with_reducible refine (laws_eqIntS.calls kj8 _ _ t379 _ _ t387 false _ ?side1 ?side2 ?side3 ?side4 A24.out).mono ?_); (case side1 => exact ca (Kd.R_reads' HO_9.out).2.2); (case side2 => exact (Kd.R_reads' HO_9.out).2.1); (case side3 => exact ca (Kd.R_reads' HO389.out).2.2); (case side4 => exact (Kd.R_reads' HO389.out).2.1); rintro e w' ⟨rfl, ⟨nd, rfl⟩⟩; refine ⟨_, rfl, ?_⟩))
    go_ret
    exact ⟨by first | rfl | (simp [errW_none, errW_some] <;> rfl) | (simp [*, errW_none, errW_some] <;> rfl), by repeat (first | (with_reducible first | exact HB.out | apply below_alloc | apply pw_below_drewN | apply below_drew1) | exact HB.out)⟩
   subst c25
   rw [if_pos rfl] at H
   replace H := Option.bind_eq_some_iff.mp H
   obtain ⟨⟨t391, t392⟩, A260, H⟩ := H
   replace H : (if t391 < 0 then (laws_FnExactBehindOf.j1 kj8 l0 a1 a2 t375 t376 t382 true) else ((laws_eqIntS.f kj8 t382 t375).bind fun t393 => (if t393 = true then (laws_FnExactBehindOf.j1 kj8 l0 a1 a2 t375 t376 t382 (t383 != t376)) else (laws_FnExactBehindOf.j1 kj8 l0 a1 a2 t375 t376 t382 true)))) = some r := H
   have A26 := Aside0.mk A260
   clear A260
   have HC27 := Aside0.mk H
   clear H
   go_upto_region 12 with (first | ((with_reducible refine gate_callee (f := 71) rfl ?_); refine goesL_ (some 48) rfl rfl Try.func71 (by kernel_rfl) rfl #[.slice A0 l0.length c0] rfl tm_ ?_; (with_reducible refine (laws_toIntS.calls kj8 _ _ l0 t387 _ ?side1 ?side2 A23.out).mono ?_); (case side1 => exact ca (Kd.C_below HR0.out HB.out)); (case side2 => exact HC0.out); rintro e w28 ⟨v388, rfl, ho0, hb⟩; refine ⟨_, rfl, ?_⟩; have HO389 := Aside0.mk (Kd.R_lower (Kd.R_new' (Kd.R_new' (Kd.R_new' ho0 (rl_ HO_7)) (rl_ HO_9)) (rl_ HO_10)) (below_size (hB HB))); replace HO_7 := re_ HO_7 ho0 hb; replace HO_9 := re_ HO_9 ho0 hb; replace HO_10 := re_ HO_10 ho0 hb; replace HB := bst_ HB hb; clear hb ho0; obtain ⟨Ao29, co29, eo29⟩ := Kd.R_slice HO389.out; subst eo29) | ((with_reducible refine gate_callee (f := 19) rfl ?_); refine goesL_ (some 49) rfl rfl Try.func19 (by kernel_rfl) rfl #[.slice Ao14 t379.length co14, .slice Ao29 t387.length co29] rfl tm_ ?_; (with_reducible refine (laws_eqIntS.calls kj8 _ _ t379 _ _ t387 true _ ?side1 ?side2 ?side3 ?side4 A24.out).mono ?_); (case side1 => exact ca (Kd.R_reads' HO_9.out).2.2); (case side2 => exact (Kd.R_reads' HO_9.out).2.1); (case side3 => exact ca (Kd.R_reads' HO389.out).2.2); (case side4 => exact (Kd.R_reads' HO389.out).2.1); rintro e w' ⟨rfl, ⟨nd, rfl⟩⟩; refine ⟨_, rfl, ?_⟩) | ((with_reducible refine gate_callee (f := 22) rfl ?_); refine goesL_ (some 53) rfl rfl Try.func22 (by kernel_rfl) rfl #[.slice Ao14 t379.length co14, .int .i64 1] rfl tm_ ?_; (with_reducible refine (laws_markIntS.calls kj8 (fun k_ => some k_ = (.slice Ao14 t379.length co14 : Value).ownBlock) (.slice Ao14 t379.length co14) t379 1 t391 t392 w _ ?side1 ?side2 A26.out).mono ?_); (case side1 => repeat (first | (with_reducible first | exact HB.out | apply below_alloc | apply pw_below_drewN | apply below_drew1) | exact HB.out)); (case side2 => exact Kd.R_tight rfl HO_9.out); rintro e w30 ⟨rfl, hy0, hb, hkp⟩; refine ⟨_, rfl, ?_⟩; replace HO_7 := Aside0.mk (Kd.R_mono (ok' := fun k_ => no_ (.slice Ao14 t379.length co14) k_ ∧ no_ v384 k_ ∧ no_ (.slice Ao29 t387.length co29) k_) (Kd.R_keptB (HO_7.out) hkp (fun k_ hk_ hs_ => (hk_.1.1) hs_)) (fun k_ hk_ => ⟨hk_.1.1.1, hk_.1.1.2, hk_.1.2⟩)); replace HO_9 := Aside0.mk (Kd.R_reok rfl hy0 (fun k_ e_ => HO_9.out.1 k_ e_)); replace HO_10 := Aside0.mk (Kd.R_mono (ok' := fun k_ => no_ v377 k_ ∧ no_ (.slice Ao14 t379.length co14) k_ ∧ no_ (.slice Ao29 t387.length co29) k_) (Kd.R_keptB (HO_10.out) hkp (fun k_ hk_ hs_ => (hk_.1.2) hs_)) (fun k_ hk_ => ⟨hk_.1.1.1, hk_.1.1.2, hk_.1.2⟩)); replace HO389 := Aside0.mk (Kd.R_mono (ok' := fun k_ => no_ v377 k_ ∧ no_ (.slice Ao14 t379.length co14) k_ ∧ no_ v384 k_) (Kd.R_keptB (HO389.out) hkp (fun k_ hk_ hs_ => (hk_.1.2) hs_)) (fun k_ hk_ => ⟨hk_.1.1.1.2, hk_.1.1.2, hk_.1.2⟩)); replace HB := Aside0.mk (hb); clear hb))
   (try simp only [Act.put, List.setIfInBounds_toArray, List.set_cons_zero, List.set_cons_succ])
   go_cut [66] (fun v66 wc => ∃ (kq : Nat) (x66_26 : Bool), v66 = .bool x66_26 ∧ Aside0 (laws_FnExactBehindOf.j1 kq l0 a1 a2 t375 t376 t382 x66_26 = some r) ∧ Aside0 (kq ≤ kj8) ∧ Aside0 (Kd.R (Kd.int .i64) 3 wc w.heap.size (fun k_ => no_ v384 k_) v377 t375) ∧ Aside0 (Kd.R (Kd.int .i64) 3 wc w.heap.size (fun k_ => no_ v377 k_) v384 t382) ∧ Aside0 (Below w.heap.size w wc))
   case first =>
    have H := HC27.out
    clear HC27
    by_cases c31 : t391 < 0
    ·rw [if_pos c31] at H
     have c31b0 : decide (t391 < 0) = true := decide_eq_true c31
     clear c31
     (first | rw [c31b0] | (simp only [i64_w, i32_w]; rw [c31b0]) | skip)
     have H' := Aside0.mk H
     clear H
     go_wp2
     go_meet
     case rel => exact ⟨_, (true), (by first | rfl | (simp; done) | (simp [*]; done)), H', ⟨by have := HJ8.out; first | omega | exact Nat.le_refl _⟩, rm_ HO_7 (fun _ hk => hk.2.1), rm_ HO_10 (fun _ hk => hk.1), ⟨hB HB⟩⟩
    rw [if_neg c31] at H
    have c31b0 : decide (t391 < 0) = false := decide_eq_false c31
    clear c31
    (first | rw [c31b0] | (simp only [i64_w, i32_w]; rw [c31b0]) | skip)
    replace H := Option.bind_eq_some_iff.mp H
    obtain ⟨t393, A320, H⟩ := H
    replace H : (if t393 = true then (laws_FnExactBehindOf.j1 kj8 l0 a1 a2 t375 t376 t382 (t383 != t376)) else (laws_FnExactBehindOf.j1 kj8 l0 a1 a2 t375 t376 t382 true)) = some r := H
    have A32 := Aside0.mk A320
    clear A320
    by_cases c33 : t393 = true
    ·subst c33
     rw [if_pos rfl] at H
     have H' := Aside0.mk H
     clear H
     obtain ⟨Ao34, co34, eo34⟩ := Kd.R_slice HO_10.out
     subst eo34
     obtain ⟨Ao35, co35, eo35⟩ := Kd.R_slice HO_7.out
     subst eo35
     go_wp2_with (first | (go_at_call 19; (with_reducible refine (laws_eqIntS.calls kj8 _ _ t382 _ _ t375 true _ ?side1 ?side2 ?side3 ?side4 A32.out).mono ?_); (case side1 => exact ca (Kd.R_reads' HO_10.out).2.2); (case side2 => exact (Kd.R_reads' HO_10.out).2.1); (case side3 => exact ca (Kd.R_reads' HO_7.out).2.2); (case side4 => exact (Kd.R_reads' HO_7.out).2.1); rintro e w' ⟨rfl, ⟨nd, rfl⟩⟩))
     go_meet
     case rel => exact ⟨_, ((t383 != t376)), (by first | rfl | (simp; done) | (simp [*]; done)), H', ⟨by have := HJ8.out; first | omega | exact Nat.le_refl _⟩, rm_ HO_7 (fun _ hk => hk.2.1), rm_ HO_10 (fun _ hk => hk.1), ⟨hB HB⟩⟩
    replace c33 := Bool.eq_false_iff.mpr c33
    subst c33
    rw [if_neg (show ¬ (false = true) by decide)] at H
    have H' := Aside0.mk H
    clear H
    obtain ⟨Ao36, co36, eo36⟩ := Kd.R_slice HO_10.out
    subst eo36
    obtain ⟨Ao37, co37, eo37⟩ := Kd.R_slice HO_7.out
    subst eo37
    go_wp2_with (first | (go_at_call 19; (with_reducible refine (laws_eqIntS.calls kj8 _ _ t382 _ _ t375 false _ ?side1 ?side2 ?side3 ?side4 A32.out).mono ?_); (case side1 => exact ca (Kd.R_reads' HO_10.out).2.2); (case side2 => exact (Kd.R_reads' HO_10.out).2.1); (case side3 => exact ca (Kd.R_reads' HO_7.out).2.2); (case side4 => exact (Kd.R_reads' HO_7.out).2.1); rintro e w' ⟨rfl, ⟨nd, rfl⟩⟩))
    go_meet
    case rel => exact ⟨_, (true), (by first | rfl | (simp; done) | (simp [*]; done)), H', ⟨by have := HJ8.out; first | omega | exact Nat.le_refl _⟩, rm_ HO_7 (fun _ hk => hk.2.1), rm_ HO_10 (fun _ hk => hk.1), ⟨hB HB⟩⟩
   case rest =>
    clear HC27
    try clear c4
    try clear c4b0
    try clear c4b1
    try clear c22
    try clear c25
    obtain ⟨kq, x66_26, rfl, HA, HJ26, HO_7, HO_10, HB⟩ := hcut
    cases kq with
    | zero => exact absurd HA.out (by simp [laws_FnExactBehindOf.j1])
    | succ kj26 =>
     have H := HA.out
     clear HA
     simp only [laws_FnExactBehindOf.j1] at H
     by_cases c38 : x66_26 = true
     ·subst c38
      rw [if_pos rfl] at H
      obtain rfl := Option.some.inj H
      go_wp2
      go_ret
      exact ⟨by first | rfl | (simp [errW_none, errW_some] <;> rfl) | (simp [*, errW_none, errW_some] <;> rfl), by repeat (first | (with_reducible first | exact HB.out | apply below_alloc | apply pw_below_drewN | apply below_drew1) | exact HB.out)⟩
     replace c38 := Bool.eq_false_iff.mpr c38
     subst c38
     rw [if_neg (show ¬ (false = true) by decide)] at H
     replace H := Option.bind_eq_some_iff.mp H
     obtain ⟨⟨t394, t395⟩, A390, H⟩ := H
     replace H : ((laws_heldIntS.f kj26 t395 1).bind fun t396 => (if t396 < 0 then (some false) else (if t396 = t394 then ((laws_toIntS.f kj26 l0).bind fun t397 => ((impl_BehindOf.f kj26 t397 a1 a2).bind fun bt400 => ((laws_eqIntS.f kj26 bt400.1 t375).bind fun t404 => (if t404 = true then (laws_FnExactBehindOf.j2 kj26 t395 t394 (bt400.2 != t376)) else (laws_FnExactBehindOf.j2 kj26 t395 t394 true))))) else (some false)))) = some r := H
     have A39 := Aside0.mk A390
     clear A390
     replace H := Option.bind_eq_some_iff.mp H
     obtain ⟨t396, A400, H⟩ := H
     replace H : (if t396 < 0 then (some false) else (if t396 = t394 then ((laws_toIntS.f kj26 l0).bind fun t397 => ((impl_BehindOf.f kj26 t397 a1 a2).bind fun bt400 => ((laws_eqIntS.f kj26 bt400.1 t375).bind fun t404 => (if t404 = true then (laws_FnExactBehindOf.j2 kj26 t395 t394 (bt400.2 != t376)) else (laws_FnExactBehindOf.j2 kj26 t395 t394 true))))) else (some false))) = some r := H
     have A40 := Aside0.mk A400
     clear A400
     by_cases c41 : t396 < 0
     ·rw [if_pos c41] at H
      have c41b0 : decide (t396 < 0) = true := decide_eq_true c41
      clear c41
      obtain rfl := Option.some.inj H
      obtain ⟨Ao42, co42, eo42⟩ := Kd.R_slice HO_10.out
      subst eo42
      go_wp2_with (first | ((with_reducible refine gate_callee (f := 22) rfl ?_); refine goesL_ (some 69) rfl rfl Try.func22 (by kernel_rfl) rfl #[.slice Ao42 t382.length co42, .int .i64 1] rfl tm_ ?_; (with_reducible refine (laws_markIntS.calls kj26 (fun k_ => some k_ = (.slice Ao42 t382.length co42 : Value).ownBlock) (.slice Ao42 t382.length co42) t382 1 t394 t395 w _ ?side1 ?side2 A39.out).mono ?_); (case side1 => repeat (first | (with_reducible first | exact HB.out | apply below_alloc | apply pw_below_drewN | apply below_drew1) | exact HB.out)); (case side2 => exact Kd.R_tight rfl HO_10.out); rintro e w43 ⟨rfl, hy0, hb, hkp⟩; refine ⟨_, rfl, ?_⟩; replace HO_7 := Aside0.mk (Kd.R_mono (ok' := fun k_ => no_ (.slice Ao42 t382.length co42) k_) (Kd.R_keptB (HO_7.out) hkp (fun k_ hk_ hs_ => (hk_) hs_)) (fun k_ hk_ => hk_.1)); replace HO_10 := Aside0.mk (Kd.R_reok rfl hy0 (fun k_ e_ => HO_10.out.1 k_ e_)); replace HB := Aside0.mk (hb); clear hb) | ((with_reducible refine gate_callee (f := 23) rfl ?_); refine goesL_ (some 72) rfl rfl Try.func23 (by kernel_rfl) rfl #[.slice Ao42 t395.length co42, .int .i64 1] rfl (by (try simp only [List.map_toArray, List.map_cons, List.map_nil]); first | done | (rw [show t395.length = t382.length from (Kd.R_reads' HO_10.out).1.symm] <;> rfl) | rfl | (simp only [List.length_drop, List.length_take]; rfl)) ?_; (with_reducible refine (laws_heldIntS.calls kj26 _ _ t395 1 t396 _ ?side1 ?side2 A40.out).mono ?_); (case side1 => exact ca (Kd.R_reads' HO_10.out).2.2); (case side2 => rw [show t395.length = t382.length from (Kd.R_reads' HO_10.out).1.symm]; exact (Kd.R_reads' HO_10.out).2.1); rintro e w' ⟨rfl, ⟨nd, rfl⟩⟩; refine ⟨_, rfl, ?_⟩))
      go_ret
      exact ⟨by first | rfl | (simp [errW_none, errW_some] <;> rfl) | (simp [*, errW_none, errW_some] <;> rfl), by repeat (first | (with_reducible first | exact HB.out | apply below_alloc | apply pw_below_drewN | apply below_drew1) | exact HB.out)⟩
     rw [if_neg c41] at H
     have c41b0 : decide (t396 < 0) = false := decide_eq_false c41
     clear c41
     by_cases c44 : t396 = t394
     rotate_left
     ·rw [if_neg c44] at H
      have c44b0 : (t396 == t394) = false := beq_eq_false_iff_ne.mpr c44
      have c44b1 : (t396 != t394) = true := bne_iff_ne.mpr c44
      obtain rfl := Option.some.inj H
      obtain ⟨Ao63, co63, eo63⟩ := Kd.R_slice HO_10.out
      subst eo63
      go_wp2_with (first | ((with_reducible refine gate_callee (f := 22) rfl ?_); refine goesL_ (some 69) rfl rfl Try.func22 (by kernel_rfl) rfl #[.slice Ao63 t382.length co63, .int .i64 1] rfl tm_ ?_; (with_reducible refine (laws_markIntS.calls kj26 (fun k_ => some k_ = (.slice Ao63 t382.length co63 : Value).ownBlock) (.slice Ao63 t382.length co63) t382 1 t394 t395 w _ ?side1 ?side2 A39.out).mono ?_); (case side1 => repeat (first | (with_reducible first | exact HB.out | apply below_alloc | apply pw_below_drewN | apply below_drew1) | exact HB.out)); (case side2 => exact Kd.R_tight rfl HO_10.out); rintro e w64 ⟨rfl, hy0, hb, hkp⟩; refine ⟨_, rfl, ?_⟩; replace HO_7 := Aside0.mk (Kd.R_mono (ok' := fun k_ => no_ (.slice Ao63 t382.length co63) k_) (Kd.R_keptB (HO_7.out) hkp (fun k_ hk_ hs_ => (hk_) hs_)) (fun k_ hk_ => hk_.1)); replace HO_10 := Aside0.mk (Kd.R_reok rfl hy0 (fun k_ e_ => HO_10.out.1 k_ e_)); replace HB := Aside0.mk (hb); clear hb) | ((with_reducible refine gate_callee (f := 23) rfl ?_); refine goesL_ (some 72) rfl rfl Try.func23 (by kernel_rfl) rfl #[.slice Ao63 t395.length co63, .int .i64 1] rfl (by (try simp only [List.map_toArray, List.map_cons, List.map_nil]); first | done | (rw [show t395.length = t382.length from (Kd.R_reads' HO_10.out).1.symm] <;> rfl) | rfl | (simp only [List.length_drop, List.length_take]; rfl)) ?_; (with_reducible refine (laws_heldIntS.calls kj26 _ _ t395 1 t396 _ ?side1 ?side2 A40.out).mono ?_); (case side1 => exact ca (Kd.R_reads' HO_10.out).2.2); (case side2 => rw [show t395.length = t382.length from (Kd.R_reads' HO_10.out).1.symm]; exact (Kd.R_reads' HO_10.out).2.1); rintro e w' ⟨rfl, ⟨nd, rfl⟩⟩; refine ⟨_, rfl, ?_⟩))
      go_ret
      exact ⟨by first | rfl | (simp [errW_none, errW_some] <;> rfl) | (simp [*, errW_none, errW_some] <;> rfl), by repeat (first | (with_reducible first | exact HB.out | apply below_alloc | apply pw_below_drewN | apply below_drew1) | exact HB.out)⟩
     rw [if_pos c44] at H
     have c44b0 : (t396 == t394) = true := beq_iff_eq.mpr c44
     have c44b1 : (t396 != t394) = false := bne_eq_false_iff_eq.mpr c44
     clear c44
     replace H := Option.bind_eq_some_iff.mp H
     obtain ⟨t397, A450, H⟩ := H
     replace H : ((impl_BehindOf.f kj26 t397 a1 a2).bind fun bt400 => ((laws_eqIntS.f kj26 bt400.1 t375).bind fun t404 => (if t404 = true then (laws_FnExactBehindOf.j2 kj26 t395 t394 (bt400.2 != t376)) else (laws_FnExactBehindOf.j2 kj26 t395 t394 true)))) = some r := H
     have A45 := Aside0.mk A450
     clear A450
     replace H := Option.bind_eq_some_iff.mp H
     obtain ⟨⟨t400, t401⟩, A460, H⟩ := H
     replace H : ((laws_eqIntS.f kj26 t400 t375).bind fun t404 => (if t404 = true then (laws_FnExactBehindOf.j2 kj26 t395 t394 (t401 != t376)) else (laws_FnExactBehindOf.j2 kj26 t395 t394 true))) = some r := H
     have A46 := Aside0.mk A460
     clear A460
     have HC47 := Aside0.mk H
     clear H
     obtain ⟨Ao48, co48, eo48⟩ := Kd.R_slice HO_10.out
     subst eo48
     go_upto_region 23 with (first | ((with_reducible refine gate_callee (f := 22) rfl ?_); refine goesL_ (some 69) rfl rfl Try.func22 (by kernel_rfl) rfl #[.slice Ao48 t382.length co48, .int .i64 1] rfl tm_ ?_; (with_reducible refine (laws_markIntS.calls kj26 (fun k_ => some k_ = (.slice Ao48 t382.length co48 : Value).ownBlock) (.slice Ao48 t382.length co48) t382 1 t394 t395 w _ ?side1 ?side2 A39.out).mono ?_); (case side1 => repeat (first | (with_reducible first | exact HB.out | apply below_alloc | apply pw_below_drewN | apply below_drew1) | exact HB.out)); (case side2 => exact Kd.R_tight rfl HO_10.out); rintro e w49 ⟨rfl, hy0, hb, hkp⟩; refine ⟨_, rfl, ?_⟩; replace HO_7 := Aside0.mk (Kd.R_mono (ok' := fun k_ => no_ (.slice Ao48 t382.length co48) k_) (Kd.R_keptB (HO_7.out) hkp (fun k_ hk_ hs_ => (hk_) hs_)) (fun k_ hk_ => hk_.1)); replace HO_10 := Aside0.mk (Kd.R_reok rfl hy0 (fun k_ e_ => HO_10.out.1 k_ e_)); replace HB := Aside0.mk (hb); clear hb) | ((with_reducible refine gate_callee (f := 23) rfl ?_); refine goesL_ (some 72) rfl rfl Try.func23 (by kernel_rfl) rfl #[.slice Ao48 t395.length co48, .int .i64 1] rfl (by (try simp only [List.map_toArray, List.map_cons, List.map_nil]); first | done | (rw [show t395.length = t382.length from (Kd.R_reads' HO_10.out).1.symm] <;> rfl) | rfl | (simp only [List.length_drop, List.length_take]; rfl)) ?_; (with_reducible refine (laws_heldIntS.calls kj26 _ _ t395 1 t396 _ ?side1 ?side2 A40.out).mono ?_); (case side1 => exact ca (Kd.R_reads' HO_10.out).2.2); (case side2 => rw [show t395.length = t382.length from (Kd.R_reads' HO_10.out).1.symm]; exact (Kd.R_reads' HO_10.out).2.1); rintro e w' ⟨rfl, ⟨nd, rfl⟩⟩; refine ⟨_, rfl, ?_⟩) | ((with_reducible refine gate_callee (f := 71) rfl ?_); refine goesL_ (some 80) rfl rfl Try.func71 (by kernel_rfl) rfl #[.slice A0 l0.length c0] rfl tm_ ?_; (with_reducible refine (laws_toIntS.calls kj26 _ _ l0 t397 _ ?side1 ?side2 A45.out).mono ?_); (case side1 => exact ca (Kd.C_below HR0.out (hB HB))); (case side2 => exact HC0.out); rintro e w50 ⟨v398, rfl, ho0, hb⟩; refine ⟨_, rfl, ?_⟩; have HO399 := Aside0.mk (Kd.R_lower (Kd.R_new' (Kd.R_new' ho0 (rl_ HO_7)) (rl_ HO_10)) (below_size (hB HB))); replace HO_7 := re_ HO_7 ho0 hb; replace HO_10 := re_ HO_10 ho0 hb; replace HB := bst_ HB hb; clear hb ho0; obtain ⟨Ao51, co51, eo51⟩ := Kd.R_slice HO399.out; subst eo51) | ((with_reducible refine gate_callee (f := 72) rfl ?_); refine goesL_ (some 83) rfl rfl Try.func72 (by kernel_rfl) rfl #[.slice Ao51 t397.length co51, .int .i64 a1, .int .i64 a2] rfl tm_ ?_; (with_reducible refine (impl_BehindOf.calls kj26 _ _ t397 a1 a2 t400 t401 _ ?side1 ?side2 A46.out).mono ?_); (case side1 => exact ca (Kd.R_reads' HO399.out).2.2); (case side2 => exact (Kd.R_reads' HO399.out).2.1); rintro e w52 ⟨v402, rfl, ho0, hb⟩; refine ⟨_, rfl, ?_⟩; have HO403 := Aside0.mk (Kd.R_lower (Kd.R_new' (Kd.R_new' (Kd.R_new' ho0 (rl_ HO_7)) (rl_ HO_10)) (rl_ HO399)) (below_size (hB HB))); replace HO_7 := re_ HO_7 ho0 hb; replace HO_10 := re_ HO_10 ho0 hb; replace HO399 := re_ HO399 ho0 hb; replace HB := bst_ HB hb; clear hb ho0))
     (try simp only [Act.put, List.setIfInBounds_toArray, List.set_cons_zero, List.set_cons_succ])
     go_cut [94] (fun v94 wc => ∃ (kq : Nat) (x94_46 : Bool), v94 = .bool x94_46 ∧ Aside0 (laws_FnExactBehindOf.j2 kq t395 t394 x94_46 = some r) ∧ Aside0 (kq ≤ kj26) ∧ Aside0 (Kd.R (Kd.int .i64) 3 wc w.heap.size (fun _ => True) (.slice Ao48 t382.length co48) t395) ∧ Aside0 (Below w.heap.size w wc))
     case first =>
      have H := HC47.out
      clear HC47
      replace H := Option.bind_eq_some_iff.mp H
      obtain ⟨t404, A530, H⟩ := H
      replace H : (if t404 = true then (laws_FnExactBehindOf.j2 kj26 t395 t394 (t401 != t376)) else (laws_FnExactBehindOf.j2 kj26 t395 t394 true)) = some r := H
      have A53 := Aside0.mk A530
      clear A530
      by_cases c54 : t404 = true
      ·subst c54
       rw [if_pos rfl] at H
       have H' := Aside0.mk H
       clear H
       obtain ⟨Ao55, co55, eo55⟩ := Kd.R_slice HO403.out
       subst eo55
       obtain ⟨Ao56, co56, eo56⟩ := Kd.R_slice HO_7.out
       subst eo56
       go_wp2_with (first | ((with_reducible refine gate_callee (f := 19) rfl ?_); refine goesL_ (some 88) rfl rfl Try.func19 (by kernel_rfl) rfl #[.slice Ao55 t400.length co55, .slice Ao56 t375.length co56] rfl tm_ ?_; (with_reducible refine (laws_eqIntS.calls kj26 _ _ t400 _ _ t375 true _ ?side1 ?side2 ?side3 ?side4 A53.out).mono ?_); (case side1 => exact ca (Kd.R_reads' HO403.out).2.2); (case side2 => exact (Kd.R_reads' HO403.out).2.1); (case side3 => exact ca (Kd.R_reads' HO_7.out).2.2); (case side4 => exact (Kd.R_reads' HO_7.out).2.1); rintro e w' ⟨rfl, ⟨nd, rfl⟩⟩; refine ⟨_, rfl, ?_⟩))
       go_meet
       case rel => exact ⟨_, ((t401 != t376)), (by first | rfl | (simp; done) | (simp [*]; done)), H', ⟨by have := HJ8.out; have := HJ26.out; first | omega | exact Nat.le_refl _⟩, rm_ HO_10 (fun _ hk => trivial), ⟨hB HB⟩⟩
      replace c54 := Bool.eq_false_iff.mpr c54
      subst c54
      rw [if_neg (show ¬ (false = true) by decide)] at H
      have H' := Aside0.mk H
      clear H
      obtain ⟨Ao57, co57, eo57⟩ := Kd.R_slice HO403.out
      subst eo57
      obtain ⟨Ao58, co58, eo58⟩ := Kd.R_slice HO_7.out
      subst eo58
      go_wp2_with (first | ((with_reducible refine gate_callee (f := 19) rfl ?_); refine goesL_ (some 88) rfl rfl Try.func19 (by kernel_rfl) rfl #[.slice Ao57 t400.length co57, .slice Ao58 t375.length co58] rfl tm_ ?_; (with_reducible refine (laws_eqIntS.calls kj26 _ _ t400 _ _ t375 false _ ?side1 ?side2 ?side3 ?side4 A53.out).mono ?_); (case side1 => exact ca (Kd.R_reads' HO403.out).2.2); (case side2 => exact (Kd.R_reads' HO403.out).2.1); (case side3 => exact ca (Kd.R_reads' HO_7.out).2.2); (case side4 => exact (Kd.R_reads' HO_7.out).2.1); rintro e w' ⟨rfl, ⟨nd, rfl⟩⟩; refine ⟨_, rfl, ?_⟩))
      go_meet
      case rel => exact ⟨_, (true), (by first | rfl | (simp; done) | (simp [*]; done)), H', ⟨by have := HJ8.out; have := HJ26.out; first | omega | exact Nat.le_refl _⟩, rm_ HO_10 (fun _ hk => trivial), ⟨hB HB⟩⟩
     case rest =>
      clear HC47
      try clear c4
      try clear c4b0
      try clear c4b1
      try clear c22
      try clear c25
      try clear c38
      try clear c41
      try clear c41b0
      try clear c44
      try clear c44b0
      try clear c44b1
      obtain ⟨kq, x94_46, rfl, HA, HJ46, HO_10, HB⟩ := hcut
      have hl10_46 := (Kd.R_reads' HO_10.out).1
      rw [hl10_46] at HO_10
      (try simp only [hl10_46])
      cases kq with
      | zero => exact absurd HA.out (by simp [laws_FnExactBehindOf.j2])
      | succ kj46 =>
       have H := HA.out
       clear HA
       simp only [laws_FnExactBehindOf.j2] at H
       by_cases c59 : x94_46 = true
       ·subst c59
        rw [if_pos rfl] at H
        obtain rfl := Option.some.inj H
        go_wp2
        go_ret
        exact ⟨by first | rfl | (simp [errW_none, errW_some] <;> rfl) | (simp [*, errW_none, errW_some] <;> rfl), by repeat (first | (with_reducible first | exact HB.out | apply below_alloc | apply pw_below_drewN | apply below_drew1) | exact HB.out)⟩
       replace c59 := Bool.eq_false_iff.mpr c59
       subst c59
       rw [if_neg (show ¬ (false = true) by decide)] at H
       replace H := Option.bind_eq_some_iff.mp H
       obtain ⟨t405, A600, H⟩ := H
       replace H : (if t405 < 0 then (some false) else (if t405 = t394 then (some true) else (some false))) = some r := H
       have A60 := Aside0.mk A600
       clear A600
       by_cases c61 : t405 < 0
       ·rw [if_pos c61] at H
        have c61b0 : decide (t405 < 0) = true := decide_eq_true c61
        clear c61
        obtain rfl := Option.some.inj H
        go_wp2_with (first | ((with_reducible refine gate_callee (f := 23) rfl ?_); refine goesL_ (some 97) rfl rfl Try.func23 (by kernel_rfl) rfl #[.slice Ao48 t395.length co48, .int .i64 1] rfl tm_ ?_; (with_reducible refine (laws_heldIntS.calls kj46 _ _ t395 1 t405 _ ?side1 ?side2 A60.out).mono ?_); (case side1 => exact ca (Kd.R_reads' HO_10.out).2.2); (case side2 => exact (Kd.R_reads' HO_10.out).2.1); rintro e w' ⟨rfl, ⟨nd, rfl⟩⟩; refine ⟨_, rfl, ?_⟩))
        go_ret
        exact ⟨by first | rfl | (simp [errW_none, errW_some] <;> rfl) | (simp [*, errW_none, errW_some] <;> rfl), by repeat (first | (with_reducible first | exact HB.out | apply below_alloc | apply pw_below_drewN | apply below_drew1) | exact HB.out)⟩
       rw [if_neg c61] at H
       have c61b0 : decide (t405 < 0) = false := decide_eq_false c61
       clear c61
       by_cases c62 : t405 = t394
       rotate_left
       ·rw [if_neg c62] at H
        have c62b0 : (t405 == t394) = false := beq_eq_false_iff_ne.mpr c62
        have c62b1 : (t405 != t394) = true := bne_iff_ne.mpr c62
        obtain rfl := Option.some.inj H
        go_wp2_with (first | ((with_reducible refine gate_callee (f := 23) rfl ?_); refine goesL_ (some 97) rfl rfl Try.func23 (by kernel_rfl) rfl #[.slice Ao48 t395.length co48, .int .i64 1] rfl tm_ ?_; (with_reducible refine (laws_heldIntS.calls kj46 _ _ t395 1 t405 _ ?side1 ?side2 A60.out).mono ?_); (case side1 => exact ca (Kd.R_reads' HO_10.out).2.2); (case side2 => exact (Kd.R_reads' HO_10.out).2.1); rintro e w' ⟨rfl, ⟨nd, rfl⟩⟩; refine ⟨_, rfl, ?_⟩))
        go_ret
        exact ⟨by first | rfl | (simp [errW_none, errW_some] <;> rfl) | (simp [*, errW_none, errW_some] <;> rfl), by repeat (first | (with_reducible first | exact HB.out | apply below_alloc | apply pw_below_drewN | apply below_drew1) | exact HB.out)⟩
       rw [if_pos c62] at H
       have c62b0 : (t405 == t394) = true := beq_iff_eq.mpr c62
       have c62b1 : (t405 != t394) = false := bne_eq_false_iff_eq.mpr c62
       clear c62
       obtain rfl := Option.some.inj H
       go_wp2_with (first | ((with_reducible refine gate_callee (f := 23) rfl ?_); refine goesL_ (some 97) rfl rfl Try.func23 (by kernel_rfl) rfl #[.slice Ao48 t395.length co48, .int .i64 1] rfl tm_ ?_; (with_reducible refine (laws_heldIntS.calls kj46 _ _ t395 1 t405 _ ?side1 ?side2 A60.out).mono ?_); (case side1 => exact ca (Kd.R_reads' HO_10.out).2.2); (case side2 => exact (Kd.R_reads' HO_10.out).2.1); rintro e w' ⟨rfl, ⟨nd, rfl⟩⟩; refine ⟨_, rfl, ?_⟩))
       go_ret
       exact ⟨by first | rfl | (simp [errW_none, errW_some] <;> rfl) | (simp [*, errW_none, errW_some] <;> rfl), by repeat (first | (with_reducible first | exact HB.out | apply below_alloc | apply pw_below_drewN | apply below_drew1) | exact HB.out)⟩

/-- THE ONE PURE STATEMENT of laws_FnExactBehindOf: yours. -/
def laws_FnExactBehindOf.Pure : Prop := ∀ (l0 : List Int) (a1 : Int) (a2 : Int), l0.length ≤ maxLen → l0.length * 8 ≤ 140737488351232 → (∀ x ∈ l0, (Lit.int .i64 x).wf = true) → (Lit.int .i64 a1).wf = true → (Lit.int .i64 a2).wf = true → ∃ k, laws_FnExactBehindOf.f k l0 a1 a2 = some true
theorem laws_FnExactBehindOf.walk (P : laws_FnExactBehindOf.Pure) (a0 : Option Addr) (len0 cap0 : Nat) (z0 : List Int) (a1 : Int) (a2 : Int) (w : World) (w0 : (a0 = none ∧ len0 = 0 ∧ cap0 = 0 ∧ z0 = []) ∨ ∃ x, a0 = some x ∧ len0 ≤ cap0 ∧ cap0 ≤ maxLen ∧ z0.length = cap0 ∧ (∀ i, i < z0.length → w.cell? (x.add i) = some (.int .i64 (z0.getD i 0))) ∧ ∀ n ∈ z0, (Lit.int .i64 n).wf = true) (y0 : len0 * 8 ≤ 140737488351232) (w1 : (Lit.int .i64 a1).wf = true) (w2 : (Lit.int .i64 a2).wf = true) :
  Calls Try.prog 12 #[.slice a0 len0 cap0, .int .i64 a1, .int .i64 a2] w fun e w' => e = .returned (.bool true) ∧ Below w.heap.size w w' := by
 obtain ⟨l0, rfl, hr0, hm0, hw0, hc0⟩ := ReadsInt.ofRowC w0
 obtain ⟨k, h⟩ := P l0 a1 a2 hm0 y0 hw0 w1 w2
 refine (laws_FnExactBehindOf.calls k _ _ l0 a1 a2 true w (Kd.C_of_reads (d := (0 : Int)) (h1 := fun _ => rfl) hr0) hc0 h).mono ?_
 rintro e w' ⟨rfl, hd⟩
 exact ⟨rfl, hd⟩

-- NOT PRINTED: function 201 (spec_l9Relax)

-- NOT PRINTED: function 183 (spec_l9Fars)

-- NOT PRINTED: function 200 (spec_l9Edge)

-- NOT PRINTED: function 182 (spec_l9Hops)

-- NOT PRINTED: function 140 (spec_WayTo)

-- NOT PRINTED: function 73 (spec_SendOne)

-- NOT PRINTED: function 75 (laws_heldHopS)

-- NOT PRINTED: function 13 (laws_FnExactSendOne)

-- NOT PRINTED: function 143 (spec_l14Wants)

-- NOT PRINTED: function 144 (spec_l10Spread)

-- NOT PRINTED: function 145 (spec_l14Hops)

-- NOT PRINTED: function 76 (spec_SavedBy)

-- NOT PRINTED: function 187 (impl_goodWants)

-- NOT PRINTED: function 223 (slices_IndexFunc_int_int)

-- NOT PRINTED: function 207 (slices_ContainsFunc_int_int)

-- NOT PRINTED: function 188 (impl_wanted)

-- NOT PRINTED: function 146 (impl_WantsOn)

-- NOT PRINTED: function 77 (impl_SavedBy)

-- NOT PRINTED: function 14 (laws_FnExactSavedBy)

end Go.Proofs.Ytolncjkfcmbieaa.P
