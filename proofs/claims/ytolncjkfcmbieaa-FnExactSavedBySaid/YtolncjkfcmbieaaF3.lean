import Derived.Shelf.SlicesE.IndexFunc
import Derived.Test.YtolncjkfcmbieaaF0
import Derived.Test.YtolncjkfcmbieaaF1
import Derived.Test.YtolncjkfcmbieaaF2
namespace Go.Proofs.Ytolncjkfcmbieaa.P
open Go.RowKit Go.Proofs.YtolncjkfcmbieaaW.PrintWords Go.Proofs.YtolncjkfcmbieaaW.PrintLast Go.Proofs.YtolncjkfcmbieaaW.PrintMore
attribute [local go_sem] max2_int min2_int max_two min_two max_three min_three max_four min_four   -- for this text's walks alone
set_option linter.unusedVariables false
set_option linter.unusedSimpArgs false

mutual
def impl_behind.l0 : Nat → Int → Int → List Int → List (S162) → Int → Int → Option (List Int)
 | 0, _, _, _, _, _, _ => none
 | k + 1, x1, x2, x7, x14, x15, x16 => if x16 < x15 then (if 0 ≤ x16 then (if x16 < (x14.length : Int) then (if ((rd_T162 x14 x16).f0) = x2 then (impl_behind.j1 k x1 x2 x7 x14 x15 x16 (((rd_T162 x14 x16).f1) == x1) ((rd_T162 x14 x16).f0) ((rd_T162 x14 x16).f1)) else (impl_behind.j1 k x1 x2 x7 x14 x15 x16 false ((rd_T162 x14 x16).f0) ((rd_T162 x14 x16).f1))) else (none)) else (none)) else ((slices_Sort_int_int.f x7).bind fun t349 => (some t349))
def impl_behind.j1 : Nat → Int → Int → List Int → List (S162) → Int → Int → Bool → Int → Int → Option (List Int)
 | 0, _, _, _, _, _, _, _, _, _ => none
 | k + 1, x1, x2, x7, x14, x15, x16, x29, x352000, x352001 => if x29 = true then (impl_behind.l0 k x1 x2 x7 x14 x15 (wrap64 (x16 + 1))) else ((slices_Contains_int_int.f k x7 x352000).bind fun t352 => (if t352 = true then (if x7.length < 17592186044416 then (impl_behind.l0 k x1 x2 (x7 ++ [x352001]) x14 x15 (wrap64 (x16 + 1))) else (none)) else (impl_behind.l0 k x1 x2 x7 x14 x15 (wrap64 (x16 + 1)))))
end
def impl_behind.f (k : Nat) (l0 : List Int) (a1 : Int) (a2 : Int) : Option (List Int) := (impl_spread.f k l0 a2).bind fun t346 => (impl_behind.l0 k a1 a2 (([a2] : List Int)) t346 (t346.length : Int) 0)
theorem impl_behind.mono_l : ∀ k, (∀ y0 y1 y2 y3 y4 y5, LeO (impl_behind.l0 k y0 y1 y2 y3 y4 y5) (impl_behind.l0 (k + 1) y0 y1 y2 y3 y4 y5)) ∧ (∀ y0 y1 y2 y3 y4 y5 y6 y7 y8, LeO (impl_behind.j1 k y0 y1 y2 y3 y4 y5 y6 y7 y8) (impl_behind.j1 (k + 1) y0 y1 y2 y3 y4 y5 y6 y7 y8))
 | 0 => ⟨fun _ _ _ _ _ _ r h => by simp [impl_behind.l0] at h, fun _ _ _ _ _ _ _ _ _ r h => by simp [impl_behind.j1] at h⟩
 | k + 1 => by
  obtain ⟨ih0, ih1⟩ := impl_behind.mono_l k
  refine ⟨?_, ?_⟩
  ·intro y0 y1 y2 y3 y4 y5
   unfold impl_behind.l0
   repeat' first
   | (with_reducible exact ih0 _ _ _ _ _ _)
   | (with_reducible exact ih1 _ _ _ _ _ _ _ _ _)
   | (with_reducible exact impl_spread.mono _ _ _)
   | (with_reducible exact slices_Contains_int_int.mono _ _ _)
   | (with_reducible exact LeO.refl _)
   | (with_reducible exact LeO.none _)
   | (with_reducible refine LeO.ite ?_ ?_)
   | (with_reducible refine LeO.bind ?_ (fun _ => ?_))
  ·intro y0 y1 y2 y3 y4 y5 y6 y7 y8
   unfold impl_behind.j1
   repeat' first
   | (with_reducible exact ih0 _ _ _ _ _ _)
   | (with_reducible exact ih1 _ _ _ _ _ _ _ _ _)
   | (with_reducible exact impl_spread.mono _ _ _)
   | (with_reducible exact slices_Contains_int_int.mono _ _ _)
   | (with_reducible exact LeO.refl _)
   | (with_reducible exact LeO.none _)
   | (with_reducible refine LeO.ite ?_ ?_)
   | (with_reducible refine LeO.bind ?_ (fun _ => ?_))
theorem impl_behind.mono : ∀ a0 a1 a2 k, LeO (impl_behind.f k a0 a1 a2) (impl_behind.f (k + 1) a0 a1 a2) := by
 intro a0 a1 a2 k
 obtain ⟨ih0, ih1⟩ := impl_behind.mono_l k
 unfold impl_behind.f
 repeat' first
   | (with_reducible exact ih0 _ _ _ _ _ _)
   | (with_reducible exact ih1 _ _ _ _ _ _ _ _ _)
   | (with_reducible exact impl_spread.mono _ _ _)
   | (with_reducible exact slices_Contains_int_int.mono _ _ _)
   | (with_reducible exact LeO.refl _)
   | (with_reducible exact LeO.none _)
   | (with_reducible refine LeO.ite ?_ ?_)
   | (with_reducible refine LeO.bind ?_ (fun _ => ?_))
set_option maxHeartbeats 8000000 in
set_option maxRecDepth 100000 in
theorem impl_behind.calls (k : Nat) (A0 : Option Addr) (c0 : Nat) (l0 : List Int) (a1 : Int) (a2 : Int) (r : List Int) (w : World) (hr0 : Kd.C (Kd.int .i64) w A0 l0.length l0) (hc0 : l0.length ≤ c0) (h : impl_behind.f k l0 a1 a2 = some r) :
  Calls Try.prog 139 #[.slice A0 l0.length c0, .int .i64 a1, .int .i64 a2] w fun e w' => ∃ v0_ : Value, e = .returned (v0_) ∧ Kd.R (Kd.int .i64) 3 w' w.heap.size (fun _ => True) v0_ r ∧ Below w.heap.size w w' := by
 have hu162 := Try.underlying162
 have HR0 := Aside0.mk hr0
 have HC0 := Aside0.mk hc0
 clear hr0 hc0
 have HB := Aside0.mk (Below.refl w.heap.size w)
 have H : ((impl_spread.f k l0 a2).bind fun t346 => (impl_behind.l0 k a1 a2 (([a2] : List Int)) t346 (t346.length : Int) 0)) = some r := h
 clear h
 obtain ⟨y343, hy343⟩ : ∃ y_ : List Int, y_ = (([a2] : List Int)) := ⟨_, rfl⟩
 replace H : ((impl_spread.f k l0 a2).bind fun t346 => (impl_behind.l0 k a1 a2 y343 t346 (t346.length : Int) 0)) = some r := by first | (rw [hy343]; with_reducible exact H) | (have H2_ := (Option.bind_some _ _).symm.trans H; rw [hy343]; with_reducible exact H2_) | (have H2_ := (Option.bind_some _ _).symm.trans H; with_reducible exact H2_) | with_reducible exact H | (rw [hy343]; exact H) | exact H
 have Ny343 := Aside0.mk hy343
 clear hy343
 replace H := Option.bind_eq_some_iff.mp H
 obtain ⟨t346, A40, H⟩ := H
 replace H : (impl_behind.l0 k a1 a2 y343 t346 (t346.length : Int) 0) = some r := H
 have A4 := Aside0.mk A40
 clear A40
 have H' := Aside0.mk H
 clear H
 go_enter Try.func139, Try.ntmps139
 go_wp2_with (first | ((with_reducible refine gate_dst (N := 11) rfl ?_); refine Kd.R_lit (Kd.int .i64) _ 3 ?hg (N := 11) ?hd (xs := ([a2] : List Int)) (inner := [.int .i64 a2]) (ok := fun _ => True) (okp := fun _ => True) ?hr ?hp (fun _ hk => hk) trivial (Below.refl _ _) (Nat.le_refl _) (by simp) ?_; (case hd => rfl); (case hg => rfl); (case hr => first | (go_simp; done) | (go_simp; rfl)); (case hp => exact (Reps.one (show Kd.M (Kd.int .i64) _ _ _ a2 [.int .i64 a2] from rfl) (Reps.none _ _))); intro v344 w5 ho6 hb hg_ hnew_; clear hg_ hnew_; (first | rw [← Ny343.out] at ho6 | (simp only [Int.reduceToNat] at ho6; rw [← Ny343.out] at ho6)); have HO345 := Aside0.mk (Kd.R_lower ho6 (below_size (hB HB))); replace HB := bst_ HB hb; clear hb ho6) | ((with_reducible refine gate_callee (f := 147) rfl ?_); refine goesL_ (some 14) rfl rfl Try.func147 (by kernel_rfl) rfl #[.slice A0 l0.length c0, .int .i64 a2] rfl tm_ ?_; (with_reducible refine (impl_spread.calls k _ _ l0 a2 t346 _ ?side1 ?side2 A4.out).mono ?_); (case side1 => exact ca (Kd.C_below HR0.out HB.out)); (case side2 => exact HC0.out); rintro e w7 ⟨v347, rfl, ho0, hb⟩; refine ⟨_, rfl, ?_⟩; have HO348 := Aside0.mk (Kd.R_lower ho0 (below_size (hB HB))); replace HO345 := rb_ HO345 hb; replace HB := bst_ HB hb; clear hb ho0; obtain ⟨Ao8, co8, eo8⟩ := Kd.R_slice HO348.out; subst eo8))
 go_loopg [7, 16] k (fun kq v7 v16 w' => ∃ (x7_1 : List Int) (x16_1 : Int), v16 = .int .i64 x16_1 ∧ Aside0 (impl_behind.l0 kq a1 a2 x7_1 t346 (t346.length : Int) x16_1 = some r) ∧ Aside0 (kq ≤ k) ∧ Aside0 (Kd.R (Kd.int .i64) 3 w' w.heap.size (fun _ => True) v7 x7_1) ∧ Aside0 (Kd.R k162 162 w' w.heap.size (fun _ => True) (.slice Ao8 t346.length co8) t346) ∧ Aside0 (Below w.heap.size w w'))
 case atStart => exact ⟨(y343), (0), (by first | rfl | (simp; done) | (simp [*]; done)), H', ⟨Nat.le_refl _⟩, ⟨ra HO345.out⟩, ⟨ra HO348.out⟩, ⟨hB HB⟩⟩
 case round =>
  clear H'
  obtain ⟨x7_1, x16_1, rfl, HA, HK1, HO_7, HO_14, HB⟩ := hrel
  cases gk with
  | zero => exact absurd HA.out (by simp [impl_behind.l0])
  | succ k1 =>
   have H := HA.out
   clear HA
   simp only [impl_behind.l0] at H
   by_cases c9 : x16_1 < (t346.length : Int)
   rotate_left
   ·rw [if_neg c9] at H
    have c9b0 : decide (x16_1 < (t346.length : Int)) = false := decide_eq_false c9
    clear c9
    replace H := Option.bind_eq_some_iff.mp H
    obtain ⟨t349, A270, H⟩ := H
    replace H : (some t349) = some r := H
    have A27 := Aside0.mk A270
    clear A270
    obtain rfl := Option.some.inj H
    obtain ⟨Ao28, co28, eo28⟩ := Kd.R_slice HO_7.out
    subst eo28
    go_wp2_with (first | ((with_reducible refine gate_callee (f := 178) rfl ?_); refine goesL_ (some 41) rfl rfl Try.func178 (by kernel_rfl) rfl #[.slice Ao28 x7_1.length co28] rfl tm_ ?_; (with_reducible refine (slices_Sort_int_int.calls (fun k_ => some k_ = (.slice Ao28 x7_1.length co28 : Value).ownBlock) (.slice Ao28 x7_1.length co28) x7_1 t349 w _ ?side1 ?side2 A27.out).mono ?_); (case side1 => repeat (first | (with_reducible first | exact HB.out | apply below_alloc | apply pw_below_drewN | apply below_drew1) | exact HB.out)); (case side2 => exact Kd.R_tight rfl HO_7.out); rintro e w29 ⟨rfl, hy0, hb, hkp⟩; refine ⟨_, rfl, ?_⟩; replace HO_14 := Aside0.mk (Kd.R_mono (ok' := fun k_ => True) (Kd.R_keptB ((Kd.R_apart' HO_14.out (Kd.R_typed HO_7.out) (by decide))) hkp (fun k_ hk_ hs_ => (hk_.2) hs_)) (fun k_ hk_ => trivial)); replace HO_7 := Aside0.mk (Kd.R_reok rfl hy0 (fun k_ e_ => HO_7.out.1 k_ e_)); replace HB := Aside0.mk (hb); clear hb))
    go_ret
    exact ⟨_, by first | rfl | (simp [errW_none, errW_some] <;> rfl) | (simp [*, errW_none, errW_some] <;> rfl), by (with_reducible repeat (first | apply Kd.R_alloc | apply Kd.R_drewN | apply Kd.R_drew)); exact HO_7.out, by repeat (first | (with_reducible first | exact HB.out | apply below_alloc | apply pw_below_drewN | apply below_drew1) | exact HB.out)⟩
   rw [if_pos c9] at H
   have c9b0 : decide (x16_1 < (t346.length : Int)) = true := decide_eq_true c9
   clear c9
   by_cases c10 : 0 ≤ x16_1
   rotate_left
   ·rw [if_neg c10] at H
    exact absurd H (by simp)
   rw [if_pos c10] at H
   have c10b0 : decide (0 ≤ x16_1) = true := decide_eq_true c10
   clear c10
   by_cases c11 : x16_1 < (t346.length : Int)
   rotate_left
   ·rw [if_neg c11] at H
    exact absurd H (by simp)
   rw [if_pos c11] at H
   have c11b0 : decide (x16_1 < (t346.length : Int)) = true := decide_eq_true c11
   clear c11
   have HC12 := Aside0.mk H
   clear H
   have p350 : 0 ≤ (x16_1 : Int) := of_decide_eq_true (by first | (with_reducible assumption) | assumption)
   have q350 : x16_1 < (t346.length : Int) := of_decide_eq_true (by first | (with_reducible assumption) | assumption)
   obtain ⟨ad350, e350, hx350_0, hx350_1⟩ := at_T162 (Kd.R_reads' HO_14.out).2.2 x16_1 p350 q350
   cases e350
   replace p350 := eq_true p350
   replace q350 := eq_true q350
   go_upto_region 5 with (first | ((with_reducible refine gate_dst (N := 9) rfl ?_); refine box_event ?hg (N := 9) ?hd (cs := #[.int .i64 0, .int .i64 0]) (t := 162) ?hr ?_; (case hd => rfl); (case hg => rfl); (case hr => first | (go_simp; done) | (go_simp; rfl)); intro gb351 hg w13 hbox hb; have BK351 := Aside0.mk (hbox); have GW351 := gw_ hg HB; have GE351 := gw_ hg HB; replace HO_7 := rb_ HO_7 hb; replace HO_14 := Aside0.mk (Kd.R_below (Kd.R_elderB (ra HO_14.out) gb351 (Nat.le_of_eq hg.symm)) hb); replace HB := bst_ HB hb; clear hb hbox hg; have hcz14_0 : w13.cell? ⟨gb351, 0, none⟩ = some (.int .i64 0) := bc_ BK351 0; have hcz14_1 : w13.cell? ⟨gb351, 1, none⟩ = some (.int .i64 0) := bc_ BK351 1; have hfz14_0 := blk_frozen BK351.out 0; have hfz14_1 := blk_frozen BK351.out 1))
   (try simp only [Act.put, List.setIfInBounds_toArray, List.set_cons_zero, List.set_cons_succ])
   go_cut [29] (fun v29 wc => ∃ (kq : Nat) (x29_11 : Bool), v29 = .bool x29_11 ∧ Aside0 (impl_behind.j1 kq a1 a2 x7_1 t346 (t346.length : Int) x16_1 x29_11 ((rd_T162 t346 x16_1).f0) ((rd_T162 t346 x16_1).f1) = some r) ∧ Aside0 (kq ≤ k1) ∧ Aside0 (Kd.R (Kd.int .i64) 3 wc w.heap.size (fun _ => True) u7 x7_1) ∧ Aside0 (Kd.R k162 162 wc w.heap.size (fun k_ => k_ ≠ gb351) (.slice (some ad350) t346.length co8) t346) ∧ Aside0 (wc.heap[gb351]? = some (.cells #[.int .i64 ((rd_T162 t346 x16_1).f0), .int .i64 ((rd_T162 t346 x16_1).f1)] 162 (0, 0))) ∧ Aside0 (Below w.heap.size w wc))
   case first =>
    have H := HC12.out
    clear HC12
    by_cases c15 : ((rd_T162 t346 x16_1).f0) = a2
    rotate_left
    ·rw [if_neg c15] at H
     have c15b0 : (((rd_T162 t346 x16_1).f0) == a2) = false := beq_eq_false_iff_ne.mpr c15
     have c15b1 : (((rd_T162 t346 x16_1).f0) != a2) = true := bne_iff_ne.mpr c15
     (first | rw [c15b0] | (simp only [i64_w, i32_w]; rw [c15b0]) | skip)
     have H' := Aside0.mk H
     clear H
     have hcz17_0 : w13.cell? ⟨gb351, 0, none⟩ = some (.int .i64 0) := bc_ BK351 0
     have hcz17_1 : w13.cell? ⟨gb351, 1, none⟩ = some (.int .i64 0) := bc_ BK351 1
     have hfz17_0 := blk_frozen BK351.out 0
     have hfz17_1 := blk_frozen BK351.out 1
     go_wp2
     go_meet
     case rel => exact ⟨_, (false), (by first | rfl | (simp; done) | (simp [*]; done)), H', ⟨by have := HK1.out; first | omega | exact Nat.le_refl _⟩, ⟨by (with_reducible repeat (first | apply Kd.R_alloc | apply Kd.R_drewN | apply Kd.R_drew)); exact Kd.R_mono (Kd.R_far (p := ⟨gb351, 1, none⟩) (Kd.R_far (p := ⟨gb351, 0, none⟩) (Kd.R_types HO_7.out BK351.out (by decide)) (fun _ hk => hk.2) (.int .i64 ((rd_T162 t346 x16_1).f0))) (fun _ hk => hk.2) (.int .i64 ((rd_T162 t346 x16_1).f1))) (fun _ hk => trivial)⟩, ⟨by (with_reducible repeat (first | apply Kd.R_alloc | apply Kd.R_drewN | apply Kd.R_drew)); exact Kd.R_mono (Kd.R_far (p := ⟨gb351, 1, none⟩) (Kd.R_far (p := ⟨gb351, 0, none⟩) (Kd.R_mono HO_14.out (fun k_ hk => (⟨hk, hk.2⟩ : _ ∧ k_ ≠ gb351))) (fun _ hk => hk.2) (.int .i64 ((rd_T162 t346 x16_1).f0))) (fun _ hk => hk.2) (.int .i64 ((rd_T162 t346 x16_1).f1))) (fun _ hk => hk.1.2)⟩, ⟨by (with_reducible repeat (first | refine blk_drewN ?_ _ | refine blk_drew ?_ | refine blk_alloc ?_ _)); refine blk_put (cs := #[.int .i64 ((rd_T162 t346 x16_1).f0), .int .i64 0]) ?_ 1 _ rfl; (with_reducible repeat (first | refine blk_drewN ?_ _ | refine blk_drew ?_ | refine blk_alloc ?_ _)); refine blk_put (cs := #[.int .i64 0, .int .i64 0]) ?_ 0 _ rfl; (with_reducible repeat (first | refine blk_drewN ?_ _ | refine blk_drew ?_ | refine blk_alloc ?_ _)); exact BK351.out⟩, ⟨hB HB⟩⟩
    rw [if_pos c15] at H
    have c15b0 : (((rd_T162 t346 x16_1).f0) == a2) = true := beq_iff_eq.mpr c15
    have c15b1 : (((rd_T162 t346 x16_1).f0) != a2) = false := bne_eq_false_iff_eq.mpr c15
    clear c15
    (first | rw [c15b0] | (simp only [i64_w, i32_w]; rw [c15b0]) | skip)
    have H' := Aside0.mk H
    clear H
    have hcz16_0 : w13.cell? ⟨gb351, 0, none⟩ = some (.int .i64 0) := bc_ BK351 0
    have hcz16_1 : w13.cell? ⟨gb351, 1, none⟩ = some (.int .i64 0) := bc_ BK351 1
    have hfz16_0 := blk_frozen BK351.out 0
    have hfz16_1 := blk_frozen BK351.out 1
    go_wp2
    go_meet
    case rel => exact ⟨_, ((((rd_T162 t346 x16_1).f1) == a1)), (by first | rfl | (simp; done) | (simp [*]; done)), H', ⟨by have := HK1.out; first | omega | exact Nat.le_refl _⟩, ⟨by (with_reducible repeat (first | apply Kd.R_alloc | apply Kd.R_drewN | apply Kd.R_drew)); exact Kd.R_mono (Kd.R_far (p := ⟨gb351, 1, none⟩) (Kd.R_far (p := ⟨gb351, 0, none⟩) (Kd.R_types HO_7.out BK351.out (by decide)) (fun _ hk => hk.2) (.int .i64 ((rd_T162 t346 x16_1).f0))) (fun _ hk => hk.2) (.int .i64 ((rd_T162 t346 x16_1).f1))) (fun _ hk => trivial)⟩, ⟨by (with_reducible repeat (first | apply Kd.R_alloc | apply Kd.R_drewN | apply Kd.R_drew)); exact Kd.R_mono (Kd.R_far (p := ⟨gb351, 1, none⟩) (Kd.R_far (p := ⟨gb351, 0, none⟩) (Kd.R_mono HO_14.out (fun k_ hk => (⟨hk, hk.2⟩ : _ ∧ k_ ≠ gb351))) (fun _ hk => hk.2) (.int .i64 ((rd_T162 t346 x16_1).f0))) (fun _ hk => hk.2) (.int .i64 ((rd_T162 t346 x16_1).f1))) (fun _ hk => hk.1.2)⟩, ⟨by (with_reducible repeat (first | refine blk_drewN ?_ _ | refine blk_drew ?_ | refine blk_alloc ?_ _)); refine blk_put (cs := #[.int .i64 ((rd_T162 t346 x16_1).f0), .int .i64 0]) ?_ 1 _ rfl; (with_reducible repeat (first | refine blk_drewN ?_ _ | refine blk_drew ?_ | refine blk_alloc ?_ _)); refine blk_put (cs := #[.int .i64 0, .int .i64 0]) ?_ 0 _ rfl; (with_reducible repeat (first | refine blk_drewN ?_ _ | refine blk_drew ?_ | refine blk_alloc ?_ _)); exact BK351.out⟩, ⟨hB HB⟩⟩
   case rest =>
    clear HC12
    try clear c9
    try clear c9b0
    try clear c10
    try clear c10b0
    try clear c11
    try clear c11b0
    try clear hcz14_0
    try clear hcz14_1
    try clear hfz14_0
    try clear hfz14_1
    try clear hx350_0
    try clear hx350_1
    try clear p350
    try clear q350
    obtain ⟨kq, x29_11, rfl, HA, HJ11, HO_7, HO_14, BK351, HB⟩ := hcut
    cases kq with
    | zero => exact absurd HA.out (by simp [impl_behind.j1])
    | succ kj11 =>
     have H := HA.out
     clear HA
     simp only [impl_behind.j1] at H
     by_cases c18 : x29_11 = true
     ·subst c18
      rw [if_pos rfl] at H
      have H' := Aside0.mk H
      clear H
      go_wp2
      go_roundg kj11
      case measure => have := HK1.out; have := HJ11.out; omega
      case rel => exact ⟨(x7_1), (wrap64 (x16_1 + 1)), (by first | rfl | (simp; done) | (simp [*]; done)), H', ⟨by have := HK1.out; have := HJ11.out; omega⟩, ⟨ra HO_7.out⟩, rm_ HO_14 (fun _ hk => trivial), ⟨hB HB⟩⟩
     replace c18 := Bool.eq_false_iff.mpr c18
     subst c18
     rw [if_neg (show ¬ (false = true) by decide)] at H
     replace H := Option.bind_eq_some_iff.mp H
     obtain ⟨t352, A190, H⟩ := H
     replace H : (if t352 = true then (if x7_1.length < 17592186044416 then (impl_behind.l0 kj11 a1 a2 (x7_1 ++ [((rd_T162 t346 x16_1).f1)]) t346 (t346.length : Int) (wrap64 (x16_1 + 1))) else (none)) else (impl_behind.l0 kj11 a1 a2 x7_1 t346 (t346.length : Int) (wrap64 (x16_1 + 1)))) = some r := H
     have A19 := Aside0.mk A190
     clear A190
     by_cases c20 : t352 = true
     rotate_left
     ·replace c20 := Bool.eq_false_iff.mpr c20
      subst c20
      rw [if_neg (show ¬ (false = true) by decide)] at H
      have H' := Aside0.mk H
      clear H
      have hcz25_0 : wc.cell? ⟨gb351, 0, none⟩ = some (.int .i64 ((rd_T162 t346 x16_1).f0)) := bc_ BK351 0
      have hcz25_1 : wc.cell? ⟨gb351, 1, none⟩ = some (.int .i64 ((rd_T162 t346 x16_1).f1)) := bc_ BK351 1
      have hfz25_0 := blk_frozen BK351.out 0
      have hfz25_1 := blk_frozen BK351.out 1
      obtain ⟨Ao26, co26, eo26⟩ := Kd.R_slice HO_7.out
      subst eo26
      go_wp2_with (first | ((with_reducible refine gate_callee (f := 137) rfl ?_); refine goesL_ (some 33) rfl rfl Try.func137 (by kernel_rfl) rfl #[.slice Ao26 x7_1.length co26, .int .i64 ((rd_T162 t346 x16_1).f0)] rfl tm_ ?_; (with_reducible refine (slices_Contains_int_int.calls kj11 _ _ x7_1 ((rd_T162 t346 x16_1).f0) false _ ?side1 ?side2 A19.out).mono ?_); (case side1 => exact ca (Kd.R_reads' HO_7.out).2.2); (case side2 => exact (Kd.R_reads' HO_7.out).2.1); rintro e w' ⟨rfl, ⟨nd, rfl⟩⟩; refine ⟨_, rfl, ?_⟩))
      go_roundg kj11
      case measure => have := HK1.out; have := HJ11.out; omega
      case rel => exact ⟨(x7_1), (wrap64 (x16_1 + 1)), (by first | rfl | (simp; done) | (simp [*]; done)), H', ⟨by have := HK1.out; have := HJ11.out; omega⟩, ⟨ra HO_7.out⟩, rm_ HO_14 (fun _ hk => trivial), ⟨hB HB⟩⟩
     subst c20
     rw [if_pos rfl] at H
     by_cases c21 : x7_1.length < 17592186044416
     rotate_left
     ·rw [if_neg c21] at H
      exact absurd H (by simp)
     rw [if_pos c21] at H
     have LMc21 := Aside0.mk c21
     clear c21
     obtain ⟨y353, hy353⟩ : ∃ y_ : List Int, y_ = (x7_1 ++ [((rd_T162 t346 x16_1).f1)]) := ⟨_, rfl⟩
     replace H : (impl_behind.l0 kj11 a1 a2 y353 t346 (t346.length : Int) (wrap64 (x16_1 + 1))) = some r := by first | (rw [hy353]; with_reducible exact H) | (have H2_ := (Option.bind_some _ _).symm.trans H; rw [hy353]; with_reducible exact H2_) | (have H2_ := (Option.bind_some _ _).symm.trans H; with_reducible exact H2_) | with_reducible exact H | (rw [hy353]; exact H) | exact H
     have Ny353 := Aside0.mk hy353
     clear hy353
     have H' := Aside0.mk H
     clear H
     have hcz22_0 : wc.cell? ⟨gb351, 0, none⟩ = some (.int .i64 ((rd_T162 t346 x16_1).f0)) := bc_ BK351 0
     have hcz22_1 : wc.cell? ⟨gb351, 1, none⟩ = some (.int .i64 ((rd_T162 t346 x16_1).f1)) := bc_ BK351 1
     have hfz22_0 := blk_frozen BK351.out 0
     have hfz22_1 := blk_frozen BK351.out 1
     obtain ⟨Ao23, co23, eo23⟩ := Kd.R_slice HO_7.out
     subst eo23
     go_wp2_with (first | ((with_reducible refine gate_callee (f := 137) rfl ?_); refine goesL_ (some 33) rfl rfl Try.func137 (by kernel_rfl) rfl #[.slice Ao23 x7_1.length co23, .int .i64 ((rd_T162 t346 x16_1).f0)] rfl tm_ ?_; (with_reducible refine (slices_Contains_int_int.calls kj11 _ _ x7_1 ((rd_T162 t346 x16_1).f0) true _ ?side1 ?side2 A19.out).mono ?_); (case side1 => exact ca (Kd.R_reads' HO_7.out).2.2); (case side2 => exact (Kd.R_reads' HO_7.out).2.1); rintro e w' ⟨rfl, ⟨nd, rfl⟩⟩; refine ⟨_, rfl, ?_⟩) | ((with_reducible refine gate_builtin (b := .append) (xs := #[.tmp 34, .tmp 37]) rfl ?_); at_builtin; refine Kd.R_append (Kd.int .i64) (w0 := w) w.heap.size rfl (.tmp 34) (.tmp 37) 24 3 (.int .i64 0) 8 rfl Try.underlying24 info3 rfl (by decide) (by omega) (.slice Ao23 x7_1.length co23) x7_1 ((rd_T162 t346 x16_1).f1) [.int .i64 ((rd_T162 t346 x16_1).f1)] (fun _ => True) (fun _ => False) rfl rfl ?aP (fun _ hk => hk.elim) ?aF ?aO ?aB ?aS ?aL ?_; (case aP => exact rfl); (case aB => exact (hB HB)); (case aF => exact (fun _ _ => trivial)); (case aO => exact (ra HO_7.out)); (case aS => exact (below_size (hB HB))); (case aL => have := LMc21.out; omega); intro v354 w24 ho hb hg hat; rw [← Ny353.out] at ho; have HO355 := Aside0.mk (ho); replace HO_14 := Aside0.mk (Kd.R_over' (ra HO_14.out) (Kd.R_typed (ra HO_7.out)) (by decide) hg); replace BK351 := Aside0.mk (blk_grown (g := gb351) (o := .cells #[.int .i64 ((rd_T162 t346 x16_1).f0), .int .i64 ((rd_T162 t346 x16_1).f1)] 162 (0, 0)) (ba BK351.out) hg (Kd.R_ne HO_7.out BK351.out (by decide))); replace HB := Aside0.mk (hb); clear HO_7; clear ho hb hg hat))
     go_roundg kj11
     case measure => have := HK1.out; have := HJ11.out; omega
     case rel => exact ⟨(y353), (wrap64 (x16_1 + 1)), (by first | rfl | (simp; done) | (simp [*]; done)), H', ⟨by have := HK1.out; have := HJ11.out; omega⟩, ⟨ra HO355.out⟩, rm_ HO_14 (fun _ hk => trivial), ⟨hB HB⟩⟩

-- NOT PRINTED: function 72 (impl_BehindOf)

-- NOT PRINTED: function 12 (laws_FnExactBehindOf)

-- NOT PRINTED: function 201 (spec_l9Relax)

-- NOT PRINTED: function 183 (spec_l9Fars)

-- NOT PRINTED: function 200 (spec_l9Edge)

-- NOT PRINTED: function 182 (spec_l9Hops)

-- NOT PRINTED: function 140 (spec_WayTo)

-- NOT PRINTED: function 73 (spec_SendOne)

-- NOT PRINTED: function 75 (laws_heldHopS)

-- NOT PRINTED: function 13 (laws_FnExactSendOne)

def spec_l14Wants.f (k : Nat) (l0 : List Int) : Option (Bool) := (spec_l1Rising.f k l0 0 11).bind fun t356 => (some t356)
theorem spec_l14Wants.mono : ∀ a0 k, LeO (spec_l14Wants.f k a0) (spec_l14Wants.f (k + 1) a0) := by
 intro a0 k
 unfold spec_l14Wants.f
 repeat' first
   | (with_reducible exact spec_l1Rising.mono _ _ _ _)
   | (with_reducible exact LeO.refl _)
   | (with_reducible exact LeO.none _)
   | (with_reducible refine LeO.ite ?_ ?_)
   | (with_reducible refine LeO.bind ?_ (fun _ => ?_))
set_option maxHeartbeats 8000000 in
set_option maxRecDepth 100000 in
theorem spec_l14Wants.calls (k : Nat) (A0 : Option Addr) (c0 : Nat) (l0 : List Int) (r : Bool) (w : World) (hr0 : Kd.C (Kd.int .i64) w A0 l0.length l0) (hc0 : l0.length ≤ c0) (h : spec_l14Wants.f k l0 = some r) :
  Calls Try.prog 143 #[.slice A0 l0.length c0] w fun e w' => e = .returned (.bool r) ∧ Drawn0 w w' := by
 have HR0 := Aside0.mk hr0
 have HC0 := Aside0.mk hc0
 clear hr0 hc0
 have H : ((spec_l1Rising.f k l0 0 11).bind fun t356 => (some t356)) = some r := h
 clear h
 replace H := Option.bind_eq_some_iff.mp H
 obtain ⟨t356, A20, H⟩ := H
 replace H : (some t356) = some r := H
 have A2 := Aside0.mk A20
 clear A20
 obtain rfl := Option.some.inj H
 go_enter Try.func143, Try.ntmps143
 go_wp2_with (first | ((with_reducible refine gate_callee (f := 165) rfl ?_); refine goesL_ (some 4) rfl rfl Try.func165 (by kernel_rfl) rfl #[.slice A0 l0.length c0, .int .i64 0, .int .i64 11] rfl tm_ ?_; (with_reducible refine (spec_l1Rising.calls k _ _ l0 0 11 t356 _ ?side1 ?side2 A2.out).mono ?_); (case side1 => exact ca HR0.out); (case side2 => exact HC0.out); rintro e w' ⟨rfl, ⟨nd, rfl⟩⟩; refine ⟨_, rfl, ?_⟩))
 go_ret
 exact ⟨by first | rfl | (simp; done) | (simp [*]; done), by repeat (first | exact Drawn0.refl _ | apply Drawn0.step)⟩

mutual
def spec_l10Spread.l0 : Nat → List Int → List (S162) → List (S162) → Option ((List (S162)))
 | 0, _, _, _ => none
 | k + 1, x0, x5, x6 => if (x6.length : Int) > 0 then (if 0 < (x6.length : Int) then (if 1 ≤ (x6.length : Int) then ((spec_l10Joined.f k x0 ((rd_T162 x6 0).f1)).bind fun t365 => (spec_l10Spread.l1 k x0 x5 (x6.drop (1 : Int).toNat) t365 (t365.length : Int) 0 ((rd_T162 x6 0).f0) ((rd_T162 x6 0).f1))) else (none)) else (none)) else (some x5)
def spec_l10Spread.l1 : Nat → List Int → List (S162) → List (S162) → List Int → Int → Int → Int → Int → Option ((List (S162)))
 | 0, _, _, _, _, _, _, _, _ => none
 | k + 1, x0, x5, x6, x25, x26, x27, x362000, x362001 => if x27 < x26 then (if 0 ≤ x27 then (if x27 < (x25.length : Int) then (if (rd x25 x27) = x362000 then (spec_l10Spread.l1 k x0 x5 x6 x25 x26 (wrap64 (x27 + 1)) x362000 x362001) else (if x5.length < 8796093022208 then (if x6.length < 8796093022208 then (spec_l10Spread.l1 k x0 (x5 ++ [(⟨x362001, rd x25 x27⟩ : S162)]) (x6 ++ [(⟨x362001, rd x25 x27⟩ : S162)]) x25 x26 (wrap64 (x27 + 1)) x362000 x362001) else (none)) else (none))) else (none)) else (none)) else (spec_l10Spread.l0 k x0 x5 x6)
end
def spec_l10Spread.f (k : Nat) (l0 : List Int) (a1 : Int) : Option ((List (S162))) := spec_l10Spread.l0 k l0 ([] : List (S162)) (([(⟨(-1), a1⟩ : S162)] : List (S162)))
theorem spec_l10Spread.mono_l : ∀ k, (∀ y0 y1 y2, LeO (spec_l10Spread.l0 k y0 y1 y2) (spec_l10Spread.l0 (k + 1) y0 y1 y2)) ∧ (∀ y0 y1 y2 y3 y4 y5 y6 y7, LeO (spec_l10Spread.l1 k y0 y1 y2 y3 y4 y5 y6 y7) (spec_l10Spread.l1 (k + 1) y0 y1 y2 y3 y4 y5 y6 y7))
 | 0 => ⟨fun _ _ _ r h => by simp [spec_l10Spread.l0] at h, fun _ _ _ _ _ _ _ _ r h => by simp [spec_l10Spread.l1] at h⟩
 | k + 1 => by
  obtain ⟨ih0, ih1⟩ := spec_l10Spread.mono_l k
  refine ⟨?_, ?_⟩
  ·intro y0 y1 y2
   unfold spec_l10Spread.l0
   repeat' first
   | (with_reducible exact ih0 _ _ _)
   | (with_reducible exact ih1 _ _ _ _ _ _ _ _)
   | (with_reducible exact spec_l10Joined.mono _ _ _)
   | (with_reducible exact LeO.refl _)
   | (with_reducible exact LeO.none _)
   | (with_reducible refine LeO.ite ?_ ?_)
   | (with_reducible refine LeO.bind ?_ (fun _ => ?_))
  ·intro y0 y1 y2 y3 y4 y5 y6 y7
   unfold spec_l10Spread.l1
   repeat' first
   | (with_reducible exact ih0 _ _ _)
   | (with_reducible exact ih1 _ _ _ _ _ _ _ _)
   | (with_reducible exact spec_l10Joined.mono _ _ _)
   | (with_reducible exact LeO.refl _)
   | (with_reducible exact LeO.none _)
   | (with_reducible refine LeO.ite ?_ ?_)
   | (with_reducible refine LeO.bind ?_ (fun _ => ?_))
theorem spec_l10Spread.mono : ∀ a0 a1 k, LeO (spec_l10Spread.f k a0 a1) (spec_l10Spread.f (k + 1) a0 a1) := by
 intro a0 a1 k
 obtain ⟨ih0, ih1⟩ := spec_l10Spread.mono_l k
 unfold spec_l10Spread.f
 repeat' first
   | (with_reducible exact ih0 _ _ _)
   | (with_reducible exact ih1 _ _ _ _ _ _ _ _)
   | (with_reducible exact spec_l10Joined.mono _ _ _)
   | (with_reducible exact LeO.refl _)
   | (with_reducible exact LeO.none _)
   | (with_reducible refine LeO.ite ?_ ?_)
   | (with_reducible refine LeO.bind ?_ (fun _ => ?_))
set_option maxHeartbeats 8000000 in
set_option maxRecDepth 100000 in
theorem spec_l10Spread.calls (k : Nat) (A0 : Option Addr) (c0 : Nat) (l0 : List Int) (a1 : Int) (r : List (S162)) (w : World) (hr0 : Kd.C (Kd.int .i64) w A0 l0.length l0) (hc0 : l0.length ≤ c0) (h : spec_l10Spread.f k l0 a1 = some r) :
  Calls Try.prog 144 #[.slice A0 l0.length c0, .int .i64 a1] w fun e w' => ∃ v0_ : Value, e = .returned (v0_) ∧ Kd.R k162 162 w' w.heap.size (fun _ => True) v0_ r ∧ Below w.heap.size w w' := by
 have hu162 := Try.underlying162
 have HR0 := Aside0.mk hr0
 have HC0 := Aside0.mk hc0
 clear hr0 hc0
 have HB := Aside0.mk (Below.refl w.heap.size w)
 have H : (spec_l10Spread.l0 k l0 ([] : List (S162)) (([(⟨(-1), a1⟩ : S162)] : List (S162)))) = some r := h
 clear h
 obtain ⟨y357, hy357⟩ : ∃ y_ : List (S162), y_ = (([(⟨(-1), a1⟩ : S162)] : List (S162))) := ⟨_, rfl⟩
 replace H : (spec_l10Spread.l0 k l0 ([] : List (S162)) y357) = some r := by first | (rw [hy357]; with_reducible exact H) | (have H2_ := (Option.bind_some _ _).symm.trans H; rw [hy357]; with_reducible exact H2_) | (have H2_ := (Option.bind_some _ _).symm.trans H; with_reducible exact H2_) | with_reducible exact H | (rw [hy357]; exact H) | exact H
 have Ny357 := Aside0.mk hy357
 clear hy357
 have H' := Aside0.mk H
 clear H
 go_enter Try.func144, Try.ntmps144
 go_wp2_with (first | ((with_reducible refine gate_dst (N := 13) rfl ?_); refine Kd.R_lit k162 _ 162 ?hg (N := 13) ?hd (xs := ([(⟨(-1), a1⟩ : S162)] : List (S162))) (inner := [.int .i64 (-1), .int .i64 a1]) (ok := fun _ => True) (okp := fun _ => True) ?hr ?hp (fun _ hk => hk) trivial (Below.refl _ _) (Nat.le_refl _) (by simp) ?_; (case hd => rfl); (case hg => rfl); (case hr => first | (go_simp; done) | (go_simp; rfl)); (case hp => exact (Reps.c2 (show Kd.M k162 _ _ _ (⟨(-1), a1⟩ : S162) [.int .i64 (-1), .int .i64 a1] from (k162_mkM _ _ _ (⟨(-1), a1⟩ : S162) )) (Reps.none _ _))); intro v358 w3 ho4 hb hg_ hnew_; clear hg_ hnew_; (first | rw [← Ny357.out] at ho4 | (simp only [Int.reduceToNat] at ho4; rw [← Ny357.out] at ho4)); have HO359 := Aside0.mk (Kd.R_lower ho4 (below_size (hB HB))); replace HB := bst_ HB hb; clear hb ho4))
 go_loopg [5, 6] k (fun kq v5 v6 w' => ∃ (x5_1 : List (S162)) (x6_1 : List (S162)), Aside0 (spec_l10Spread.l0 kq l0 x5_1 x6_1 = some r) ∧ Aside0 (kq ≤ k) ∧ Aside0 (Kd.R k162 162 w' w.heap.size (fun k_ => no_ v6 k_) v5 x5_1) ∧ Aside0 (Kd.Q k162 162 w' w.heap.size (fun k_ => no_ v5 k_) v6 x6_1) ∧ Aside0 (Below w.heap.size w w'))
 case atStart => exact ⟨(([] : List (S162))), (y357), H', ⟨Nat.le_refl _⟩, ⟨by first | exact Kd.R_nil _ _ _ _ _ | exact Kd.N_nil _ _ _ _ _ | exact Kd.V_nil _ _ _ _ _ | exact Kd.Q_nil _ _ _ _ _ | exact Kd.S_nil _ _ _ _ _⟩, ⟨Kd.Q_of_R (Aside0.out (rm_ HO359 (fun _ hk => (by simp [Value.ownBlock]))))⟩, ⟨hB HB⟩⟩
 case round =>
  clear H'
  try clear c2
  obtain ⟨x5_1, x6_1, HA, HK1, HO_5, HO_6, HB⟩ := hrel
  cases gk with
  | zero => exact absurd HA.out (by simp [spec_l10Spread.l0])
  | succ k1 =>
   have H := HA.out
   clear HA
   simp only [spec_l10Spread.l0] at H
   by_cases c5 : (x6_1.length : Int) > 0
   rotate_left
   ·rw [if_neg c5] at H
    have c5b0 : decide (0 < (x6_1.length : Int)) = false := decide_eq_false c5
    have c5b1 : decide (0 < x6_1.length) = false := decide_eq_false (by omega)
    clear c5
    obtain rfl := Option.some.inj H
    obtain ⟨Ao31, co31, eo31, _⟩ := Kd.Q_slice HO_6.out
    subst eo31
    go_wp2
    go_ret
    exact ⟨_, by first | rfl | (simp [errW_none, errW_some] <;> rfl) | (simp [*, errW_none, errW_some] <;> rfl), by (with_reducible repeat (first | apply Kd.R_alloc | apply Kd.R_drewN | apply Kd.R_drew)); exact Kd.R_mono HO_5.out (fun _ hk => trivial), by repeat (first | (with_reducible first | exact HB.out | apply below_alloc | apply pw_below_drewN | apply below_drew1) | exact HB.out)⟩
   rw [if_pos c5] at H
   have c5b0 : decide (0 < (x6_1.length : Int)) = true := decide_eq_true c5
   have c5b1 : decide (0 < x6_1.length) = true := decide_eq_true (by omega)
   clear c5
   by_cases c6 : 0 < (x6_1.length : Int)
   rotate_left
   ·rw [if_neg c6] at H
    exact absurd H (by simp)
   rw [if_pos c6] at H
   have c6b0 : decide (0 < (x6_1.length : Int)) = true := decide_eq_true c6
   have c6b1 : decide (0 < x6_1.length) = true := decide_eq_true (by omega)
   clear c6
   by_cases c7 : 1 ≤ (x6_1.length : Int)
   rotate_left
   ·rw [if_neg c7] at H
    exact absurd H (by simp)
   rw [if_pos c7] at H
   have c7b0 := eq_true c7
   have c7b1 : decide (1 ≤ (x6_1.length : Int)) = true := decide_eq_true c7
   clear c7
   obtain ⟨y362, hy362⟩ : ∃ y_ : List (S162), y_ = (x6_1.drop (1 : Int).toNat) := ⟨_, rfl⟩
   replace H : ((spec_l10Joined.f k1 l0 ((rd_T162 x6_1 0).f1)).bind fun t365 => (spec_l10Spread.l1 k1 l0 x5_1 y362 t365 (t365.length : Int) 0 ((rd_T162 x6_1 0).f0) ((rd_T162 x6_1 0).f1))) = some r := by first | (rw [hy362]; with_reducible exact H) | (have H2_ := (Option.bind_some _ _).symm.trans H; rw [hy362]; with_reducible exact H2_) | (have H2_ := (Option.bind_some _ _).symm.trans H; with_reducible exact H2_) | with_reducible exact H | (rw [hy362]; exact H) | exact H
   have Ny362 := Aside0.mk hy362
   clear hy362
   replace H := Option.bind_eq_some_iff.mp H
   obtain ⟨t365, A80, H⟩ := H
   replace H : (spec_l10Spread.l1 k1 l0 x5_1 y362 t365 (t365.length : Int) 0 ((rd_T162 x6_1 0).f0) ((rd_T162 x6_1 0).f1)) = some r := H
   have A8 := Aside0.mk A80
   clear A80
   have H' := Aside0.mk H
   clear H
   obtain ⟨Ao9, co9, eo9, _⟩ := Kd.Q_slice HO_6.out
   subst eo9
   have p360 : 0 ≤ (0 : Int) := (by omega)
   have q360 : 0 < (x6_1.length : Int) := of_decide_eq_true (by first | (with_reducible assumption) | assumption)
   obtain ⟨ad360, e360, hx360_0, hx360_1⟩ := at_T162 (Kd.Q_reads' HO_6.out).2.2 0 p360 q360
   cases e360
   have qi360 : (0 < x6_1.length) = True := eq_true (by omega)
   (try rw [show ((0 : Int)).toNat = 0 from rfl] at hx360_0)
   (try rw [show 0 * 2 = 0 from rfl] at hx360_0)
   (try rw [Addr.add_zero'] at hx360_0)
   (try rw [show ((0 : Int)).toNat = 0 from rfl] at hx360_1)
   (try rw [show 0 * 2 = 0 from rfl] at hx360_1)
   (try rw [Addr.add_zero'] at hx360_1)
   replace p360 := eq_true p360
   replace q360 := eq_true q360
   go_wp2_with (first | ((with_reducible refine gate_dst (N := 7) rfl ?_); refine box_event ?hg (N := 7) ?hd (cs := #[.int .i64 0, .int .i64 0]) (t := 162) ?hr ?_; (case hd => rfl); (case hg => rfl); (case hr => first | (go_simp; done) | (go_simp; rfl)); intro gb361 hg w10 hbox hb; have BK361 := Aside0.mk (hbox); have GW361 := gw_ hg HB; have GE361 := gw_ hg HB; replace HO_5 := Aside0.mk (Kd.R_below (Kd.R_elderB (ra HO_5.out) gb361 (Nat.le_of_eq hg.symm)) hb); replace HO_6 := Aside0.mk (Kd.Q_below (Kd.Q_elderB (by (with_reducible repeat (first | apply Kd.Q_alloc | apply Kd.Q_drewN | apply Kd.Q_drew)); exact HO_6.out) gb361 (Nat.le_of_eq hg.symm)) hb); replace HB := bst_ HB hb; clear hb hbox hg; have hcz11_0 : w10.cell? ⟨gb361, 0, none⟩ = some (.int .i64 0) := bc_ BK361 0; have hcz11_1 : w10.cell? ⟨gb361, 1, none⟩ = some (.int .i64 0) := bc_ BK361 1; have hfz11_0 := blk_frozen BK361.out 0; have hfz11_1 := blk_frozen BK361.out 1) | ((with_reducible refine gate_store (t := 162) (p := 7) rfl ?_); refine store_event (t := 162) (p := 7) (v := ?vo_w12) (w1 := ((w10.setCell ⟨gb361, 0, none⟩ (.int .i64 ((rd_T162 x6_1 0).f0))).setCell ⟨gb361, 1, none⟩ (.int .i64 ((rd_T162 x6_1 0).f1)))) ?hg ?ho ?hn ?hr ?_; (case ho => rfl); (case hg => rfl); (case hn => rfl); (case hr => first | (go_simp; done) | (go_simp; rfl)); intro w12 hw; have n0_ : Aside0 (Kd.R k162 162 w12 w.heap.size (fun k_ => some k_ ≠ (.slice (some ad360) x6_1.length co9 : Value).ownBlock ∧ k_ ≠ gb361) u5 x5_1) := ⟨(by rw [hw]; exact (by (with_reducible repeat (first | apply Kd.R_alloc | apply Kd.R_drewN | apply Kd.R_drew)); exact Kd.R_mono (Kd.R_far (p := ⟨gb361, 1, none⟩) (Kd.R_far (p := ⟨gb361, 0, none⟩) (Kd.R_mono HO_5.out (fun k_ hk => (⟨hk, hk.2⟩ : _ ∧ k_ ≠ gb361))) (fun _ hk => hk.2) (.int .i64 ((rd_T162 x6_1 0).f0))) (fun _ hk => hk.2) (.int .i64 ((rd_T162 x6_1 0).f1))) (fun _ hk => hk.1)))⟩; have n1_ : Aside0 (Kd.Q k162 162 w12 w.heap.size (fun k_ => some k_ ≠ (u5 : Value).ownBlock ∧ k_ ≠ gb361) (.slice (some ad360) x6_1.length co9) x6_1) := ⟨(by rw [hw]; exact (by (with_reducible repeat (first | apply Kd.Q_alloc | apply Kd.Q_drewN | apply Kd.Q_drew)); exact Kd.Q_mono (Kd.Q_far (p := ⟨gb361, 1, none⟩) (Kd.Q_far (p := ⟨gb361, 0, none⟩) (Kd.Q_mono HO_6.out (fun k_ hk => (⟨hk, hk.2⟩ : _ ∧ k_ ≠ gb361))) (fun _ hk => hk.2) (.int .i64 ((rd_T162 x6_1 0).f0))) (fun _ hk => hk.2) (.int .i64 ((rd_T162 x6_1 0).f1))) (fun _ hk => hk.1)))⟩; have n2_ : Aside0 (w12.heap[gb361]? = some (.cells #[.int .i64 ((rd_T162 x6_1 0).f0), .int .i64 ((rd_T162 x6_1 0).f1)] 162 (0, 0))) := ⟨(by rw [hw]; exact (by (with_reducible repeat (first | refine blk_drewN ?_ _ | refine blk_drew ?_ | refine blk_alloc ?_ _)); refine blk_put (cs := #[.int .i64 ((rd_T162 x6_1 0).f0), .int .i64 0]) ?_ 1 _ rfl; (with_reducible repeat (first | refine blk_drewN ?_ _ | refine blk_drew ?_ | refine blk_alloc ?_ _)); refine blk_put (cs := #[.int .i64 0, .int .i64 0]) ?_ 0 _ rfl; (with_reducible repeat (first | refine blk_drewN ?_ _ | refine blk_drew ?_ | refine blk_alloc ?_ _)); exact BK361.out))⟩; have n3_ : Aside0 (Below w.heap.size w w12) := ⟨(by rw [hw]; exact (hB HB))⟩; clear hw; clear HO_5; clear HO_6; clear BK361; clear HB; have HO_5 := n0_; have HO_6 := n1_; have BK361 := n2_; have HB := n3_; clear n0_ n1_ n2_ n3_; have q13 : (1 : Int) ≤ ((x6_1.length : Int) : Int) := of_decide_eq_true (by first | (with_reducible assumption) | assumption); obtain ⟨i013, hi013, _, hsz13, _⟩ := info_parts info162; have hcut13 := cut_from (P := Try.prog) 99 162 .i64 Try.underlying99 hi013 2 hsz13 (some ad360) x6_1.length co9 1 (by omega) q13; have hr13 := Kd.Q_drop (k := (1 : Int).toNat) HO_6.out (by omega); obtain ⟨A13, hA13⟩ : ∃ A1, A1 = (if co9 = (1 : Int).toNat then (some ad360) else ((some ad360) : Option Addr).map (·.add ((1 : Int).toNat * 2))) := ⟨_, rfl⟩; obtain ⟨c13, hc13⟩ : ∃ c1, c1 = co9 - (1 : Int).toNat := ⟨_, rfl⟩; have hy13 : y362.length = x6_1.length - (1 : Int).toNat := (by rw [Ny362.out, List.length_drop]); rw [← Ny362.out] at hr13; rw [← hy13, ← hA13, ← hc13] at hcut13; replace hr13 : Kd.Q k162 162 w12 w.heap.size (fun k_ => some k_ ≠ (u5 : Value).ownBlock ∧ k_ ≠ gb361) (.slice A13 y362.length c13) y362 := (by rw [hA13, hc13, hy13]; exact hr13); have HE13 : Aside0 ((Value.slice A13 y362.length c13).ownBlock = (.slice (some ad360) x6_1.length co9 : Value).ownBlock) := ⟨by rw [hA13]; split <;> (cases ((some ad360) : Option Addr) <;> rfl)⟩; clear hy13 hi013 hsz13 HO_6 hA13 hc13; have HO364 := Aside0.mk hr13; clear hr13; replace q13 := eq_true q13; have n_ := Aside0.mk (Kd.R_mono (ok' := fun k_ => (no_ (.slice A13 y362.length c13) k_ ∧ k_ ≠ gb361)) HO_5.out (fun k_ hk => ⟨(fun h_ => hk.1 (h_.trans HE13.out)), hk.2⟩)); clear HO_5; have HO_5 := n_; clear n_; have hcz14_0 : w12.cell? ⟨gb361, 0, none⟩ = some (.int .i64 ((rd_T162 x6_1 0).f0)) := bc_ BK361 0; have hcz14_1 : w12.cell? ⟨gb361, 1, none⟩ = some (.int .i64 ((rd_T162 x6_1 0).f1)) := bc_ BK361 1; have hfz14_0 := blk_frozen BK361.out 0; have hfz14_1 := blk_frozen BK361.out 1) | ((with_reducible refine gate_callee (f := 134) rfl ?_); refine goesL_ (some 25) rfl rfl Try.func134 (by kernel_rfl) rfl #[.slice A0 l0.length c0, .int .i64 ((rd_T162 x6_1 0).f1)] rfl tm_ ?_; (with_reducible refine (spec_l10Joined.calls k1 _ _ l0 ((rd_T162 x6_1 0).f1) t365 _ ?side1 ?side2 A8.out).mono ?_); (case side1 => exact ca (Kd.C_below HR0.out HB.out)); (case side2 => exact HC0.out); rintro e w15 ⟨v366, rfl, ho0, hb⟩; refine ⟨_, rfl, ?_⟩; have HO367 := Aside0.mk (Kd.R_lower ho0 (below_size (hB HB))); replace HO_5 := rb_ HO_5 hb; replace HO364 := Aside0.mk (Kd.Q_below (by (with_reducible repeat (first | apply Kd.Q_alloc | apply Kd.Q_drewN | apply Kd.Q_drew)); exact HO364.out) hb); replace BK361 := bb_ BK361 hb; replace HB := bst_ HB hb; clear hb ho0; obtain ⟨Ao16, co16, eo16⟩ := Kd.R_slice HO367.out; subst eo16))
   go_loopg [5, 6, 27] k1 (fun kq v5 v6 v27 w' => ∃ (x5_2 : List (S162)) (x6_2 : List (S162)) (x27_2 : Int), v27 = .int .i64 x27_2 ∧ Aside0 (spec_l10Spread.l1 kq l0 x5_2 x6_2 t365 (t365.length : Int) x27_2 ((rd_T162 x6_1 0).f0) ((rd_T162 x6_1 0).f1) = some r) ∧ Aside0 (kq ≤ k1) ∧ Aside0 (Kd.R k162 162 w' w.heap.size (fun k_ => no_ v6 k_ ∧ k_ ≠ gb361) v5 x5_2) ∧ Aside0 (Kd.Q k162 162 w' w.heap.size (fun k_ => no_ v5 k_ ∧ k_ ≠ gb361) v6 x6_2) ∧ Aside0 (Kd.R (Kd.int .i64) 3 w' w.heap.size (fun _ => True) (.slice Ao16 t365.length co16) t365) ∧ Aside0 (w'.heap[gb361]? = some (.cells #[.int .i64 ((rd_T162 x6_1 0).f0), .int .i64 ((rd_T162 x6_1 0).f1)] 162 (0, 0))) ∧ Aside0 (Below w.heap.size w w'))
   case atStart => exact ⟨(x5_1), (y362), (0), (by first | rfl | (simp; done) | (simp [*]; done)), H', ⟨Nat.le_refl _⟩, ⟨ra HO_5.out⟩, ⟨by (with_reducible repeat (first | apply Kd.Q_alloc | apply Kd.Q_drewN | apply Kd.Q_drew)); exact HO364.out⟩, ⟨ra HO367.out⟩, ⟨by (with_reducible repeat (first | refine blk_drewN ?_ _ | refine blk_drew ?_ | refine blk_alloc ?_ _)); exact BK361.out⟩, ⟨hB HB⟩⟩
   case round =>
    clear H'
    try clear c1
    try clear c2
    try clear c5
    try clear c5b0
    try clear c5b1
    try clear c6
    try clear c6b0
    try clear c6b1
    try clear c7
    try clear c7b0
    try clear c7b1
    try clear c13
    try clear q13
    try clear hcz11_0
    try clear hcz11_1
    try clear hcz14_0
    try clear hcz14_1
    try clear hfz11_0
    try clear hfz11_1
    try clear hfz14_0
    try clear hfz14_1
    try clear hx360_0
    try clear hx360_1
    try clear p360
    try clear q13
    try clear q360
    obtain ⟨x5_2, x6_2, x27_2, rfl, HA, HK2, HO_5, HO_6, HO_25, BK361, HB⟩ := hrel
    cases gk with
    | zero => exact absurd HA.out (by simp [spec_l10Spread.l1])
    | succ k2 =>
     have H := HA.out
     clear HA
     simp only [spec_l10Spread.l1] at H
     by_cases c17 : x27_2 < (t365.length : Int)
     rotate_left
     ·rw [if_neg c17] at H
      have c17b0 : decide (x27_2 < (t365.length : Int)) = false := decide_eq_false c17
      clear c17
      have H' := Aside0.mk H
      clear H
      go_wp2
      go_roundg k2
      case measure => have := HK1.out; have := HK2.out; omega
      case rel => exact ⟨(x5_2), (x6_2), H', ⟨by have := HK1.out; have := HK2.out; omega⟩, rm_ HO_5 (fun _ hk => hk.1), ⟨by (with_reducible repeat (first | apply Kd.Q_alloc | apply Kd.Q_drewN | apply Kd.Q_drew)); exact Kd.Q_mono HO_6.out (fun _ hk => hk.1)⟩, ⟨hB HB⟩⟩
     rw [if_pos c17] at H
     have c17b0 : decide (x27_2 < (t365.length : Int)) = true := decide_eq_true c17
     clear c17
     by_cases c18 : 0 ≤ x27_2
     rotate_left
     ·rw [if_neg c18] at H
      exact absurd H (by simp)
     rw [if_pos c18] at H
     have c18b0 : decide (0 ≤ x27_2) = true := decide_eq_true c18
     clear c18
     by_cases c19 : x27_2 < (t365.length : Int)
     rotate_left
     ·rw [if_neg c19] at H
      exact absurd H (by simp)
     rw [if_pos c19] at H
     have c19b0 : decide (x27_2 < (t365.length : Int)) = true := decide_eq_true c19
     clear c19
     by_cases c20 : (rd t365 x27_2) = ((rd_T162 x6_1 0).f0)
     ·rw [if_pos c20] at H
      have c20b0 : ((rd t365 x27_2) == ((rd_T162 x6_1 0).f0)) = true := beq_iff_eq.mpr c20
      have c20b1 : ((rd t365 x27_2) != ((rd_T162 x6_1 0).f0)) = false := bne_eq_false_iff_eq.mpr c20
      clear c20
      have H' := Aside0.mk H
      clear H
      have p368 : 0 ≤ (x27_2 : Int) := of_decide_eq_true (by first | (with_reducible assumption) | assumption)
      have q368 : x27_2 < (t365.length : Int) := of_decide_eq_true (by first | (with_reducible assumption) | assumption)
      obtain ⟨ad368, e368, hx368_0⟩ := Kd.at_int (Kd.R_reads' HO_25.out).2.2 x27_2 p368 q368
      cases e368
      replace p368 := eq_true p368
      replace q368 := eq_true q368
      have hcz21_0 : wr.cell? ⟨gb361, 0, none⟩ = some (.int .i64 ((rd_T162 x6_1 0).f0)) := bc_ BK361 0
      have hcz21_1 : wr.cell? ⟨gb361, 1, none⟩ = some (.int .i64 ((rd_T162 x6_1 0).f1)) := bc_ BK361 1
      have hfz21_0 := blk_frozen BK361.out 0
      have hfz21_1 := blk_frozen BK361.out 1
      go_wp2
      go_roundg k2
      case measure => have := HK1.out; have := HK2.out; omega
      case rel => exact ⟨(x5_2), (x6_2), (wrap64 (x27_2 + 1)), (by first | rfl | (simp; done) | (simp [*]; done)), H', ⟨by have := HK1.out; have := HK2.out; omega⟩, ⟨ra HO_5.out⟩, ⟨by (with_reducible repeat (first | apply Kd.Q_alloc | apply Kd.Q_drewN | apply Kd.Q_drew)); exact HO_6.out⟩, ⟨ra HO_25.out⟩, ⟨by (with_reducible repeat (first | refine blk_drewN ?_ _ | refine blk_drew ?_ | refine blk_alloc ?_ _)); exact BK361.out⟩, ⟨hB HB⟩⟩
     rw [if_neg c20] at H
     have c20b0 : ((rd t365 x27_2) == ((rd_T162 x6_1 0).f0)) = false := beq_eq_false_iff_ne.mpr c20
     have c20b1 : ((rd t365 x27_2) != ((rd_T162 x6_1 0).f0)) = true := bne_iff_ne.mpr c20
     by_cases c22 : x5_2.length < 8796093022208
     rotate_left
     ·rw [if_neg c22] at H
      exact absurd H (by simp)
     rw [if_pos c22] at H
     have LMc22 := Aside0.mk c22
     clear c22
     obtain ⟨y370, hy370⟩ : ∃ y_ : List (S162), y_ = (x5_2 ++ [(⟨((rd_T162 x6_1 0).f1), rd t365 x27_2⟩ : S162)]) := ⟨_, rfl⟩
     replace H : (if x6_2.length < 8796093022208 then (spec_l10Spread.l1 k2 l0 y370 (x6_2 ++ [(⟨((rd_T162 x6_1 0).f1), rd t365 x27_2⟩ : S162)]) t365 (t365.length : Int) (wrap64 (x27_2 + 1)) ((rd_T162 x6_1 0).f0) ((rd_T162 x6_1 0).f1)) else (none)) = some r := by first | (rw [hy370]; with_reducible exact H) | (have H2_ := (Option.bind_some _ _).symm.trans H; rw [hy370]; with_reducible exact H2_) | (have H2_ := (Option.bind_some _ _).symm.trans H; with_reducible exact H2_) | with_reducible exact H | (rw [hy370]; exact H) | exact H
     have Ny370 := Aside0.mk hy370
     clear hy370
     by_cases c23 : x6_2.length < 8796093022208
     rotate_left
     ·rw [if_neg c23] at H
      exact absurd H (by simp)
     rw [if_pos c23] at H
     have LMc23 := Aside0.mk c23
     clear c23
     obtain ⟨y373, hy373⟩ : ∃ y_ : List (S162), y_ = (x6_2 ++ [(⟨((rd_T162 x6_1 0).f1), rd t365 x27_2⟩ : S162)]) := ⟨_, rfl⟩
     replace H : (spec_l10Spread.l1 k2 l0 y370 y373 t365 (t365.length : Int) (wrap64 (x27_2 + 1)) ((rd_T162 x6_1 0).f0) ((rd_T162 x6_1 0).f1)) = some r := by first | (rw [hy373]; with_reducible exact H) | (have H2_ := (Option.bind_some _ _).symm.trans H; rw [hy373]; with_reducible exact H2_) | (have H2_ := (Option.bind_some _ _).symm.trans H; with_reducible exact H2_) | with_reducible exact H | (rw [hy373]; exact H) | exact H
     have Ny373 := Aside0.mk hy373
     clear hy373
     have H' := Aside0.mk H
     clear H
     have p368 : 0 ≤ (x27_2 : Int) := of_decide_eq_true (by first | (with_reducible assumption) | assumption)
     have q368 : x27_2 < (t365.length : Int) := of_decide_eq_true (by first | (with_reducible assumption) | assumption)
     obtain ⟨ad368, e368, hx368_0⟩ := Kd.at_int (Kd.R_reads' HO_25.out).2.2 x27_2 p368 q368
     cases e368
     replace p368 := eq_true p368
     replace q368 := eq_true q368
     have hcz24_0 : wr.cell? ⟨gb361, 0, none⟩ = some (.int .i64 ((rd_T162 x6_1 0).f0)) := bc_ BK361 0
     have hcz24_1 : wr.cell? ⟨gb361, 1, none⟩ = some (.int .i64 ((rd_T162 x6_1 0).f1)) := bc_ BK361 1
     have hfz24_0 := blk_frozen BK361.out 0
     have hfz24_1 := blk_frozen BK361.out 1
     go_wp2_with (first | ((with_reducible refine gate_dst (N := 10) rfl ?_); refine box_event ?hg (N := 10) ?hd (cs := #[.int .i64 0, .int .i64 0]) (t := 162) ?hr ?_; (case hd => rfl); (case hg => rfl); (case hr => first | (go_simp; done) | (go_simp; rfl)); intro gb369 hg w25 hbox hb; have BK369 := Aside0.mk (hbox); have GW369 := gw_ hg HB; have GE369 := gw_ hg HB; have NB361_369 := nl_ hg BK361; have NB369_361 := ng_ hg BK361; replace HO_5 := Aside0.mk (Kd.R_below (Kd.R_elderB (ra HO_5.out) gb369 (Nat.le_of_eq hg.symm)) hb); replace HO_6 := Aside0.mk (Kd.Q_below (Kd.Q_elderB (by (with_reducible repeat (first | apply Kd.Q_alloc | apply Kd.Q_drewN | apply Kd.Q_drew)); exact HO_6.out) gb369 (Nat.le_of_eq hg.symm)) hb); replace HO_25 := rb_ HO_25 hb; replace BK361 := bb_ BK361 hb; replace HB := bst_ HB hb; clear hb hbox hg; have hnb26 := NB369_361.out; have hnc26 := NB361_369.out; have hcz27_0 : w25.cell? ⟨gb369, 0, none⟩ = some (.int .i64 0) := bc_ BK369 0; have hcz27_1 : w25.cell? ⟨gb369, 1, none⟩ = some (.int .i64 0) := bc_ BK369 1; have hfz27_0 := blk_frozen BK369.out 0; have hfz27_1 := blk_frozen BK369.out 1) | ((with_reducible refine gate_builtin (b := .append) (xs := #[.tmp 39, .tmp 41]) rfl ?_); at_builtin; refine Kd.R_append k162 (w0 := w) w.heap.size rfl (.tmp 39) (.tmp 41) 99 162 (.agg #[(.int .i64 0), (.int .i64 0)]) 16 rfl Try.underlying99 info162 rfl (by decide) (by omega) u5 x5_2 (⟨((rd_T162 x6_1 0).f1), rd t365 x27_2⟩ : S162) [.int .i64 ((rd_T162 x6_1 0).f1), .int .i64 (rd t365 x27_2)] (fun k_ => some k_ ≠ (u6 : Value).ownBlock ∧ k_ ≠ gb361 ∧ k_ ≠ gb369) (fun _ => False) rfl (by first | (go_simp; done) | (go_simp; rfl)) ?aP (fun _ hk => hk.elim) ?aF ?aO ?aB ?aS ?aL ?_; (case aP => exact k162_mkM _ _ _ (⟨((rd_T162 x6_1 0).f1), rd t365 x27_2⟩ : S162)); (case aB => exact (hB HB)); (case aF => exact (fun k_ hk => ⟨Kd.fresh' (Kd.Q_lt (by (with_reducible repeat (first | apply Kd.Q_alloc | apply Kd.Q_drewN | apply Kd.Q_drew)); exact (Kd.Q_mono (Kd.Q_far (p := ⟨gb369, 1, none⟩) (Kd.Q_far (p := ⟨gb369, 0, none⟩) (Kd.Q_mono HO_6.out (fun k_ hk => (⟨hk, hk.2⟩ : _ ∧ k_ ≠ gb369))) (fun _ hk => hk.2) (.int .i64 ((rd_T162 x6_1 0).f1))) (fun _ hk => hk.2) (.int .i64 (rd t365 x27_2))) (fun _ h_ => h_.1)))) k_ hk, Kd.freshB (g := gb361) (o := .cells #[.int .i64 ((rd_T162 x6_1 0).f0), .int .i64 ((rd_T162 x6_1 0).f1)] 162 (0, 0)) (bx BK361) k_ hk, Kd.freshB (g := gb369) (o := .cells #[.int .i64 ((rd_T162 x6_1 0).f1), .int .i64 (rd t365 x27_2)] 162 (0, 0)) (by (with_reducible repeat (first | refine blk_drewN ?_ _ | refine blk_drew ?_ | refine blk_alloc ?_ _)); refine blk_put (cs := #[.int .i64 ((rd_T162 x6_1 0).f1), .int .i64 0]) ?_ 1 _ rfl; (with_reducible repeat (first | refine blk_drewN ?_ _ | refine blk_drew ?_ | refine blk_alloc ?_ _)); refine blk_put (cs := #[.int .i64 0, .int .i64 0]) ?_ 0 _ rfl; (with_reducible repeat (first | refine blk_drewN ?_ _ | refine blk_drew ?_ | refine blk_alloc ?_ _)); exact BK369.out) k_ hk⟩)); (case aO => exact (by (with_reducible repeat (first | apply Kd.R_alloc | apply Kd.R_drewN | apply Kd.R_drew)); exact Kd.R_mono (Kd.R_far (p := ⟨gb369, 1, none⟩) (Kd.R_far (p := ⟨gb369, 0, none⟩) (Kd.R_mono HO_5.out (fun k_ hk => (⟨hk, hk.2⟩ : _ ∧ k_ ≠ gb369))) (fun _ hk => hk.2) (.int .i64 ((rd_T162 x6_1 0).f1))) (fun _ hk => hk.2) (.int .i64 (rd t365 x27_2))) (fun _ hk => ⟨hk.1.1.1, ⟨hk.1.1.2, hk.1.2⟩⟩))); (case aS => exact (below_size (hB HB))); (case aL => have := LMc22.out; omega); intro v371 w28 ho hb hg hat; rw [← Ny370.out] at ho; have HO372 := Aside0.mk (ho); replace HO_6 := Aside0.mk (Kd.Q_after (ok := (fun k_ => k_ ≠ gb361 ∧ k_ ≠ gb369)) (by (with_reducible repeat (first | apply Kd.Q_alloc | apply Kd.Q_drewN | apply Kd.Q_drew)); exact Kd.Q_mono (Kd.Q_far (p := ⟨gb369, 1, none⟩) (Kd.Q_far (p := ⟨gb369, 0, none⟩) (Kd.Q_mono HO_6.out (fun k_ hk => (⟨hk, hk.2⟩ : _ ∧ k_ ≠ gb369))) (fun _ hk => hk.2) (.int .i64 ((rd_T162 x6_1 0).f1))) (fun _ hk => hk.2) (.int .i64 (rd t365 x27_2))) (fun _ hk => ⟨⟨hk.1.1.2, hk.1.2⟩, hk.1.1.1⟩)) hg hat); replace HO_25 := Aside0.mk (Kd.R_over' (by (with_reducible repeat (first | apply Kd.R_alloc | apply Kd.R_drewN | apply Kd.R_drew)); exact (Kd.R_mono (Kd.R_far (p := ⟨gb369, 1, none⟩) (Kd.R_far (p := ⟨gb369, 0, none⟩) (Kd.R_types HO_25.out BK369.out (by decide)) (fun _ hk => hk.2) (.int .i64 ((rd_T162 x6_1 0).f1))) (fun _ hk => hk.2) (.int .i64 (rd t365 x27_2))) (fun _ h_ => h_.1))) (Kd.R_typed (by (with_reducible repeat (first | apply Kd.R_alloc | apply Kd.R_drewN | apply Kd.R_drew)); exact (Kd.R_mono (Kd.R_far (p := ⟨gb369, 1, none⟩) (Kd.R_far (p := ⟨gb369, 0, none⟩) (Kd.R_mono HO_5.out (fun k_ hk => (⟨hk, hk.2⟩ : _ ∧ k_ ≠ gb369))) (fun _ hk => hk.2) (.int .i64 ((rd_T162 x6_1 0).f1))) (fun _ hk => hk.2) (.int .i64 (rd t365 x27_2))) (fun _ h_ => h_.1)))) (by decide) hg); replace BK361 := Aside0.mk (blk_grown (g := gb361) (o := .cells #[.int .i64 ((rd_T162 x6_1 0).f0), .int .i64 ((rd_T162 x6_1 0).f1)] 162 (0, 0)) (bx BK361) hg (Kd.R_away HO_5.out (fun _ hk => hk.1.2))); replace BK369 := Aside0.mk (blk_grown (g := gb369) (o := .cells #[.int .i64 ((rd_T162 x6_1 0).f1), .int .i64 (rd t365 x27_2)] 162 (0, 0)) (by (with_reducible repeat (first | refine blk_drewN ?_ _ | refine blk_drew ?_ | refine blk_alloc ?_ _)); refine blk_put (cs := #[.int .i64 ((rd_T162 x6_1 0).f1), .int .i64 0]) ?_ 1 _ rfl; (with_reducible repeat (first | refine blk_drewN ?_ _ | refine blk_drew ?_ | refine blk_alloc ?_ _)); refine blk_put (cs := #[.int .i64 0, .int .i64 0]) ?_ 0 _ rfl; (with_reducible repeat (first | refine blk_drewN ?_ _ | refine blk_drew ?_ | refine blk_alloc ?_ _)); exact BK369.out) hg (Kd.R_away HO_5.out (fun _ hk => hk.2))); replace HB := Aside0.mk (hb); clear HO_5; clear ho hb hg hat; have hcz29_0 : w28.cell? ⟨gb369, 0, none⟩ = some (.int .i64 ((rd_T162 x6_1 0).f1)) := bc_ BK369 0; have hcz29_1 : w28.cell? ⟨gb369, 1, none⟩ = some (.int .i64 (rd t365 x27_2)) := bc_ BK369 1; have hfz29_0 := blk_frozen BK369.out 0; have hfz29_1 := blk_frozen BK369.out 1) | ((with_reducible refine gate_builtin (b := .append) (xs := #[.tmp 43, .tmp 45]) rfl ?_); at_builtin; refine Kd.Q_append k162 (w0 := w) w.heap.size rfl (.tmp 43) (.tmp 45) 99 162 (.agg #[(.int .i64 0), (.int .i64 0)]) 16 rfl Try.underlying99 info162 rfl (by decide) (by omega) u6 x6_2 (⟨((rd_T162 x6_1 0).f1), rd t365 x27_2⟩ : S162) [.int .i64 ((rd_T162 x6_1 0).f1), .int .i64 (rd t365 x27_2)] (fun k_ => no_ v371 k_ ∧ k_ ≠ gb361 ∧ k_ ≠ gb369) (fun _ => False) rfl rfl ?aP (fun _ hk => hk.elim) ?aF ?aO ?aB ?aS ?aL ?_; (case aP => exact k162_mkM _ _ _ (⟨((rd_T162 x6_1 0).f1), rd t365 x27_2⟩ : S162)); (case aB => exact (hB HB)); (case aF => exact (fun k_ hk => ⟨Kd.fresh' (rl_ HO372) k_ hk, Kd.freshB (g := gb361) (o := .cells #[.int .i64 ((rd_T162 x6_1 0).f0), .int .i64 ((rd_T162 x6_1 0).f1)] 162 (0, 0)) (ba BK361.out) k_ hk, Kd.freshB (g := gb369) (o := .cells #[.int .i64 ((rd_T162 x6_1 0).f1), .int .i64 (rd t365 x27_2)] 162 (0, 0)) (ba BK369.out) k_ hk⟩)); (case aO => exact (by (with_reducible repeat (first | apply Kd.Q_alloc | apply Kd.Q_drewN | apply Kd.Q_drew)); exact Kd.Q_mono HO_6.out (fun _ hk => ⟨hk.2, hk.1⟩))); (case aS => exact (below_size (hB HB))); (case aL => have := LMc23.out; omega); intro v374 w30 ho hb hg hat; rw [← Ny373.out] at ho; have HO375 := Aside0.mk (ho); replace HO_25 := Aside0.mk (Kd.R_over' (ra HO_25.out) (Kd.Q_typed (by (with_reducible repeat (first | apply Kd.Q_alloc | apply Kd.Q_drewN | apply Kd.Q_drew)); exact HO_6.out)) (by decide) hg); replace BK361 := Aside0.mk (blk_grown (g := gb361) (o := .cells #[.int .i64 ((rd_T162 x6_1 0).f0), .int .i64 ((rd_T162 x6_1 0).f1)] 162 (0, 0)) (ba BK361.out) hg (Kd.Q_away HO_6.out (fun _ hk => hk.1.1))); replace BK369 := Aside0.mk (blk_grown (g := gb369) (o := .cells #[.int .i64 ((rd_T162 x6_1 0).f1), .int .i64 (rd t365 x27_2)] 162 (0, 0)) (ba BK369.out) hg (Kd.Q_away HO_6.out (fun _ hk => hk.1.2))); replace HO372 := Aside0.mk (Kd.R_after (ok := (fun k_ => k_ ≠ gb361 ∧ k_ ≠ gb369)) (rm_ HO372 (fun _ hk => ⟨hk.2, hk.1⟩)).out hg hat); replace HB := Aside0.mk (hb); clear HO_6; clear ho hb hg hat))
     go_roundg k2
     case measure => have := HK1.out; have := HK2.out; omega
     case rel => exact ⟨(y370), (y373), (wrap64 (x27_2 + 1)), (by first | rfl | (simp; done) | (simp [*]; done)), H', ⟨by have := HK1.out; have := HK2.out; omega⟩, rm_ HO372 (fun _ hk => ⟨hk.2, hk.1.1⟩), ⟨by (with_reducible repeat (first | apply Kd.Q_alloc | apply Kd.Q_drewN | apply Kd.Q_drew)); exact Kd.Q_mono HO375.out (fun _ hk => ⟨hk.1, hk.2.1⟩)⟩, ⟨ra HO_25.out⟩, ⟨by (with_reducible repeat (first | refine blk_drewN ?_ _ | refine blk_drew ?_ | refine blk_alloc ?_ _)); exact BK361.out⟩, ⟨hB HB⟩⟩

mutual
def spec_l14Hops.l0 : Nat → List Int → List Int → List (S162) → List (S162) → Int → Int → Option ((List (S162)))
 | 0, _, _, _, _, _, _ => none
 | k + 1, x0, x2, x7, x15, x16, x17 => if x17 < x16 then (if 0 ≤ x17 then (if x17 < (x15.length : Int) then ((spec_l14Behind.f k x0 ((rd_T162 x15 x17).f0) ((rd_T162 x15 x17).f1)).bind fun t381 => (spec_l14Hops.l1 k x0 x2 x7 false x15 x16 x17 t381 (t381.length : Int) 0 ((rd_T162 x15 x17).f0) ((rd_T162 x15 x17).f1))) else (none)) else (none)) else (some x7)
def spec_l14Hops.l1 : Nat → List Int → List Int → List (S162) → Bool → List (S162) → Int → Int → List Int → Int → Int → Int → Int → Option ((List (S162)))
 | 0, _, _, _, _, _, _, _, _, _, _, _, _ => none
 | k + 1, x0, x2, x7, x10, x15, x16, x17, x26, x27, x28, x381000, x381001 => if x28 < x27 then (if 0 ≤ x28 then (if x28 < (x26.length : Int) then (if x10 = true then (spec_l14Hops.l1 k x0 x2 x7 true x15 x16 x17 x26 x27 (wrap64 (x28 + 1)) x381000 x381001) else ((spec_l1Has.f k x2 (rd x26 x28)).bind fun t385 => (spec_l14Hops.l1 k x0 x2 x7 t385 x15 x16 x17 x26 x27 (wrap64 (x28 + 1)) x381000 x381001))) else (none)) else (none)) else (if x10 = true then (if x7.length < 8796093022208 then (spec_l14Hops.l0 k x0 x2 (x7 ++ [(⟨x381000, x381001⟩ : S162)]) x15 x16 (wrap64 (x17 + 1))) else (none)) else (spec_l14Hops.l0 k x0 x2 x7 x15 x16 (wrap64 (x17 + 1))))
end
def spec_l14Hops.f (k : Nat) (l0 : List Int) (a1 : Int) (l2 : List Int) : Option ((List (S162))) := (spec_l10Spread.f k l0 a1).bind fun t376 => (spec_l14Hops.l0 k l0 l2 ([] : List (S162)) t376 (t376.length : Int) 0)
theorem spec_l14Hops.mono_l : ∀ k, (∀ y0 y1 y2 y3 y4 y5, LeO (spec_l14Hops.l0 k y0 y1 y2 y3 y4 y5) (spec_l14Hops.l0 (k + 1) y0 y1 y2 y3 y4 y5)) ∧ (∀ y0 y1 y2 y3 y4 y5 y6 y7 y8 y9 y10 y11, LeO (spec_l14Hops.l1 k y0 y1 y2 y3 y4 y5 y6 y7 y8 y9 y10 y11) (spec_l14Hops.l1 (k + 1) y0 y1 y2 y3 y4 y5 y6 y7 y8 y9 y10 y11))
 | 0 => ⟨fun _ _ _ _ _ _ r h => by simp [spec_l14Hops.l0] at h, fun _ _ _ _ _ _ _ _ _ _ _ _ r h => by simp [spec_l14Hops.l1] at h⟩
 | k + 1 => by
  obtain ⟨ih0, ih1⟩ := spec_l14Hops.mono_l k
  refine ⟨?_, ?_⟩
  ·intro y0 y1 y2 y3 y4 y5
   unfold spec_l14Hops.l0
   repeat' first
   | (with_reducible exact ih0 _ _ _ _ _ _)
   | (with_reducible exact ih1 _ _ _ _ _ _ _ _ _ _ _ _)
   | (with_reducible exact spec_l10Spread.mono _ _ _)
   | (with_reducible exact spec_l14Behind.mono _ _ _ _)
   | (with_reducible exact spec_l1Has.mono _ _ _)
   | (with_reducible exact LeO.refl _)
   | (with_reducible exact LeO.none _)
   | (with_reducible refine LeO.ite ?_ ?_)
   | (with_reducible refine LeO.bind ?_ (fun _ => ?_))
  ·intro y0 y1 y2 y3 y4 y5 y6 y7 y8 y9 y10 y11
   unfold spec_l14Hops.l1
   repeat' first
   | (with_reducible exact ih0 _ _ _ _ _ _)
   | (with_reducible exact ih1 _ _ _ _ _ _ _ _ _ _ _ _)
   | (with_reducible exact spec_l10Spread.mono _ _ _)
   | (with_reducible exact spec_l14Behind.mono _ _ _ _)
   | (with_reducible exact spec_l1Has.mono _ _ _)
   | (with_reducible exact LeO.refl _)
   | (with_reducible exact LeO.none _)
   | (with_reducible refine LeO.ite ?_ ?_)
   | (with_reducible refine LeO.bind ?_ (fun _ => ?_))
theorem spec_l14Hops.mono : ∀ a0 a1 a2 k, LeO (spec_l14Hops.f k a0 a1 a2) (spec_l14Hops.f (k + 1) a0 a1 a2) := by
 intro a0 a1 a2 k
 obtain ⟨ih0, ih1⟩ := spec_l14Hops.mono_l k
 unfold spec_l14Hops.f
 repeat' first
   | (with_reducible exact ih0 _ _ _ _ _ _)
   | (with_reducible exact ih1 _ _ _ _ _ _ _ _ _ _ _ _)
   | (with_reducible exact spec_l10Spread.mono _ _ _)
   | (with_reducible exact spec_l14Behind.mono _ _ _ _)
   | (with_reducible exact spec_l1Has.mono _ _ _)
   | (with_reducible exact LeO.refl _)
   | (with_reducible exact LeO.none _)
   | (with_reducible refine LeO.ite ?_ ?_)
   | (with_reducible refine LeO.bind ?_ (fun _ => ?_))
set_option maxHeartbeats 8000000 in
set_option maxRecDepth 100000 in
theorem spec_l14Hops.calls (k : Nat) (A0 : Option Addr) (c0 : Nat) (l0 : List Int) (a1 : Int) (A2 : Option Addr) (c2 : Nat) (l2 : List Int) (r : List (S162)) (w : World) (hr0 : Kd.C (Kd.int .i64) w A0 l0.length l0) (hc0 : l0.length ≤ c0) (hr2 : Kd.C (Kd.int .i64) w A2 l2.length l2) (hc2 : l2.length ≤ c2) (h : spec_l14Hops.f k l0 a1 l2 = some r) :
  Calls Try.prog 145 #[.slice A0 l0.length c0, .int .i64 a1, .slice A2 l2.length c2] w fun e w' => ∃ v0_ : Value, e = .returned (v0_) ∧ Kd.R k162 162 w' w.heap.size (fun _ => True) v0_ r ∧ Below w.heap.size w w' := by
 have hu162 := Try.underlying162
 have HR0 := Aside0.mk hr0
 have HC0 := Aside0.mk hc0
 clear hr0 hc0
 have HR2 := Aside0.mk hr2
 have HC2 := Aside0.mk hc2
 clear hr2 hc2
 have HB := Aside0.mk (Below.refl w.heap.size w)
 have H : ((spec_l10Spread.f k l0 a1).bind fun t376 => (spec_l14Hops.l0 k l0 l2 ([] : List (S162)) t376 (t376.length : Int) 0)) = some r := h
 clear h
 replace H := Option.bind_eq_some_iff.mp H
 obtain ⟨t376, A40, H⟩ := H
 replace H : (spec_l14Hops.l0 k l0 l2 ([] : List (S162)) t376 (t376.length : Int) 0) = some r := H
 have A4 := Aside0.mk A40
 clear A40
 have H' := Aside0.mk H
 clear H
 go_enter Try.func145, Try.ntmps145
 go_wp2_with (first | ((with_reducible refine gate_callee (f := 144) rfl ?_); refine goesL_ (some 15) rfl rfl Try.func144 (by kernel_rfl) rfl #[.slice A0 l0.length c0, .int .i64 a1] rfl tm_ ?_; (with_reducible refine (spec_l10Spread.calls k _ _ l0 a1 t376 _ ?side1 ?side2 A4.out).mono ?_); (case side1 => exact ca HR0.out); (case side2 => exact HC0.out); rintro e w5 ⟨v377, rfl, ho0, hb⟩; refine ⟨_, rfl, ?_⟩; have HO378 := Aside0.mk (Kd.R_lower ho0 (below_size (hB HB))); replace HB := bst_ HB hb; clear hb ho0; obtain ⟨Ao6, co6, eo6⟩ := Kd.R_slice HO378.out; subst eo6))
 go_loopg [7, 17] k (fun kq v7 v17 w' => ∃ (x7_1 : List (S162)) (x17_1 : Int), v17 = .int .i64 x17_1 ∧ Aside0 (spec_l14Hops.l0 kq l0 l2 x7_1 t376 (t376.length : Int) x17_1 = some r) ∧ Aside0 (kq ≤ k) ∧ Aside0 (Kd.R k162 162 w' w.heap.size (fun k_ => no_ (.slice Ao6 t376.length co6) k_) v7 x7_1) ∧ Aside0 (Kd.R k162 162 w' w.heap.size (fun k_ => no_ v7 k_) (.slice Ao6 t376.length co6) t376) ∧ Aside0 (Below w.heap.size w w'))
 case atStart => exact ⟨(([] : List (S162))), (0), (by first | rfl | (simp; done) | (simp [*]; done)), H', ⟨Nat.le_refl _⟩, ⟨by first | exact Kd.R_nil _ _ _ _ _ | exact Kd.N_nil _ _ _ _ _ | exact Kd.V_nil _ _ _ _ _ | exact Kd.Q_nil _ _ _ _ _ | exact Kd.S_nil _ _ _ _ _⟩, ⟨by (with_reducible repeat (first | apply Kd.R_alloc | apply Kd.R_drewN | apply Kd.R_drew)); exact Kd.R_mono HO378.out (fun _ hk => (by simp [Value.ownBlock]))⟩, ⟨hB HB⟩⟩
 case round =>
  clear H'
  try clear c2
  obtain ⟨x7_1, x17_1, rfl, HA, HK1, HO_7, HO_15, HB⟩ := hrel
  cases gk with
  | zero => exact absurd HA.out (by simp [spec_l14Hops.l0])
  | succ k1 =>
   have H := HA.out
   clear HA
   simp only [spec_l14Hops.l0] at H
   by_cases c7 : x17_1 < (t376.length : Int)
   rotate_left
   ·rw [if_neg c7] at H
    have c7b0 : decide (x17_1 < (t376.length : Int)) = false := decide_eq_false c7
    clear c7
    obtain rfl := Option.some.inj H
    go_wp2
    go_ret
    exact ⟨_, by first | rfl | (simp [errW_none, errW_some] <;> rfl) | (simp [*, errW_none, errW_some] <;> rfl), by (with_reducible repeat (first | apply Kd.R_alloc | apply Kd.R_drewN | apply Kd.R_drew)); exact Kd.R_mono HO_7.out (fun _ hk => trivial), by repeat (first | (with_reducible first | exact HB.out | apply below_alloc | apply pw_below_drewN | apply below_drew1) | exact HB.out)⟩
   rw [if_pos c7] at H
   have c7b0 : decide (x17_1 < (t376.length : Int)) = true := decide_eq_true c7
   clear c7
   by_cases c8 : 0 ≤ x17_1
   rotate_left
   ·rw [if_neg c8] at H
    exact absurd H (by simp)
   rw [if_pos c8] at H
   have c8b0 : decide (0 ≤ x17_1) = true := decide_eq_true c8
   clear c8
   by_cases c9 : x17_1 < (t376.length : Int)
   rotate_left
   ·rw [if_neg c9] at H
    exact absurd H (by simp)
   rw [if_pos c9] at H
   have c9b0 : decide (x17_1 < (t376.length : Int)) = true := decide_eq_true c9
   clear c9
   replace H := Option.bind_eq_some_iff.mp H
   obtain ⟨t381, A100, H⟩ := H
   replace H : (spec_l14Hops.l1 k1 l0 l2 x7_1 false t376 (t376.length : Int) x17_1 t381 (t381.length : Int) 0 ((rd_T162 t376 x17_1).f0) ((rd_T162 t376 x17_1).f1)) = some r := H
   have A10 := Aside0.mk A100
   clear A100
   have H' := Aside0.mk H
   clear H
   have p379 : 0 ≤ (x17_1 : Int) := of_decide_eq_true (by first | (with_reducible assumption) | assumption)
   have q379 : x17_1 < (t376.length : Int) := of_decide_eq_true (by first | (with_reducible assumption) | assumption)
   obtain ⟨ad379, e379, hx379_0, hx379_1⟩ := at_T162 (Kd.R_reads' HO_15.out).2.2 x17_1 p379 q379
   cases e379
   replace p379 := eq_true p379
   replace q379 := eq_true q379
   go_wp2_with (first | ((with_reducible refine gate_dst (N := 9) rfl ?_); refine box_event ?hg (N := 9) ?hd (cs := #[.int .i64 0, .int .i64 0]) (t := 162) ?hr ?_; (case hd => rfl); (case hg => rfl); (case hr => first | (go_simp; done) | (go_simp; rfl)); intro gb380 hg w11 hbox hb; have BK380 := Aside0.mk (hbox); have GW380 := gw_ hg HB; have GE380 := gw_ hg HB; replace HO_7 := Aside0.mk (Kd.R_below (Kd.R_elderB (ra HO_7.out) gb380 (Nat.le_of_eq hg.symm)) hb); replace HO_15 := Aside0.mk (Kd.R_below (Kd.R_elderB (ra HO_15.out) gb380 (Nat.le_of_eq hg.symm)) hb); replace HB := bst_ HB hb; clear hb hbox hg; have hcz12_0 : w11.cell? ⟨gb380, 0, none⟩ = some (.int .i64 0) := bc_ BK380 0; have hcz12_1 : w11.cell? ⟨gb380, 1, none⟩ = some (.int .i64 0) := bc_ BK380 1; have hfz12_0 := blk_frozen BK380.out 0; have hfz12_1 := blk_frozen BK380.out 1) | ((with_reducible refine gate_callee (f := 135) rfl ?_); refine goesL_ (some 26) rfl rfl Try.func135 (by kernel_rfl) rfl #[.slice A0 l0.length c0, .int .i64 ((rd_T162 t376 x17_1).f0), .int .i64 ((rd_T162 t376 x17_1).f1)] rfl tm_ ?_; (with_reducible refine (spec_l14Behind.calls k1 _ _ l0 ((rd_T162 t376 x17_1).f0) ((rd_T162 t376 x17_1).f1) t381 _ ?side1 ?side2 A10.out).mono ?_); (case side1 => exact Kd.C_below HR0.out (hB HB)); (case side2 => exact HC0.out); rintro e w13 ⟨v382, rfl, ho0, hb⟩; refine ⟨_, rfl, ?_⟩; have HO383 := Aside0.mk (Kd.R_lower ho0 (below_size (hB HB))); replace HO_7 := Aside0.mk (Kd.R_below (ra (Kd.R_mono (Kd.R_far (p := ⟨gb380, 1, none⟩) (Kd.R_far (p := ⟨gb380, 0, none⟩) (Kd.R_mono HO_7.out (fun k_ hk => (⟨hk, hk.2⟩ : _ ∧ k_ ≠ gb380))) (fun _ hk => hk.2) (.int .i64 ((rd_T162 t376 x17_1).f0))) (fun _ hk => hk.2) (.int .i64 ((rd_T162 t376 x17_1).f1))) (fun _ h_ => h_.1))) hb); replace HO_15 := Aside0.mk (Kd.R_below (ra (Kd.R_mono (Kd.R_far (p := ⟨gb380, 1, none⟩) (Kd.R_far (p := ⟨gb380, 0, none⟩) (Kd.R_mono HO_15.out (fun k_ hk => (⟨hk, hk.2⟩ : _ ∧ k_ ≠ gb380))) (fun _ hk => hk.2) (.int .i64 ((rd_T162 t376 x17_1).f0))) (fun _ hk => hk.2) (.int .i64 ((rd_T162 t376 x17_1).f1))) (fun _ h_ => h_.1))) hb); replace BK380 := Aside0.mk (blk_below (g := gb380) (o := .cells #[.int .i64 ((rd_T162 t376 x17_1).f0), .int .i64 ((rd_T162 t376 x17_1).f1)] 162 (0, 0)) (by (with_reducible repeat (first | refine blk_drewN ?_ _ | refine blk_drew ?_ | refine blk_alloc ?_ _)); refine blk_put (cs := #[.int .i64 ((rd_T162 t376 x17_1).f0), .int .i64 0]) ?_ 1 _ rfl; (with_reducible repeat (first | refine blk_drewN ?_ _ | refine blk_drew ?_ | refine blk_alloc ?_ _)); refine blk_put (cs := #[.int .i64 0, .int .i64 0]) ?_ 0 _ rfl; (with_reducible repeat (first | refine blk_drewN ?_ _ | refine blk_drew ?_ | refine blk_alloc ?_ _)); exact BK380.out) hb); replace HB := bst_ HB hb; clear hb ho0; obtain ⟨Ao14, co14, eo14⟩ := Kd.R_slice HO383.out; subst eo14))
   go_loopg [10, 28] k1 (fun kq v10 v28 w' => ∃ (x10_2 : Bool) (x28_2 : Int), v10 = .bool x10_2 ∧ v28 = .int .i64 x28_2 ∧ Aside0 (spec_l14Hops.l1 kq l0 l2 x7_1 x10_2 t376 (t376.length : Int) x17_1 t381 (t381.length : Int) x28_2 ((rd_T162 t376 x17_1).f0) ((rd_T162 t376 x17_1).f1) = some r) ∧ Aside0 (kq ≤ k1) ∧ Aside0 (Kd.R k162 162 w' w.heap.size (fun k_ => some k_ ≠ ((.slice (some ad379) t376.length co6) : Value).ownBlock ∧ k_ ≠ gb380) u7 x7_1) ∧ Aside0 (Kd.R k162 162 w' w.heap.size (fun k_ => some k_ ≠ (u7 : Value).ownBlock ∧ k_ ≠ gb380) (.slice (some ad379) t376.length co6) t376) ∧ Aside0 (Kd.R (Kd.int .i64) 3 w' w.heap.size (fun _ => True) (.slice Ao14 t381.length co14) t381) ∧ Aside0 (w'.heap[gb380]? = some (.cells #[.int .i64 ((rd_T162 t376 x17_1).f0), .int .i64 ((rd_T162 t376 x17_1).f1)] 162 (0, 0))) ∧ Aside0 (Below w.heap.size w w'))
   case atStart => exact ⟨(false), (0), (by first | rfl | (simp; done) | (simp [*]; done)), (by first | rfl | (simp; done) | (simp [*]; done)), H', ⟨Nat.le_refl _⟩, ⟨ra HO_7.out⟩, ⟨ra HO_15.out⟩, ⟨ra HO383.out⟩, ⟨by (with_reducible repeat (first | refine blk_drewN ?_ _ | refine blk_drew ?_ | refine blk_alloc ?_ _)); exact BK380.out⟩, ⟨hB HB⟩⟩
   case round =>
    clear H'
    try clear c2
    try clear c7
    try clear c7b0
    try clear c8
    try clear c8b0
    try clear c9
    try clear c9b0
    try clear hcz12_0
    try clear hcz12_1
    try clear hfz12_0
    try clear hfz12_1
    try clear hx379_0
    try clear hx379_1
    try clear p379
    try clear q379
    obtain ⟨x10_2, x28_2, rfl, rfl, HA, HK2, HO_7, HO_15, HO_26, BK380, HB⟩ := hrel
    cases gk with
    | zero => exact absurd HA.out (by simp [spec_l14Hops.l1])
    | succ k2 =>
     have H := HA.out
     clear HA
     simp only [spec_l14Hops.l1] at H
     by_cases c15 : x28_2 < (t381.length : Int)
     ·rw [if_pos c15] at H
      have c15b0 : decide (x28_2 < (t381.length : Int)) = true := decide_eq_true c15
      clear c15
      by_cases c16 : 0 ≤ x28_2
      rotate_left
      ·rw [if_neg c16] at H
       exact absurd H (by simp)
      rw [if_pos c16] at H
      have c16b0 : decide (0 ≤ x28_2) = true := decide_eq_true c16
      clear c16
      by_cases c17 : x28_2 < (t381.length : Int)
      rotate_left
      ·rw [if_neg c17] at H
       exact absurd H (by simp)
      rw [if_pos c17] at H
      have c17b0 : decide (x28_2 < (t381.length : Int)) = true := decide_eq_true c17
      clear c17
      by_cases c18 : x10_2 = true
      ·subst c18
       rw [if_pos rfl] at H
       have H' := Aside0.mk H
       clear H
       have p384 : 0 ≤ (x28_2 : Int) := of_decide_eq_true (by first | (with_reducible assumption) | assumption)
       have q384 : x28_2 < (t381.length : Int) := of_decide_eq_true (by first | (with_reducible assumption) | assumption)
       obtain ⟨ad384, e384, hx384_0⟩ := Kd.at_int (Kd.R_reads' HO_26.out).2.2 x28_2 p384 q384
       cases e384
       replace p384 := eq_true p384
       replace q384 := eq_true q384
       go_wp2
       go_roundg k2
       case measure => have := HK1.out; have := HK2.out; omega
       case rel => exact ⟨(true), (wrap64 (x28_2 + 1)), (by first | rfl | (simp; done) | (simp [*]; done)), (by first | rfl | (simp; done) | (simp [*]; done)), H', ⟨by have := HK1.out; have := HK2.out; omega⟩, ⟨ra HO_7.out⟩, ⟨ra HO_15.out⟩, ⟨ra HO_26.out⟩, ⟨by (with_reducible repeat (first | refine blk_drewN ?_ _ | refine blk_drew ?_ | refine blk_alloc ?_ _)); exact BK380.out⟩, ⟨hB HB⟩⟩
      replace c18 := Bool.eq_false_iff.mpr c18
      subst c18
      rw [if_neg (show ¬ (false = true) by decide)] at H
      replace H := Option.bind_eq_some_iff.mp H
      obtain ⟨t385, A190, H⟩ := H
      replace H : (spec_l14Hops.l1 k2 l0 l2 x7_1 t385 t376 (t376.length : Int) x17_1 t381 (t381.length : Int) (wrap64 (x28_2 + 1)) ((rd_T162 t376 x17_1).f0) ((rd_T162 t376 x17_1).f1)) = some r := H
      have A19 := Aside0.mk A190
      clear A190
      have H' := Aside0.mk H
      clear H
      have p384 : 0 ≤ (x28_2 : Int) := of_decide_eq_true (by first | (with_reducible assumption) | assumption)
      have q384 : x28_2 < (t381.length : Int) := of_decide_eq_true (by first | (with_reducible assumption) | assumption)
      obtain ⟨ad384, e384, hx384_0⟩ := Kd.at_int (Kd.R_reads' HO_26.out).2.2 x28_2 p384 q384
      cases e384
      replace p384 := eq_true p384
      replace q384 := eq_true q384
      go_wp2_with (first | (go_at_call 127; (with_reducible refine (spec_l1Has.calls k2 _ _ l2 (rd t381 x28_2) t385 _ ?side1 ?side2 A19.out).mono ?_); (case side1 => exact ca (Kd.C_below HR2.out HB.out)); (case side2 => exact HC2.out); rintro e w' ⟨rfl, ⟨nd, rfl⟩⟩))
      go_roundg k2
      case measure => have := HK1.out; have := HK2.out; omega
      case rel => exact ⟨(t385), (wrap64 (x28_2 + 1)), (by first | rfl | (simp; done) | (simp [*]; done)), (by first | rfl | (simp; done) | (simp [*]; done)), H', ⟨by have := HK1.out; have := HK2.out; omega⟩, ⟨ra HO_7.out⟩, ⟨ra HO_15.out⟩, ⟨ra HO_26.out⟩, ⟨by (with_reducible repeat (first | refine blk_drewN ?_ _ | refine blk_drew ?_ | refine blk_alloc ?_ _)); exact BK380.out⟩, ⟨hB HB⟩⟩
     rw [if_neg c15] at H
     have c15b0 : decide (x28_2 < (t381.length : Int)) = false := decide_eq_false c15
     clear c15
     by_cases c20 : x10_2 = true
     rotate_left
     ·replace c20 := Bool.eq_false_iff.mpr c20
      subst c20
      rw [if_neg (show ¬ (false = true) by decide)] at H
      have H' := Aside0.mk H
      clear H
      go_wp2
      go_roundg k2
      case measure => have := HK1.out; have := HK2.out; omega
      case rel => exact ⟨(x7_1), (wrap64 (x17_1 + 1)), (by first | rfl | (simp; done) | (simp [*]; done)), H', ⟨by have := HK1.out; have := HK2.out; omega⟩, rm_ HO_7 (fun _ hk => hk.1), rm_ HO_15 (fun _ hk => hk.1), ⟨hB HB⟩⟩
     subst c20
     rw [if_pos rfl] at H
     by_cases c21 : x7_1.length < 8796093022208
     rotate_left
     ·rw [if_neg c21] at H
      exact absurd H (by simp)
     rw [if_pos c21] at H
     have LMc21 := Aside0.mk c21
     clear c21
     obtain ⟨y386, hy386⟩ : ∃ y_ : List (S162), y_ = (x7_1 ++ [(⟨((rd_T162 t376 x17_1).f0), ((rd_T162 t376 x17_1).f1)⟩ : S162)]) := ⟨_, rfl⟩
     replace H : (spec_l14Hops.l0 k2 l0 l2 y386 t376 (t376.length : Int) (wrap64 (x17_1 + 1))) = some r := by first | (rw [hy386]; with_reducible exact H) | (have H2_ := (Option.bind_some _ _).symm.trans H; rw [hy386]; with_reducible exact H2_) | (have H2_ := (Option.bind_some _ _).symm.trans H; with_reducible exact H2_) | with_reducible exact H | (rw [hy386]; exact H) | exact H
     have Ny386 := Aside0.mk hy386
     clear hy386
     have H' := Aside0.mk H
     clear H
     have hcz22_0 : wr.cell? ⟨gb380, 0, none⟩ = some (.int .i64 ((rd_T162 t376 x17_1).f0)) := bc_ BK380 0
     have hcz22_1 : wr.cell? ⟨gb380, 1, none⟩ = some (.int .i64 ((rd_T162 t376 x17_1).f1)) := bc_ BK380 1
     have hfz22_0 := blk_frozen BK380.out 0
     have hfz22_1 := blk_frozen BK380.out 1
     go_wp2_with (first | ((with_reducible refine gate_builtin (b := .append) (xs := #[.tmp 40, .tmp 42]) rfl ?_); at_builtin; refine Kd.R_append k162 (w0 := w) w.heap.size rfl (.tmp 40) (.tmp 42) 99 162 (.agg #[(.int .i64 0), (.int .i64 0)]) 16 rfl Try.underlying99 info162 rfl (by decide) (by omega) u7 x7_1 (⟨((rd_T162 t376 x17_1).f0), ((rd_T162 t376 x17_1).f1)⟩ : S162) [.int .i64 ((rd_T162 t376 x17_1).f0), .int .i64 ((rd_T162 t376 x17_1).f1)] (fun k_ => some k_ ≠ (.slice (some ad379) t376.length co6 : Value).ownBlock ∧ k_ ≠ gb380) (fun _ => False) rfl rfl ?aP (fun _ hk => hk.elim) ?aF ?aO ?aB ?aS ?aL ?_; (case aP => exact k162_mkM _ _ _ (⟨((rd_T162 t376 x17_1).f0), ((rd_T162 t376 x17_1).f1)⟩ : S162)); (case aB => exact (hB HB)); (case aF => exact (fun k_ hk => ⟨Kd.fresh' (rl_ HO_15) k_ hk, Kd.freshB (g := gb380) (o := .cells #[.int .i64 ((rd_T162 t376 x17_1).f0), .int .i64 ((rd_T162 t376 x17_1).f1)] 162 (0, 0)) (ba BK380.out) k_ hk⟩)); (case aO => exact (ra HO_7.out)); (case aS => exact (below_size (hB HB))); (case aL => have := LMc21.out; omega); intro v387 w23 ho hb hg hat; rw [← Ny386.out] at ho; have HO388 := Aside0.mk (ho); replace HO_15 := Aside0.mk (Kd.R_after (ok := (fun k_ => k_ ≠ gb380)) (rm_ HO_15 (fun _ hk => ⟨hk.2, hk.1⟩)).out hg hat); replace HO_26 := Aside0.mk (Kd.R_over' (ra HO_26.out) (Kd.R_typed (ra HO_7.out)) (by decide) hg); replace BK380 := Aside0.mk (blk_grown (g := gb380) (o := .cells #[.int .i64 ((rd_T162 t376 x17_1).f0), .int .i64 ((rd_T162 t376 x17_1).f1)] 162 (0, 0)) (ba BK380.out) hg (Kd.R_away HO_7.out (fun _ hk => hk.2))); replace HB := Aside0.mk (hb); clear HO_7; clear ho hb hg hat))
     go_roundg k2
     case measure => have := HK1.out; have := HK2.out; omega
     case rel => exact ⟨(y386), (wrap64 (x17_1 + 1)), (by first | rfl | (simp; done) | (simp [*]; done)), H', ⟨by have := HK1.out; have := HK2.out; omega⟩, rm_ HO388 (fun _ hk => hk.1), rm_ HO_15 (fun _ hk => hk.2), ⟨hB HB⟩⟩

def spec_SavedBy.j0 : Nat → List Int → Int → List Int → Bool → Option (Int × Bool)
 | 0, _, _, _, _ => none
 | k + 1, x0, x1, x2, x17 => if x17 = true then (some (0, false)) else ((spec_l10Spread.f k x0 x1).bind fun t391 => ((spec_l14Hops.f k x0 x1 x2).bind fun t394 => (some (wrap64 ((t391.length : Int) - (t394.length : Int)), true))))
def spec_SavedBy.f (k : Nat) (l0 : List Int) (a1 : Int) (l2 : List Int) : Option (Int × Bool) := (spec_l10Two.f k l0 a1 a1).bind fun t389 => (if t389 = true then ((spec_l14Wants.f k l2).bind fun t390 => (spec_SavedBy.j0 k l0 a1 l2 (!t390))) else (spec_SavedBy.j0 k l0 a1 l2 true))
theorem spec_SavedBy.mono_l : ∀ k, (∀ y0 y1 y2 y3, LeO (spec_SavedBy.j0 k y0 y1 y2 y3) (spec_SavedBy.j0 (k + 1) y0 y1 y2 y3))
 | 0 => fun _ _ _ _ r h => by simp [spec_SavedBy.j0] at h
 | k + 1 => by
  have ih0 := spec_SavedBy.mono_l k
  ·intro y0 y1 y2 y3
   unfold spec_SavedBy.j0
   repeat' first
   | (with_reducible exact ih0 _ _ _ _)
   | (with_reducible exact spec_l10Spread.mono _ _ _)
   | (with_reducible exact spec_l10Two.mono _ _ _ _)
   | (with_reducible exact spec_l14Hops.mono _ _ _ _)
   | (with_reducible exact spec_l14Wants.mono _ _)
   | (with_reducible exact LeO.refl _)
   | (with_reducible exact LeO.none _)
   | (with_reducible refine LeO.ite ?_ ?_)
   | (with_reducible refine LeO.bind ?_ (fun _ => ?_))
theorem spec_SavedBy.mono : ∀ a0 a1 a2 k, LeO (spec_SavedBy.f k a0 a1 a2) (spec_SavedBy.f (k + 1) a0 a1 a2) := by
 intro a0 a1 a2 k
 have ih0 := spec_SavedBy.mono_l k
 unfold spec_SavedBy.f
 repeat' first
   | (with_reducible exact ih0 _ _ _ _)
   | (with_reducible exact spec_l10Spread.mono _ _ _)
   | (with_reducible exact spec_l10Two.mono _ _ _ _)
   | (with_reducible exact spec_l14Hops.mono _ _ _ _)
   | (with_reducible exact spec_l14Wants.mono _ _)
   | (with_reducible exact LeO.refl _)
   | (with_reducible exact LeO.none _)
   | (with_reducible refine LeO.ite ?_ ?_)
   | (with_reducible refine LeO.bind ?_ (fun _ => ?_))
set_option maxHeartbeats 8000000 in
set_option maxRecDepth 100000 in
theorem spec_SavedBy.calls (k : Nat) (A0 : Option Addr) (c0 : Nat) (l0 : List Int) (a1 : Int) (A2 : Option Addr) (c2 : Nat) (l2 : List Int) (r1 : Int) (r2 : Bool) (w : World) (hr0 : Kd.C (Kd.int .i64) w A0 l0.length l0) (hc0 : l0.length ≤ c0) (hr2 : Kd.C (Kd.int .i64) w A2 l2.length l2) (hc2 : l2.length ≤ c2) (h : spec_SavedBy.f k l0 a1 l2 = some (r1, r2)) :
  Calls Try.prog 76 #[.slice A0 l0.length c0, .int .i64 a1, .slice A2 l2.length c2] w fun e w' => e = .returned (.tuple #[.int .i64 r1, .bool r2]) ∧ Below w.heap.size w w' := by
 have HR0 := Aside0.mk hr0
 have HC0 := Aside0.mk hc0
 clear hr0 hc0
 have HR2 := Aside0.mk hr2
 have HC2 := Aside0.mk hc2
 clear hr2 hc2
 have HB := Aside0.mk (Below.refl w.heap.size w)
 have H : ((spec_l10Two.f k l0 a1 a1).bind fun t389 => (if t389 = true then ((spec_l14Wants.f k l2).bind fun t390 => (spec_SavedBy.j0 k l0 a1 l2 (!t390))) else (spec_SavedBy.j0 k l0 a1 l2 true))) = some (r1, r2) := h
 clear h
 have HC4 := Aside0.mk H
 clear H
 go_enter Try.func76, Try.ntmps76
 go_upto_region 1 with (fail)
 go_cut [17] (fun v17 wc => ∃ (kq : Nat) (x17_3 : Bool), v17 = .bool x17_3 ∧ Aside0 (spec_SavedBy.j0 kq l0 a1 l2 x17_3 = some (r1, r2)) ∧ Aside0 (kq ≤ k) ∧ Aside0 (Below w.heap.size w wc))
 case first =>
  have H := HC4.out
  clear HC4
  replace H := Option.bind_eq_some_iff.mp H
  obtain ⟨t389, A50, H⟩ := H
  replace H : (if t389 = true then ((spec_l14Wants.f k l2).bind fun t390 => (spec_SavedBy.j0 k l0 a1 l2 (!t390))) else (spec_SavedBy.j0 k l0 a1 l2 true)) = some (r1, r2) := H
  have A5 := Aside0.mk A50
  clear A50
  by_cases c6 : t389 = true
  rotate_left
  ·replace c6 := Bool.eq_false_iff.mpr c6
   subst c6
   rw [if_neg (show ¬ (false = true) by decide)] at H
   have H' := Aside0.mk H
   clear H
   go_wp2_with (first | ((with_reducible refine gate_callee (f := 133) rfl ?_); refine goesL_ (some 11) rfl rfl Try.func133 (by kernel_rfl) rfl #[.slice A0 l0.length c0, .int .i64 a1, .int .i64 a1] rfl tm_ ?_; (with_reducible refine (spec_l10Two.calls k _ _ l0 a1 a1 false _ ?side1 ?side2 A5.out).mono ?_); (case side1 => exact ca (Kd.C_below HR0.out HB.out)); (case side2 => exact HC0.out); rintro e w' ⟨rfl, ⟨nd, rfl⟩⟩; refine ⟨_, rfl, ?_⟩))
   go_meet
   case rel => exact ⟨_, (true), (by first | rfl | (simp; done) | (simp [*]; done)), H', ⟨by first | omega | exact Nat.le_refl _⟩, ⟨hB HB⟩⟩
  subst c6
  rw [if_pos rfl] at H
  replace H := Option.bind_eq_some_iff.mp H
  obtain ⟨t390, A70, H⟩ := H
  replace H : (spec_SavedBy.j0 k l0 a1 l2 (!t390)) = some (r1, r2) := H
  have A7 := Aside0.mk A70
  clear A70
  have H' := Aside0.mk H
  clear H
  go_wp2_with (first | ((with_reducible refine gate_callee (f := 133) rfl ?_); refine goesL_ (some 11) rfl rfl Try.func133 (by kernel_rfl) rfl #[.slice A0 l0.length c0, .int .i64 a1, .int .i64 a1] rfl tm_ ?_; (with_reducible refine (spec_l10Two.calls k _ _ l0 a1 a1 true _ ?side1 ?side2 A5.out).mono ?_); (case side1 => exact ca (Kd.C_below HR0.out HB.out)); (case side2 => exact HC0.out); rintro e w' ⟨rfl, ⟨nd, rfl⟩⟩; refine ⟨_, rfl, ?_⟩) | (go_at_call 143; (with_reducible refine (spec_l14Wants.calls k _ _ l2 t390 _ ?side1 ?side2 A7.out).mono ?_); (case side1 => exact ca (Kd.C_below HR2.out (hB HB))); (case side2 => exact HC2.out); rintro e w' ⟨rfl, ⟨nd, rfl⟩⟩))
  go_meet
  case rel => exact ⟨_, (!t390), (by first | rfl | (simp; done) | (simp [*]; done)), H', ⟨by first | omega | exact Nat.le_refl _⟩, ⟨hB HB⟩⟩
 case rest =>
  clear HC4
  try clear c2
  obtain ⟨kq, x17_3, rfl, HA, HJ3, HB⟩ := hcut
  cases kq with
  | zero => exact absurd HA.out (by simp [spec_SavedBy.j0])
  | succ kj3 =>
   have H := HA.out
   clear HA
   simp only [spec_SavedBy.j0] at H
   by_cases c8 : x17_3 = true
   ·subst c8
    rw [if_pos rfl] at H
    simp only [Option.some.injEq, Prod.mk.injEq] at H
    obtain ⟨rfl, rfl⟩ := H
    go_wp2
    go_ret2
    exact ⟨by first | rfl | (simp [errW_none, errW_some] <;> rfl) | (simp [*, errW_none, errW_some] <;> rfl), by repeat (first | (with_reducible first | exact HB.out | apply below_alloc | apply pw_below_drewN | apply below_drew1) | exact HB.out)⟩
   replace c8 := Bool.eq_false_iff.mpr c8
   subst c8
   rw [if_neg (show ¬ (false = true) by decide)] at H
   replace H := Option.bind_eq_some_iff.mp H
   obtain ⟨t391, A90, H⟩ := H
   replace H : ((spec_l14Hops.f kj3 l0 a1 l2).bind fun t394 => (some (wrap64 ((t391.length : Int) - (t394.length : Int)), true))) = some (r1, r2) := H
   have A9 := Aside0.mk A90
   clear A90
   replace H := Option.bind_eq_some_iff.mp H
   obtain ⟨t394, A100, H⟩ := H
   replace H : (some (wrap64 ((t391.length : Int) - (t394.length : Int)), true)) = some (r1, r2) := H
   have A10 := Aside0.mk A100
   clear A100
   simp only [Option.some.injEq, Prod.mk.injEq] at H
   obtain ⟨rfl, rfl⟩ := H
   go_wp2_with (first | ((with_reducible refine gate_callee (f := 144) rfl ?_); refine goesL_ (some 20) rfl rfl Try.func144 (by kernel_rfl) rfl #[.slice A0 l0.length c0, .int .i64 a1] rfl tm_ ?_; (with_reducible refine (spec_l10Spread.calls kj3 _ _ l0 a1 t391 _ ?side1 ?side2 A9.out).mono ?_); (case side1 => exact ca (Kd.C_below HR0.out HB.out)); (case side2 => exact HC0.out); rintro e w11 ⟨v392, rfl, ho0, hb⟩; refine ⟨_, rfl, ?_⟩; have HO393 := Aside0.mk (Kd.R_lower ho0 (below_size (hB HB))); replace HB := bst_ HB hb; clear hb ho0; obtain ⟨Ao12, co12, eo12⟩ := Kd.R_slice HO393.out; subst eo12) | ((with_reducible refine gate_callee (f := 145) rfl ?_); refine goesL_ (some 25) rfl rfl Try.func145 (by kernel_rfl) rfl #[.slice A0 l0.length c0, .int .i64 a1, .slice A2 l2.length c2] rfl tm_ ?_; (with_reducible refine (spec_l14Hops.calls kj3 _ _ l0 a1 _ _ l2 t394 _ ?side1 ?side2 ?side3 ?side4 A10.out).mono ?_); (case side1 => exact ca (Kd.C_below HR0.out HB.out)); (case side2 => exact HC0.out); (case side3 => exact ca (Kd.C_below HR2.out HB.out)); (case side4 => exact HC2.out); rintro e w13 ⟨v395, rfl, ho0, hb⟩; refine ⟨_, rfl, ?_⟩; have HO396 := Aside0.mk (Kd.R_lower (Kd.R_new' ho0 (rl_ HO393)) (below_size (hB HB))); replace HO393 := re_ HO393 ho0 hb; replace HB := bst_ HB hb; clear hb ho0; obtain ⟨Ao14, co14, eo14⟩ := Kd.R_slice HO396.out; subst eo14))
   go_ret2
   exact ⟨by first | rfl | (simp [errW_none, errW_some] <;> rfl) | (simp [*, errW_none, errW_some] <;> rfl), by repeat (first | (with_reducible first | exact HB.out | apply below_alloc | apply pw_below_drewN | apply below_drew1) | exact HB.out)⟩

def impl_goodWants.f (k : Nat) (l0 : List Int) : Option (Bool) := (impl_rising.f k l0).bind fun t397 => (if t397 = true then ((impl_allIn.f k l0 0 11).bind fun t398 => (some t398)) else (some false))
theorem impl_goodWants.mono : ∀ a0 k, LeO (impl_goodWants.f k a0) (impl_goodWants.f (k + 1) a0) := by
 intro a0 k
 unfold impl_goodWants.f
 repeat' first
   | (with_reducible exact impl_allIn.mono _ _ _ _)
   | (with_reducible exact impl_rising.mono _ _)
   | (with_reducible exact LeO.refl _)
   | (with_reducible exact LeO.none _)
   | (with_reducible refine LeO.ite ?_ ?_)
   | (with_reducible refine LeO.bind ?_ (fun _ => ?_))
set_option maxHeartbeats 8000000 in
set_option maxRecDepth 100000 in
theorem impl_goodWants.calls (k : Nat) (A0 : Option Addr) (c0 : Nat) (l0 : List Int) (r : Bool) (w : World) (hr0 : Kd.C (Kd.int .i64) w A0 l0.length l0) (hc0 : l0.length ≤ c0) (h : impl_goodWants.f k l0 = some r) :
  Calls Try.prog 187 #[.slice A0 l0.length c0] w fun e w' => e = .returned (.bool r) ∧ Drawn0 w w' := by
 have HR0 := Aside0.mk hr0
 have HC0 := Aside0.mk hc0
 clear hr0 hc0
 have H : ((impl_rising.f k l0).bind fun t397 => (if t397 = true then ((impl_allIn.f k l0 0 11).bind fun t398 => (some t398)) else (some false))) = some r := h
 clear h
 replace H := Option.bind_eq_some_iff.mp H
 obtain ⟨t397, A20, H⟩ := H
 replace H : (if t397 = true then ((impl_allIn.f k l0 0 11).bind fun t398 => (some t398)) else (some false)) = some r := H
 have A2 := Aside0.mk A20
 clear A20
 by_cases c3 : t397 = true
 rotate_left
 ·replace c3 := Bool.eq_false_iff.mpr c3
  subst c3
  rw [if_neg (show ¬ (false = true) by decide)] at H
  obtain rfl := Option.some.inj H
  go_enter Try.func187, Try.ntmps187
  go_wp2_with (first | ((with_reducible refine gate_callee (f := 170) rfl ?_); refine goesL_ (some 4) rfl rfl Try.func170 (by kernel_rfl) rfl #[.slice A0 l0.length c0] rfl tm_ ?_; (with_reducible refine (impl_rising.calls k _ _ l0 false _ ?side1 ?side2 A2.out).mono ?_); (case side1 => exact ca HR0.out); (case side2 => exact HC0.out); rintro e w' ⟨rfl, ⟨nd, rfl⟩⟩; refine ⟨_, rfl, ?_⟩))
  go_ret
  exact ⟨by first | rfl | (simp; done) | (simp [*]; done), by repeat (first | exact Drawn0.refl _ | apply Drawn0.step)⟩
 subst c3
 rw [if_pos rfl] at H
 replace H := Option.bind_eq_some_iff.mp H
 obtain ⟨t398, A40, H⟩ := H
 replace H : (some t398) = some r := H
 have A4 := Aside0.mk A40
 clear A40
 obtain rfl := Option.some.inj H
 go_enter Try.func187, Try.ntmps187
 go_wp2_with (first | ((with_reducible refine gate_callee (f := 170) rfl ?_); refine goesL_ (some 4) rfl rfl Try.func170 (by kernel_rfl) rfl #[.slice A0 l0.length c0] rfl tm_ ?_; (with_reducible refine (impl_rising.calls k _ _ l0 true _ ?side1 ?side2 A2.out).mono ?_); (case side1 => exact ca HR0.out); (case side2 => exact HC0.out); rintro e w' ⟨rfl, ⟨nd, rfl⟩⟩; refine ⟨_, rfl, ?_⟩) | (go_at_call 152; (with_reducible refine (impl_allIn.calls k _ _ l0 0 11 t398 _ ?side1 ?side2 A4.out).mono ?_); (case side1 => exact ca HR0.out); (case side2 => exact HC0.out); rintro e w' ⟨rfl, ⟨nd, rfl⟩⟩))
 go_ret
 exact ⟨by first | rfl | (simp; done) | (simp [*]; done), by repeat (first | exact Drawn0.refl _ | apply Drawn0.step)⟩

-- NOT PRINTED: function 223 (slices_IndexFunc_int_int)

def contf_ren : Go.Shelf.Ren := ⟨fun | 6 => 223 | 8 => 207 | n => n, fun | 0 => 0 | 3 => 3 | 4 => 4 | 22 => 24 | 23 => 3 | 25 => 167 | n => n, fun n => n⟩
theorem contf_lays : Go.Proofs.SlLaysH.n8 Try.prog contf_ren := {
  mixed := by kernel_rfl
  f6 := ⟨"slices.IndexFunc[[]int,int]", by decide, Try.func223.trans (congrArg some (by kernel_rfl))⟩
  f8 := ⟨"slices.ContainsFunc[[]int,int]", by decide, Try.func207.trans (congrArg some (by kernel_rfl))⟩
  t0 := Try.underlying0
  a0 := Try.isAgg0
  z0 := Try.sizeOf0
  v0 := Try.zeroValue0
  t3 := Try.underlying3
  a3 := Try.isAgg3
  z3 := Try.sizeOf3
  v3 := Try.zeroValue3
  t4 := Try.underlying4
  a4 := Try.isAgg4
  z4 := Try.sizeOf4
  v4 := Try.zeroValue4
  t22 := Try.underlying24
  a22 := Try.isAgg24
  z22 := Try.sizeOf24
  v22 := Try.zeroValue24
  a23 := Try.isAgg3
  z23 := Try.sizeOf3
  t25 := Try.underlying167
  a25 := Try.isAgg167
  z25 := Try.sizeOf167
  v25 := Try.zeroValue167 }
def slices_ContainsFunc_int_int.f (l0 : List Int) (l1 : List Int) : Option (Bool) := if l0.length ≤ 9223372036854775806 ∧ l1.length ≤ 9223372036854775806 then some (l0.any fun x => l1.any fun y => decide (x = y)) else none
theorem contf_index (x : Int) : ∀ (t p : List Int), (p ++ t).length ≤ 9223372036854775806 → ∃ v, slices_Index_int_int.l0 (t.length + 1) (p ++ t) x ((p ++ t).length : Int) (p.length : Int) = some v ∧ (v ≥ 0 ↔ x ∈ t)
 | [], p, _ => ⟨-1, by simp [slices_Index_int_int.l0], by simp⟩
 | y :: t, p, hb => by
  have hl : p.length + (t.length + 1) ≤ 9223372036854775806 := by simpa using hb
  have e1 : (p.length : Int) < ((p ++ y :: t).length : Int) := by simp; omega
  have e2 : rd (p ++ y :: t) (p.length : Int) = y := by simp [rd]
  rw [List.length_cons, slices_Index_int_int.l0, if_pos e1, if_pos (by omega), if_pos e1, e2]
  by_cases h : x = y
  · exact ⟨(p.length : Int), by rw [if_pos h], ⟨fun _ => by simp [h], fun _ => by omega⟩⟩
  · obtain ⟨v, h1, h2⟩ := contf_index x t (p ++ [y]) (by simpa using hl)
    refine ⟨v, ?_, by rw [h2]; simp [h]⟩
    rw [if_neg h]
    have e3 : wrap64 ((p.length : Int) + 1) = ((p ++ [y]).length : Int) := by unfold wrap64; simp; omega
    rw [e3, show p ++ y :: t = (p ++ [y]) ++ t by simp]
    exact h1
theorem contf_has (l : List Int) (x : Int) (h : l.length ≤ 9223372036854775806) : ∃ k, slices_Contains_int_int.f k l x = some (l.any fun y => decide (x = y)) := by
 obtain ⟨v, h1, h2⟩ := contf_index x l [] h
 refine ⟨l.length + 1, ?_⟩
 unfold slices_Contains_int_int.f slices_Index_int_int.f
 have h3 : slices_Index_int_int.l0 (l.length + 1) l x (l.length : Int) 0 = some v := h1
 rw [h3, Option.bind_some]
 congr 1
 rw [Bool.eq_iff_iff]
 simp [h2]
set_option maxHeartbeats 8000000 in
set_option maxRecDepth 100000 in
theorem slices_ContainsFunc_int_int.pred (gB : Nat) (A1 : Option Addr) (c1 : Nat) (l1 : List Int) (w : World) (hr1 : Kd.C (Kd.int .i64) w A1 l1.length l1) (hc1 : l1.length ≤ c1) (hb1 : w.heap[gB]? = some (.cells #[.slice A1 l1.length c1] 24 (0, 0))) (hl : l1.length ≤ 9223372036854775806) :
  Go.Proofs.PredAt Try.prog 208 #[.pointer (some ⟨gB, 0, none⟩)] (Value.int .i64) (fun x => l1.any fun y => decide (x = y)) w := by
 intro W x hb
 show Calls Try.prog 208 #[.int .i64 x, .pointer (some ⟨gB, 0, none⟩)] W _
 have BK := Aside0.mk (blk_below hb1 hb)
 have hcz : W.cell? ⟨gB, 0, none⟩ = some (.slice A1 l1.length c1) := bc_ BK 0
 have HR1 := Aside0.mk (Kd.C_below hr1 hb)
 have HC1 := Aside0.mk hc1
 clear hr1 hc1 hb1 hb BK
 obtain ⟨k, hk⟩ := contf_has l1 x hl
 have A3 := Aside0.mk hk
 clear hk
 generalize hrr : (l1.any fun y => decide (x = y)) = r at A3
 have HRR := Aside0.mk hrr
 clear hrr
 go_enter Try.func208, Try.ntmps208
 go_wp2_with (first | ((with_reducible refine gate_callee (f := 137) rfl ?_); refine goesL_ (some 6) rfl rfl Try.func137 (by kernel_rfl) rfl #[.slice A1 l1.length c1, .int .i64 x] rfl tm_ ?_; (with_reducible refine (slices_Contains_int_int.calls k _ _ l1 x r _ ?side1 ?side2 A3.out).mono ?_); (case side1 => exact ca HR1.out); (case side2 => exact HC1.out); rintro e w' ⟨rfl, ⟨nd, rfl⟩⟩; refine ⟨_, rfl, ?_⟩))
 all_goals
  go_ret
  exact And.imp_right Drawn0.out ⟨by first | (rw [← HRR.out]; rfl) | (simp [HRR.out]; done), by repeat (first | exact Drawn0.refl _ | apply Drawn0.step)⟩
set_option maxHeartbeats 8000000 in
theorem slices_ContainsFunc_int_int.calls (A0 : Option Addr) (c0 : Nat) (l0 : List Int) (gB : Nat) (A1 : Option Addr) (c1 : Nat) (l1 : List Int) (r : Bool) (base : Nat) (ok : Nat → Prop) (w : World) (hr0 : Kd.R (Kd.int .i64) 3 w base ok (.slice A0 l0.length c0) l0) (hr1 : Kd.C (Kd.int .i64) w A1 l1.length l1) (hc1 : l1.length ≤ c1) (hb1 : w.heap[gB]? = some (.cells #[.slice A1 l1.length c1] 24 (0, 0))) (h : slices_ContainsFunc_int_int.f l0 l1 = some r) :
  Calls Try.prog 207 #[.slice A0 l0.length c0, .func (.func 208) #[] #[.pointer (some ⟨gB, 0, none⟩)]] w fun e w' => e = .returned (.bool r) ∧ Drawn0 w w' := by
 have hf : (l0.length ≤ 9223372036854775806 ∧ l1.length ≤ 9223372036854775806) ∧ r = l0.any fun x => l1.any fun y => decide (x = y) := by
  unfold slices_ContainsFunc_int_int.f at h
  split at h
  · exact ⟨by assumption, (Option.some.inj h).symm⟩
  · cases h
 obtain ⟨⟨h0, h1⟩, rfl⟩ := hf
 have hcell := (Kd.R_reads' hr0).2.2
 obtain ⟨hok, inner, ⟨hil, hcase⟩, hr⟩ := hr0
 rcases hcase with ⟨he, hn⟩ | ⟨g, cap, cur, he, hbg, hg, hnc, hcm, hcs, htk⟩
 · have e0 : l0 = [] := List.length_eq_zero_iff.1 hn
   subst e0
   refine (AnyE.slices_ContainsFunc_empty contf_lays A0 c0 _ w).mono ?_
   rintro e w' ⟨rfl, rfl⟩
   exact ⟨rfl, Drawn0.refl _⟩
 · injection he with hA _ hC
   subst hA; subst hC
   have eg : ∀ args w, (callFunc 208 args).run Try.prog w = .ok (.enter 208 args) w := enters_of Try.func208 (by kernel_rfl) rfl
   refine (AnyE.slices_ContainsFunc contf_lays (Value.int .i64) _ 208 _ eg g 0 l0.length c0 l0 w (slices_ContainsFunc_int_int.pred gB A1 c1 l1 w hr1 hc1 hb1 h1) (Nat.le_refl _) (by omega) (fun j hj => ?_)).mono ?_
   · obtain ⟨ad, ha, hv⟩ := Kd.at_int hcell (j : Int) (by omega) (by omega)
     injection ha with ha
     subst ha
     have e1 : l0[j]! = rd l0 (j : Int) := by simp [rd, hj]
     rw [e1]
     by_cases hj0 : j = 0
     · subst hj0; simpa [Addr.add] using hv
     · simpa [Addr.add, hj0] using hv
   · rintro e w' ⟨rfl, q, rfl⟩
     exact ⟨by rw [List.take_length], ⟨⟨q, rfl⟩⟩⟩

end Go.Proofs.Ytolncjkfcmbieaa.P
