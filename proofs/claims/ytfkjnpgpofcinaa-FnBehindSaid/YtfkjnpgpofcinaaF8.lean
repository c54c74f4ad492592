import Derived.Test.YtfkjnpgpofcinaaF0
import Derived.Test.YtfkjnpgpofcinaaF2
import Derived.Test.YtfkjnpgpofcinaaF7
namespace Go.Proofs.Ytfkjnpgpofcinaa.P
open Go.RowKit Go.Proofs.YtfkjnpgpofcinaaW.PrintWords Go.Proofs.YtfkjnpgpofcinaaW.PrintLast Go.Proofs.YtfkjnpgpofcinaaW.PrintMore
attribute [local go_sem] max2_int min2_int max_two min_two max_three min_three max_four min_four   -- for this text's walks alone
set_option linter.unusedVariables false
set_option linter.unusedSimpArgs false
attribute [local go_sem high] eqA45 eqA76 eqA83

def spec_l9Relax.l0 : Nat → List Int → List Int → List (S148) → Int → Int → Option (List Int)
 | 0, _, _, _, _, _ => none
 | k + 1, x1, x5, x11, x12, x13 => if x13 < x12 then (if 0 ≤ x13 then (if x13 < (x11.length : Int) then (if 0 ≤ ((rd_T148 x11 x13).f0) then (if ((rd_T148 x11 x13).f0) < (x5.length : Int) then (if 0 ≤ ((rd_T148 x11 x13).f1) then (if ((rd_T148 x11 x13).f1) < (x1.length : Int) then ((spec_l1Least.f (rd x5 ((rd_T148 x11 x13).f0)) (wrap64 ((rd x1 ((rd_T148 x11 x13).f1)) + ((rd_T148 x11 x13).f2)))).bind fun t1299 => ((some (x5.set (((rd_T148 x11 x13).f0) : Int).toNat t1299 : List Int)).bind fun y1300 => (if ((rd_T148 x11 x13).f1) < (x5.length : Int) then (if ((rd_T148 x11 x13).f0) < (x1.length : Int) then ((spec_l1Least.f (rd y1300 ((rd_T148 x11 x13).f1)) (wrap64 ((rd x1 ((rd_T148 x11 x13).f0)) + ((rd_T148 x11 x13).f2)))).bind fun t1303 => (spec_l9Relax.l0 k x1 (y1300.set (((rd_T148 x11 x13).f1) : Int).toNat t1303) x11 x12 (wrap64 (x13 + 1)))) else (none)) else (none)))) else (none)) else (none)) else (none)) else (none)) else (none)) else (none)) else (some x5)
def spec_l9Relax.f (k : Nat) (l0 : List (S148)) (l1 : List Int) : Option (List Int) := (some (([] : List Int) : List Int)).bind fun y1289 => (if y1289.length + l1.length < 17592186044416 then (spec_l9Relax.l0 k l1 (y1289 ++ l1) l0 (l0.length : Int) 0) else (none))
theorem spec_l9Relax.mono_l : ∀ k, (∀ y0 y1 y2 y3 y4, LeO (spec_l9Relax.l0 k y0 y1 y2 y3 y4) (spec_l9Relax.l0 (k + 1) y0 y1 y2 y3 y4))
 | 0 => fun _ _ _ _ _ r h => by simp [spec_l9Relax.l0] at h
 | k + 1 => by
  have ih0 := spec_l9Relax.mono_l k
  ·intro y0 y1 y2 y3 y4
   unfold spec_l9Relax.l0
   repeat' first
   | (with_reducible exact ih0 _ _ _ _ _)
   | (with_reducible exact LeO.refl _)
   | (with_reducible exact LeO.none _)
   | (with_reducible refine LeO.ite ?_ ?_)
   | (with_reducible refine LeO.bind ?_ (fun _ => ?_))
theorem spec_l9Relax.mono : ∀ a0 a1 k, LeO (spec_l9Relax.f k a0 a1) (spec_l9Relax.f (k + 1) a0 a1) := by
 intro a0 a1 k
 have ih0 := spec_l9Relax.mono_l k
 unfold spec_l9Relax.f
 repeat' first
   | (with_reducible exact ih0 _ _ _ _ _)
   | (with_reducible exact LeO.refl _)
   | (with_reducible exact LeO.none _)
   | (with_reducible refine LeO.ite ?_ ?_)
   | (with_reducible refine LeO.bind ?_ (fun _ => ?_))
def spec_l9Relax.T5 : Bool × List (List Nat × List Nat) := (true, [([], []), ([], []), ([1], [1]), ([], []), ([], []), ([4], [4]), ([3, 5], [3, 5]), ([6], [6]), ([], []), ([], []), ([9], [9]), ([8, 10], [8, 10]), ([11], [11]), ([], []), ([13], [13]), ([12, 14], [12, 14]), ([7, 15], [7, 15]), ([0, 2, 0, 1, 2, 3, 4, 5, 6, 7, 8, 9, 10, 11, 12, 13, 14, 15, 16], [0, 2]), ([17, 16, 16, 0, 1, 2, 3, 4, 5, 6, 7, 8, 9, 10, 11, 12, 13, 14, 15, 16], [16, 17])])
def spec_l9Relax.B5 : List Nat := [0, 0, 2, 0, 0, 16, 56, 120, 0, 0, 512, 1792, 3840, 0, 8192, 32512, 65528, 131071, 262143]
theorem spec_l9Relax.tab5 : rtab .any (opsOf Try.f170 5) = spec_l9Relax.T5 := by kernel_rfl
theorem spec_l9Relax.bits5 : waitsOk spec_l9Relax.T5.2 spec_l9Relax.B5 = true := by kernel_rfl
def spec_l9Relax.T6 : Bool × List (List Nat × List Nat) := (true, [([], []), ([], []), ([1], [1]), ([], []), ([], []), ([4], [4]), ([3, 5], [3, 5]), ([6], [6]), ([], []), ([], []), ([9], [9]), ([8, 10], [8, 10]), ([11], [11]), ([], []), ([13], [13]), ([12, 14], [12, 14]), ([7, 15], [7, 15]), ([0, 2, 0, 1, 2, 3, 4, 5, 6, 7, 8, 9, 10, 11, 12, 13, 14, 15, 16], [0, 2]), ([17, 16, 16, 0, 1, 2, 3, 4, 5, 6, 7, 8, 9, 10, 11, 12, 13, 14, 15, 16], [16, 17])])
def spec_l9Relax.B6 : List Nat := [0, 0, 2, 0, 0, 16, 56, 120, 0, 0, 512, 1792, 3840, 0, 8192, 32512, 65528, 131071, 262143]
theorem spec_l9Relax.tab6 : rtab .any (opsOf Try.f170 6) = spec_l9Relax.T6 := by kernel_rfl
theorem spec_l9Relax.bits6 : waitsOk spec_l9Relax.T6.2 spec_l9Relax.B6 = true := by kernel_rfl
set_option maxHeartbeats 8000000 in
set_option maxRecDepth 100000 in
theorem spec_l9Relax.calls (k : Nat) (A0 : Option Addr) (c0 : Nat) (l0 : List (S148)) (A1 : Option Addr) (c1 : Nat) (l1 : List Int) (r : List Int) (w : World) (hr0 : Kd.C k148 w A0 l0.length l0) (hc0 : l0.length ≤ c0) (hr1 : Kd.C (Kd.int .i64) w A1 l1.length l1) (hc1 : l1.length ≤ c1) (h : spec_l9Relax.f k l0 l1 = some r) :
  Calls Try.prog 170 #[.slice A0 l0.length c0, .slice A1 l1.length c1] w fun e w' => ∃ v0_ : Value, e = .returned (v0_) ∧ Kd.R (Kd.int .i64) 3 w' w.heap.size (fun _ => True) v0_ r ∧ Below w.heap.size w w' := by
 have hu148 := Try.underlying148
 have HR0 := Aside0.mk hr0
 have HC0 := Aside0.mk hc0
 clear hr0 hc0
 have HR1 := Aside0.mk hr1
 have HC1 := Aside0.mk hc1
 clear hr1 hc1
 have HB := Aside0.mk (Below.refl w.heap.size w)
 have H : ((some (([] : List Int) : List Int)).bind fun y1289 => (if y1289.length + l1.length < 17592186044416 then (spec_l9Relax.l0 k l1 (y1289 ++ l1) l0 (l0.length : Int) 0) else (none))) = some r := h
 clear h
 obtain ⟨y1289, hy1289⟩ : ∃ y_ : List Int, y_ = (([] : List Int)) := ⟨_, rfl⟩
 replace H : (if y1289.length + l1.length < 17592186044416 then (spec_l9Relax.l0 k l1 (y1289 ++ l1) l0 (l0.length : Int) 0) else (none)) = some r := by first | (rw [hy1289]; with_reducible exact H) | (have H2_ := (Option.bind_some _ _).symm.trans H; rw [hy1289]; with_reducible exact H2_) | (have H2_ := (Option.bind_some _ _).symm.trans H; with_reducible exact H2_) | with_reducible exact H | (rw [hy1289]; exact H) | exact H
 have Ny1289 := Aside0.mk hy1289
 clear hy1289
 by_cases c3 : y1289.length + l1.length < 17592186044416
 rotate_left
 ·rw [if_neg c3] at H
  exact absurd H (by simp)
 rw [if_pos c3] at H
 have LMc3 := Aside0.mk c3
 clear c3
 obtain ⟨y1292, hy1292⟩ : ∃ y_ : List Int, y_ = (y1289 ++ l1) := ⟨_, rfl⟩
 replace H : (spec_l9Relax.l0 k l1 y1292 l0 (l0.length : Int) 0) = some r := by first | (rw [hy1292]; with_reducible exact H) | (have H2_ := (Option.bind_some _ _).symm.trans H; rw [hy1292]; with_reducible exact H2_) | (have H2_ := (Option.bind_some _ _).symm.trans H; with_reducible exact H2_) | with_reducible exact H | (rw [hy1292]; exact H) | exact H
 have Ny1292 := Aside0.mk hy1292
 clear hy1292
 have H' := Aside0.mk H
 clear H
 go_enter Try.func170, Try.ntmps170
 go_wp2_with (first | ((with_reducible refine gate_dst (N := 8) rfl ?_); refine Kd.R_lit (Kd.int .i64) _ 3 ?hg (N := 8) ?hd (xs := ([] : List Int)) (inner := []) (ok := fun _ => True) (okp := fun _ => True) ?hr ?hp (fun _ hk => hk) trivial (Below.refl _ _) (Nat.le_refl _) (by simp) ?_; (case hd => rfl); (case hg => rfl); (case hr => first | (go_simp; done) | (go_simp; rfl)); (case hp => exact (Reps.none _ _)); intro v1290 w4 ho5 hb hg_ hnew_; clear hg_ hnew_; (first | rw [← Ny1289.out] at ho5 | (simp only [Int.reduceToNat] at ho5; rw [← Ny1289.out] at ho5)); have HO1291 := Aside0.mk (Kd.R_lower ho5 (below_size (hB HB))); replace HB := bst_ HB hb; clear hb ho5) | ((with_reducible refine gate_builtin (b := .append) (xs := #[.tmp 8, .tmp 9]) rfl ?_); at_builtin; refine Kd.R_append_rows (Kd.int .i64) (w0 := w) w.heap.size rfl (.tmp 8) (.tmp 9) 22 3 (.int .i64 0) 8 rfl Try.underlying22 info3 rfl (by decide) (by omega) v1290 y1289 l1 _ _ _ (fun _ => True) (fun _ => False) rfl rfl ?aO ?aR (fun _ _ h => h) (fun _ h => h.elim) ?aF ?aB ?aS ?aL ?_; (case aR => exact ca (Kd.C_below HR1.out HB.out)); (case aB => exact (hB HB)); (case aF => exact (fun _ _ => trivial)); (case aO => exact (ra HO1291.out)); (case aS => exact (below_size (hB HB))); (case aL => have := LMc3.out; omega); intro v1293 w6 ho hb hg hat; rw [← Ny1292.out] at ho; have HO1294 := Aside0.mk (ho); replace HB := Aside0.mk (hb); clear HO1291; clear ho hb hg hat))
 go_loopg [13] k (fun kq v13 w' => ∃ (x5_1 : List Int) (x13_1 : Int), v13 = .int .i64 x13_1 ∧ Aside0 (spec_l9Relax.l0 kq l1 x5_1 l0 (l0.length : Int) x13_1 = some r) ∧ Aside0 (kq ≤ k) ∧ Aside0 (Kd.R (Kd.int .i64) 3 w' w.heap.size (fun _ => True) v1293 x5_1) ∧ Aside0 (Below w.heap.size w w'))
 case atStart => exact ⟨(y1292), (0), (by first | rfl | (simp; done) | (simp [*]; done)), H', ⟨Nat.le_refl _⟩, ⟨ra HO1294.out⟩, ⟨hB HB⟩⟩
 case round =>
  clear H'
  try clear c1
  try clear c3
  obtain ⟨x5_1, x13_1, rfl, HA, HK1, HO_5, HB⟩ := hrel
  cases gk with
  | zero => exact absurd HA.out (by simp [spec_l9Relax.l0])
  | succ k1 =>
   have H := HA.out
   clear HA
   simp only [spec_l9Relax.l0] at H
   by_cases c7 : x13_1 < (l0.length : Int)
   rotate_left
   ·rw [if_neg c7] at H
    have c7b0 : decide (x13_1 < (l0.length : Int)) = false := decide_eq_false c7
    clear c7
    obtain rfl := Option.some.inj H
    go_wp2
    go_ret
    exact ⟨_, by first | rfl | (simp [errW_none, errW_some] <;> rfl) | (simp [*, errW_none, errW_some] <;> rfl), by (with_reducible repeat (first | apply Kd.R_alloc | apply Kd.R_drewN | apply Kd.R_drew)); exact HO_5.out, by repeat (first | (with_reducible first | exact HB.out | apply below_alloc | apply pw_below_drewN | apply below_drew1) | exact HB.out)⟩
   rw [if_pos c7] at H
   have c7b0 : decide (x13_1 < (l0.length : Int)) = true := decide_eq_true c7
   clear c7
   by_cases c8 : 0 ≤ x13_1
   rotate_left
   ·rw [if_neg c8] at H
    exact absurd H (by simp)
   rw [if_pos c8] at H
   have c8b0 : decide (0 ≤ x13_1) = true := decide_eq_true c8
   clear c8
   by_cases c9 : x13_1 < (l0.length : Int)
   rotate_left
   ·rw [if_neg c9] at H
    exact absurd H (by simp)
   rw [if_pos c9] at H
   have c9b0 : decide (x13_1 < (l0.length : Int)) = true := decide_eq_true c9
   clear c9
   by_cases c10 : 0 ≤ ((rd_T148 l0 x13_1).f0)
   rotate_left
   ·rw [if_neg c10] at H
    exact absurd H (by simp)
   rw [if_pos c10] at H
   have c10b0 : decide (0 ≤ ((rd_T148 l0 x13_1).f0)) = true := decide_eq_true c10
   clear c10
   by_cases c11 : ((rd_T148 l0 x13_1).f0) < (x5_1.length : Int)
   rotate_left
   ·rw [if_neg c11] at H
    exact absurd H (by simp)
   rw [if_pos c11] at H
   have c11b0 : decide (((rd_T148 l0 x13_1).f0) < (x5_1.length : Int)) = true := decide_eq_true c11
   clear c11
   by_cases c12 : 0 ≤ ((rd_T148 l0 x13_1).f1)
   rotate_left
   ·rw [if_neg c12] at H
    exact absurd H (by simp)
   rw [if_pos c12] at H
   have c12b0 : decide (0 ≤ ((rd_T148 l0 x13_1).f1)) = true := decide_eq_true c12
   clear c12
   by_cases c13 : ((rd_T148 l0 x13_1).f1) < (l1.length : Int)
   rotate_left
   ·rw [if_neg c13] at H
    exact absurd H (by simp)
   rw [if_pos c13] at H
   have c13b0 : decide (((rd_T148 l0 x13_1).f1) < (l1.length : Int)) = true := decide_eq_true c13
   clear c13
   replace H := Option.bind_eq_some_iff.mp H
   obtain ⟨t1299, A140, H⟩ := H
   replace H : ((some (x5_1.set (((rd_T148 l0 x13_1).f0) : Int).toNat t1299 : List Int)).bind fun y1300 => (if ((rd_T148 l0 x13_1).f1) < (x5_1.length : Int) then (if ((rd_T148 l0 x13_1).f0) < (l1.length : Int) then ((spec_l1Least.f (rd y1300 ((rd_T148 l0 x13_1).f1)) (wrap64 ((rd l1 ((rd_T148 l0 x13_1).f0)) + ((rd_T148 l0 x13_1).f2)))).bind fun t1303 => (spec_l9Relax.l0 k1 l1 (y1300.set (((rd_T148 l0 x13_1).f1) : Int).toNat t1303) l0 (l0.length : Int) (wrap64 (x13_1 + 1)))) else (none)) else (none))) = some r := H
   have A14 := Aside0.mk A140
   clear A140
   obtain ⟨y1300, hy1300⟩ : ∃ y_ : List Int, y_ = (x5_1.set (((rd_T148 l0 x13_1).f0) : Int).toNat t1299) := ⟨_, rfl⟩
   replace H : (if ((rd_T148 l0 x13_1).f1) < (x5_1.length : Int) then (if ((rd_T148 l0 x13_1).f0) < (l1.length : Int) then ((spec_l1Least.f (rd y1300 ((rd_T148 l0 x13_1).f1)) (wrap64 ((rd l1 ((rd_T148 l0 x13_1).f0)) + ((rd_T148 l0 x13_1).f2)))).bind fun t1303 => (spec_l9Relax.l0 k1 l1 (y1300.set (((rd_T148 l0 x13_1).f1) : Int).toNat t1303) l0 (l0.length : Int) (wrap64 (x13_1 + 1)))) else (none)) else (none)) = some r := by first | (rw [hy1300]; with_reducible exact H) | (have H2_ := (Option.bind_some _ _).symm.trans H; rw [hy1300]; with_reducible exact H2_) | (have H2_ := (Option.bind_some _ _).symm.trans H; with_reducible exact H2_) | with_reducible exact H | (rw [hy1300]; exact H) | exact H
   have Ny1300 := Aside0.mk hy1300
   clear hy1300
   by_cases c16 : ((rd_T148 l0 x13_1).f1) < (x5_1.length : Int)
   rotate_left
   ·rw [if_neg c16] at H
    exact absurd H (by simp)
   rw [if_pos c16] at H
   have c16b0 : decide (((rd_T148 l0 x13_1).f1) < (x5_1.length : Int)) = true := decide_eq_true c16
   clear c16
   by_cases c17 : ((rd_T148 l0 x13_1).f0) < (l1.length : Int)
   rotate_left
   ·rw [if_neg c17] at H
    exact absurd H (by simp)
   rw [if_pos c17] at H
   have c17b0 : decide (((rd_T148 l0 x13_1).f0) < (l1.length : Int)) = true := decide_eq_true c17
   clear c17
   replace H := Option.bind_eq_some_iff.mp H
   obtain ⟨t1303, A180, H⟩ := H
   replace H : (spec_l9Relax.l0 k1 l1 (y1300.set (((rd_T148 l0 x13_1).f1) : Int).toNat t1303) l0 (l0.length : Int) (wrap64 (x13_1 + 1))) = some r := H
   have A18 := Aside0.mk A180
   clear A180
   obtain ⟨y1304, hy1304⟩ : ∃ y_ : List Int, y_ = (y1300.set (((rd_T148 l0 x13_1).f1) : Int).toNat t1303) := ⟨_, rfl⟩
   replace H : (spec_l9Relax.l0 k1 l1 y1304 l0 (l0.length : Int) (wrap64 (x13_1 + 1))) = some r := by first | (rw [hy1304]; with_reducible exact H) | (have H2_ := (Option.bind_some _ _).symm.trans H; rw [hy1304]; with_reducible exact H2_) | (have H2_ := (Option.bind_some _ _).symm.trans H; with_reducible exact H2_) | with_reducible exact H | (rw [hy1304]; exact H) | exact H
   have Ny1304 := Aside0.mk hy1304
   clear hy1304
   have H' := Aside0.mk H
   clear H
   have p1295 : 0 ≤ (x13_1 : Int) := of_decide_eq_true (by first | (with_reducible assumption) | assumption)
   have q1295 : x13_1 < (l0.length : Int) := of_decide_eq_true (by first | (with_reducible assumption) | assumption)
   obtain ⟨ad1295, e1295, hx1295_0, hx1295_1, hx1295_2⟩ := at_T148 HR0.out x13_1 p1295 q1295
   cases e1295
   replace hx1295_0 := (HB.out.cell (World.block_lt_of_cell? w _ hx1295_0)).trans hx1295_0
   replace hx1295_1 := (HB.out.cell (World.block_lt_of_cell? w _ hx1295_1)).trans hx1295_1
   replace hx1295_2 := (HB.out.cell (World.block_lt_of_cell? w _ hx1295_2)).trans hx1295_2
   replace p1295 := eq_true p1295
   replace q1295 := eq_true q1295
   try go_wp2_with (first | ((with_reducible refine gate_dst (N := 7) rfl ?_); refine box_event ?hg (N := 7) ?hd (cs := #[.int .i64 0, .int .i64 0, .int .i64 0]) (t := 148) ?hr ?_; (case hd => rfl); (case hg => rfl); (case hr => first | (go_simp; done) | (go_simp; rfl)); intro gb1296 hg w20 hbox hb; have BK1296 := Aside0.mk (hbox); have GW1296 := gw_ hg HB; have GE1296 := gw_ hg HB; replace HO_5 := rb_ HO_5 hb; replace HB := bst_ HB hb; clear hb hbox hg; have hcz21_0 : w20.cell? ⟨gb1296, 0, none⟩ = some (.int .i64 0) := bc_ BK1296 0; have hcz21_1 : w20.cell? ⟨gb1296, 1, none⟩ = some (.int .i64 0) := bc_ BK1296 1; have hcz21_2 : w20.cell? ⟨gb1296, 2, none⟩ = some (.int .i64 0) := bc_ BK1296 2; have hfz21_0 := blk_frozen BK1296.out 0; have hfz21_1 := blk_frozen BK1296.out 1; have hfz21_2 := blk_frozen BK1296.out 2))
   have n0_ : Aside0 (Kd.R (Kd.int .i64) 3 (((w20.setCell ⟨gb1296, 0, none⟩ (.int .i64 ((rd_T148 l0 x13_1).f0))).setCell ⟨gb1296, 1, none⟩ (.int .i64 ((rd_T148 l0 x13_1).f1))).setCell ⟨gb1296, 2, none⟩ (.int .i64 ((rd_T148 l0 x13_1).f2))) w.heap.size (fun _ => True) v1293 x5_1) := ⟨by (with_reducible repeat (first | apply Kd.R_alloc | apply Kd.R_drewN | apply Kd.R_drew)); exact Kd.R_mono (Kd.R_far (p := ⟨gb1296, 2, none⟩) (Kd.R_far (p := ⟨gb1296, 1, none⟩) (Kd.R_far (p := ⟨gb1296, 0, none⟩) (Kd.R_types HO_5.out BK1296.out (by decide)) (fun _ hk => hk.2) (.int .i64 ((rd_T148 l0 x13_1).f0))) (fun _ hk => hk.2) (.int .i64 ((rd_T148 l0 x13_1).f1))) (fun _ hk => hk.2) (.int .i64 ((rd_T148 l0 x13_1).f2))) (fun _ hk => trivial)⟩
   have n1_ : Aside0 ((((w20.setCell ⟨gb1296, 0, none⟩ (.int .i64 ((rd_T148 l0 x13_1).f0))).setCell ⟨gb1296, 1, none⟩ (.int .i64 ((rd_T148 l0 x13_1).f1))).setCell ⟨gb1296, 2, none⟩ (.int .i64 ((rd_T148 l0 x13_1).f2))).heap[gb1296]? = some (.cells #[.int .i64 ((rd_T148 l0 x13_1).f0), .int .i64 ((rd_T148 l0 x13_1).f1), .int .i64 ((rd_T148 l0 x13_1).f2)] 148 (0, 0))) := ⟨by (with_reducible repeat (first | refine blk_drewN ?_ _ | refine blk_drew ?_ | refine blk_alloc ?_ _)); refine blk_put (cs := #[.int .i64 ((rd_T148 l0 x13_1).f0), .int .i64 ((rd_T148 l0 x13_1).f1), .int .i64 0]) ?_ 2 _ rfl; (with_reducible repeat (first | refine blk_drewN ?_ _ | refine blk_drew ?_ | refine blk_alloc ?_ _)); refine blk_put (cs := #[.int .i64 ((rd_T148 l0 x13_1).f0), .int .i64 0, .int .i64 0]) ?_ 1 _ rfl; (with_reducible repeat (first | refine blk_drewN ?_ _ | refine blk_drew ?_ | refine blk_alloc ?_ _)); refine blk_put (cs := #[.int .i64 0, .int .i64 0, .int .i64 0]) ?_ 0 _ rfl; (with_reducible repeat (first | refine blk_drewN ?_ _ | refine blk_drew ?_ | refine blk_alloc ?_ _)); exact BK1296.out⟩
   have n2_ : Aside0 (Below w.heap.size w (((w20.setCell ⟨gb1296, 0, none⟩ (.int .i64 ((rd_T148 l0 x13_1).f0))).setCell ⟨gb1296, 1, none⟩ (.int .i64 ((rd_T148 l0 x13_1).f1))).setCell ⟨gb1296, 2, none⟩ (.int .i64 ((rd_T148 l0 x13_1).f2)))) := ⟨hB HB⟩
   (try clear HO_5)
   (try clear BK1296)
   (try clear HB)
   generalize (((w20.setCell ⟨gb1296, 0, none⟩ (.int .i64 ((rd_T148 l0 x13_1).f0))).setCell ⟨gb1296, 1, none⟩ (.int .i64 ((rd_T148 l0 x13_1).f1))).setCell ⟨gb1296, 2, none⟩ (.int .i64 ((rd_T148 l0 x13_1).f2))) = w22 at n0_ n1_ n2_ ⊢
   have HO_5 := n0_
   have BK1296 := n1_
   have HB := n2_
   clear n0_ n1_ n2_
   replace HO_5 := rd_ HO_5
   replace BK1296 := bd_ BK1296
   replace HB := Aside0.mk (below_drew1 HB.out)
   obtain ⟨Ao24, co24, eo24⟩ := Kd.R_slice HO_5.out
   subst eo24
   have p1297 : 0 ≤ (((rd_T148 l0 x13_1).f0) : Int) := of_decide_eq_true (by first | (with_reducible assumption) | assumption)
   have q1297 : ((rd_T148 l0 x13_1).f0) < (x5_1.length : Int) := of_decide_eq_true (by first | (with_reducible assumption) | assumption)
   obtain ⟨ad1297, e1297, hx1297_0⟩ := Kd.at_int (Kd.R_reads' HO_5.out).2.2 ((rd_T148 l0 x13_1).f0) p1297 q1297
   cases e1297
   replace p1297 := eq_true p1297
   replace q1297 := eq_true q1297
   have p1298 : 0 ≤ (((rd_T148 l0 x13_1).f1) : Int) := of_decide_eq_true (by first | (with_reducible assumption) | assumption)
   have q1298 : ((rd_T148 l0 x13_1).f1) < (l1.length : Int) := of_decide_eq_true (by first | (with_reducible assumption) | assumption)
   obtain ⟨ad1298, e1298, hx1298_0⟩ := Kd.at_int HR1.out ((rd_T148 l0 x13_1).f1) p1298 q1298
   have hw1298_0 := hx1298_0
   cases e1298
   replace hx1298_0 := (HB.out.cell (World.block_lt_of_cell? w _ hx1298_0)).trans hx1298_0
   replace p1298 := eq_true p1298
   replace q1298 := eq_true q1298
   refine start_ (n := 19) (S := fun w' => w'.cell? ⟨gb1296, 0, none⟩ = some (.int .i64 ((rd_T148 l0 x13_1).f0)) ∧ w'.cell? ⟨gb1296, 1, none⟩ = some (.int .i64 ((rd_T148 l0 x13_1).f1)) ∧ w'.cell? ⟨gb1296, 2, none⟩ = some (.int .i64 ((rd_T148 l0 x13_1).f2)) ∧ w'.cell? (ad1297.add (((rd_T148 l0 x13_1).f0)).toNat) = some (.int .i64 (rd x5_1 ((rd_T148 l0 x13_1).f0))) ∧ w'.cell? (ad1298.add (((rd_T148 l0 x13_1).f1)).toNat) = some (.int .i64 (rd l1 ((rd_T148 l0 x13_1).f1)))) (ds := [18]) (bs 19 0) (by kernel_rfl) rfl rfl ⟨bc_ BK1296 0, bc_ BK1296 1, bc_ BK1296 2, hx1297_0, ((HB.out.cell (World.block_lt_of_cell? w _ hw1298_0)).trans hw1298_0)⟩ (fun hHeld => ?_); refine with_tabW spec_l9Relax.tab5 spec_l9Relax.bits5 (fun HT_ HW_ => ?_)
   generalize w22.drew = w23 at HO_5 BK1296 HB hx1297_0 hx1298_0 hHeld ⊢
   refine pu_ 0 17 (bs 19 1) HT_ ?_
   refine pu_ 1 18 (bs 19 3) HT_ ?_
   refine pu_ 3 20 (bs 19 11) HT_ ?_
   refine pu_ 4 21 (bs 19 27) HT_ ?_
   refine pu_ 8 25 (bs 19 283) HT_ ?_
   refine pu_ 9 26 (bs 19 795) HT_ ?_
   refine pu_ 13 30 (bs 19 8987) HT_ ?_
   refine tk_ 2 19 (bs 19 8991) HT_ HW_ hHeld ?_
   refine tk_ 5 22 (bs 19 9023) HT_ HW_ hHeld ?_
   refine pu_ 6 23 (bs 19 9087) HT_ ?_
   refine tk_ 7 24 (bs 19 9215) HT_ HW_ hHeld ?_
   refine tk_ 10 27 (bs 19 10239) HT_ HW_ hHeld ?_
   refine pu_ 11 28 (bs 19 12287) HT_ ?_
   refine tk_ 12 29 (bs 19 16383) HT_ HW_ hHeld ?_
   refine tk_ 14 31 (bs 19 32767) HT_ HW_ hHeld ?_
   refine pu_ 15 32 (bs 19 65535) HT_ ?_
   refine one_ (i := 16) (N := some 33) (bs 19 131071) rfl rfl (one_of HT_.out (by kernel_rfl)) (by decide) (fun K hK => ?_)
   refine goes_ Try.func177 (by kernel_rfl) rfl #[.int .i64 (rd x5_1 ((rd_T148 l0 x13_1).f0)), .int .i64 (wrap64 ((rd l1 ((rd_T148 l0 x13_1).f1)) + ((rd_T148 l0 x13_1).f2)))] (by rfl) rfl rfl tm_ ?_
   with_reducible refine (spec_l1Least.calls (rd x5_1 ((rd_T148 l0 x13_1).f0)) (wrap64 ((rd l1 ((rd_T148 l0 x13_1).f1)) + ((rd_T148 l0 x13_1).f2))) t1299 _ A14.out).mono ?_
   rintro e w' ⟨rfl, ⟨nd, rfl⟩⟩
   refine ⟨_, rfl, ?_⟩
   generalize hq_ : World.drewN w23 nd = w23
   replace HO_5 := Aside0.mk (Kd.R_at hq_ HO_5.out)
   replace BK1296 := Aside0.mk (blk_at hq_ BK1296.out)
   replace HB := Aside0.mk (below_at hq_ HB.out)
   try replace hx1297_0 := cell_at hq_ hx1297_0
   try replace hx1298_0 := cell_at hq_ hx1298_0
   have HQ_ := Aside0.mk hq_
   clear hq_
   have p15 : 0 ≤ (((rd_T148 l0 x13_1).f0) : Int) := of_decide_eq_true (by first | (with_reducible assumption) | assumption)
   have q15 : (((rd_T148 l0 x13_1).f0) : Int) < ((x5_1.length : Int) : Int) := of_decide_eq_true (by first | (with_reducible assumption) | assumption)
   obtain ⟨go15, co15, eo15, gb15, gl15, cl15, HG15⟩ := Kd.R_form HO_5.out (by omega)
   (first | cases eo15 | (injection eo15 with ea_ en_ ec_; (first | subst ea_ | (injection ea_ with ea_; subst ea_)); subst ec_; clear en_))
   have GB15 := Aside0.mk gb15
   have GG15 := Aside0.mk HG15
   clear gb15 gl15 HG15
   (first | simp only [add_plain] at hx1297_0 | skip)
   obtain ⟨hx15_0, hf15_0⟩ := Kd.R_celln 0 HO_5.out (((rd_T148 l0 x13_1).f0) : Int) p15 q15
   replace p15 := eq_true p15
   replace q15 := eq_true q15
   have HP25 := Kd.R_putn HO_5.out (((rd_T148 l0 x13_1).f0) : Int) t1299
   rw [← Ny1300.out] at HP25
   have HQ25 := Aside0.mk HP25
   clear HP25
   refine hK.out _ _ ⟨bc_ BK1296 0, bc_ BK1296 1, bc_ BK1296 2, (cell_at HQ_.out hHeld.2.2.2.1), ((HB.out.cell (World.block_lt_of_cell? w _ hw1298_0)).trans hw1298_0)⟩ (fun hHeld => ?_)
   clear hK K
   refine nm_ 33 ?_
   refine pu_ 17 34 (bs 19 262143) HT_ ?_
   refine last_ (i := 18) (N := none) (bs 19 524287) rfl rfl (one_of HT_.out (by kernel_rfl)) (by decide) (fun K hK => ?_)
   refine skip_ (w1 := ?_) (by rfl) rfl ?_ ?_
   rotate_left
   ·go_simp
    rfl
   refine hK.out _ _ ?_
   clear hK K
   refine done_ (done_of HT_.out (by kernel_rfl)) ?_
   try go_wp2
   have n0_ : Aside0 (Kd.R (Kd.int .i64) 3 (w23.setCell ⟨go15, (((rd_T148 l0 x13_1).f0) : Int).toNat, none⟩ (.int .i64 t1299)) w.heap.size (fun _ => True) (.slice (some ⟨go15, 0, none⟩) x5_1.length co24) y1300) := ⟨ra HQ25.out⟩
   have n1_ : Aside0 ((w23.setCell ⟨go15, (((rd_T148 l0 x13_1).f0) : Int).toNat, none⟩ (.int .i64 t1299)).heap[gb1296]? = some (.cells #[.int .i64 ((rd_T148 l0 x13_1).f0), .int .i64 ((rd_T148 l0 x13_1).f1), .int .i64 ((rd_T148 l0 x13_1).f2)] 148 (0, 0))) := ⟨by (with_reducible repeat (first | refine blk_drewN ?_ _ | refine blk_drew ?_ | refine blk_alloc ?_ _)); refine blk_far ?_ (by have h_ := Kd.R_ne HO_5.out BK1296.out (by decide); intro e_; exact h_ (by rw [e_]; rfl)) _; (with_reducible repeat (first | refine blk_drewN ?_ _ | refine blk_drew ?_ | refine blk_alloc ?_ _)); exact BK1296.out⟩
   have n2_ : Aside0 (Below w.heap.size w (w23.setCell ⟨go15, (((rd_T148 l0 x13_1).f0) : Int).toNat, none⟩ (.int .i64 t1299))) := ⟨hB HB⟩
   (try clear HO_5)
   (try clear BK1296)
   (try clear HB)
   generalize (w23.setCell ⟨go15, (((rd_T148 l0 x13_1).f0) : Int).toNat, none⟩ (.int .i64 t1299)) = w26 at n0_ n1_ n2_ ⊢
   have HO_5 := n0_
   have BK1296 := n1_
   have HB := n2_
   clear n0_ n1_ n2_
   (try (rw [drewN_self w26]; generalize hq_ : World.drewN w26 _ = w26; have n0_ : Aside0 (Kd.R (Kd.int .i64) 3 w26 w.heap.size (fun _ => True) (.slice (some ⟨go15, 0, none⟩) x5_1.length co24) y1300) := ⟨by rw [← hq_]; exact (ra HO_5.out)⟩; have n1_ : Aside0 (w26.heap[gb1296]? = some (.cells #[.int .i64 ((rd_T148 l0 x13_1).f0), .int .i64 ((rd_T148 l0 x13_1).f1), .int .i64 ((rd_T148 l0 x13_1).f2)] 148 (0, 0))) := ⟨by rw [← hq_]; exact (ba BK1296.out)⟩; have n2_ : Aside0 (Below w.heap.size w w26) := ⟨by rw [← hq_]; exact (hB HB)⟩; clear HO_5 BK1296 HB hq_; have HO_5 := n0_; have BK1296 := n1_; have HB := n2_; clear n0_ n1_ n2_))
   replace HO_5 := rd_ HO_5
   replace BK1296 := bd_ BK1296
   replace HB := Aside0.mk (below_drew1 HB.out)
   have p1301 : 0 ≤ (((rd_T148 l0 x13_1).f1) : Int) := of_decide_eq_true (by first | (with_reducible assumption) | assumption)
   have q1301 : ((rd_T148 l0 x13_1).f1) < (y1300.length : Int) := (by have h_ : (((rd_T148 l0 x13_1).f1) : Int) < ((x5_1.length : Int) : Int) := of_decide_eq_true (by first | (with_reducible assumption) | assumption); first | (have e_ := (Kd.R_reads' HO_5.out).1; omega) | simpa only [Ny1300.out, List.length_set] using h_)
   have ql1301 : ((((rd_T148 l0 x13_1).f1) : Int) < ((x5_1.length : Int) : Int)) = True := eq_true (of_decide_eq_true (by first | (with_reducible assumption) | assumption))
   obtain ⟨ad1301, e1301, hx1301_0⟩ := Kd.at_int (Kd.R_reads' HO_5.out).2.2 ((rd_T148 l0 x13_1).f1) p1301 q1301
   obtain rfl : (⟨go15, 0, none⟩ : Addr) = ad1301 := (by injection e1301)
   (first | simp only [add_plain] at hx1301_0 | simp only [add_at] at hx1301_0 | simp only [Addr.add, Nat.zero_add] at hx1301_0 | skip)
   replace p1301 := eq_true p1301
   replace q1301 := eq_true q1301
   have p1302 : 0 ≤ (((rd_T148 l0 x13_1).f0) : Int) := of_decide_eq_true (by first | (with_reducible assumption) | assumption)
   have q1302 : ((rd_T148 l0 x13_1).f0) < (l1.length : Int) := of_decide_eq_true (by first | (with_reducible assumption) | assumption)
   obtain ⟨ad1302, e1302, hx1302_0⟩ := Kd.at_int HR1.out ((rd_T148 l0 x13_1).f0) p1302 q1302
   have hw1302_0 := hx1302_0
   obtain rfl : ad1298 = ad1302 := (by injection e1302)
   replace hx1302_0 := (HB.out.cell (World.block_lt_of_cell? w _ hx1302_0)).trans hx1302_0
   replace p1302 := eq_true p1302
   replace q1302 := eq_true q1302
   refine start_ (n := 19) (S := fun w' => w'.cell? ⟨gb1296, 0, none⟩ = some (.int .i64 ((rd_T148 l0 x13_1).f0)) ∧ w'.cell? ⟨gb1296, 1, none⟩ = some (.int .i64 ((rd_T148 l0 x13_1).f1)) ∧ w'.cell? ⟨gb1296, 2, none⟩ = some (.int .i64 ((rd_T148 l0 x13_1).f2)) ∧ w'.cell? ⟨go15, (((rd_T148 l0 x13_1).f1)).toNat, none⟩ = some (.int .i64 (rd y1300 ((rd_T148 l0 x13_1).f1))) ∧ w'.cell? (ad1298.add (((rd_T148 l0 x13_1).f0)).toNat) = some (.int .i64 (rd l1 ((rd_T148 l0 x13_1).f0)))) (ds := [18]) (bs 19 0) (by kernel_rfl) rfl rfl ⟨bc_ BK1296 0, bc_ BK1296 1, bc_ BK1296 2, hx1301_0, ((HB.out.cell (World.block_lt_of_cell? w _ hw1302_0)).trans hw1302_0)⟩ (fun hHeld => ?_); refine with_tabW spec_l9Relax.tab6 spec_l9Relax.bits6 (fun HT_ HW_ => ?_)
   generalize w26.drew = w27 at HO_5 BK1296 HB HQ25 hx1301_0 hx1302_0 hHeld ⊢
   refine pu_ 0 35 (bs 19 1) HT_ ?_
   refine pu_ 1 36 (bs 19 3) HT_ ?_
   refine pu_ 3 38 (bs 19 11) HT_ ?_
   refine pu_ 4 39 (bs 19 27) HT_ ?_
   refine pu_ 8 43 (bs 19 283) HT_ ?_
   refine pu_ 9 44 (bs 19 795) HT_ ?_
   refine pu_ 13 48 (bs 19 8987) HT_ ?_
   refine tk_ 2 37 (bs 19 8991) HT_ HW_ hHeld ?_
   refine tk_ 5 40 (bs 19 9023) HT_ HW_ hHeld ?_
   refine pu_ 6 41 (bs 19 9087) HT_ ?_
   refine tk_ 7 42 (bs 19 9215) HT_ HW_ hHeld ?_
   refine tk_ 10 45 (bs 19 10239) HT_ HW_ hHeld ?_
   refine pu_ 11 46 (bs 19 12287) HT_ ?_
   refine tk_ 12 47 (bs 19 16383) HT_ HW_ hHeld ?_
   refine tk_ 14 49 (bs 19 32767) HT_ HW_ hHeld ?_
   refine pu_ 15 50 (bs 19 65535) HT_ ?_
   refine one_ (i := 16) (N := some 51) (bs 19 131071) rfl rfl (one_of HT_.out (by kernel_rfl)) (by decide) (fun K hK => ?_)
   refine goes_ Try.func177 (by kernel_rfl) rfl #[.int .i64 (rd y1300 ((rd_T148 l0 x13_1).f1)), .int .i64 (wrap64 ((rd l1 ((rd_T148 l0 x13_1).f0)) + ((rd_T148 l0 x13_1).f2)))] (by rfl) rfl rfl tm_ ?_
   with_reducible refine (spec_l1Least.calls (rd y1300 ((rd_T148 l0 x13_1).f1)) (wrap64 ((rd l1 ((rd_T148 l0 x13_1).f0)) + ((rd_T148 l0 x13_1).f2))) t1303 _ A18.out).mono ?_
   rintro e w' ⟨rfl, ⟨nd, rfl⟩⟩
   refine ⟨_, rfl, ?_⟩
   generalize hq_ : World.drewN w27 nd = w27
   replace HO_5 := Aside0.mk (Kd.R_at hq_ HO_5.out)
   replace BK1296 := Aside0.mk (blk_at hq_ BK1296.out)
   replace HB := Aside0.mk (below_at hq_ HB.out)
   try replace HQ25 := cell_at hq_ HQ25
   try replace hx1301_0 := cell_at hq_ hx1301_0
   try replace hx1302_0 := cell_at hq_ hx1302_0
   have HQ_ := Aside0.mk hq_
   clear hq_
   have p19 : 0 ≤ (((rd_T148 l0 x13_1).f1) : Int) := of_decide_eq_true (by first | (with_reducible assumption) | assumption)
   have q19 : (((rd_T148 l0 x13_1).f1) : Int) < ((x5_1.length : Int) : Int) := of_decide_eq_true (by first | (with_reducible assumption) | assumption)
   obtain ⟨hx19_0, hf19_0⟩ := Kd.R_celln 0 HO_5.out (((rd_T148 l0 x13_1).f1) : Int) p19 q19
   replace p19 := eq_true p19
   replace q19 := eq_true q19
   have HP28 := Kd.R_putn HO_5.out (((rd_T148 l0 x13_1).f1) : Int) t1303
   rw [← Ny1304.out] at HP28
   have HQ28 := Aside0.mk HP28
   clear HP28
   refine hK.out _ _ ⟨bc_ BK1296 0, bc_ BK1296 1, bc_ BK1296 2, (cell_at HQ_.out hHeld.2.2.2.1), ((HB.out.cell (World.block_lt_of_cell? w _ hw1302_0)).trans hw1302_0)⟩ (fun hHeld => ?_)
   clear hK K
   refine nm_ 51 ?_
   refine pu_ 17 52 (bs 19 262143) HT_ ?_
   refine last_ (i := 18) (N := none) (bs 19 524287) rfl rfl (one_of HT_.out (by kernel_rfl)) (by decide) (fun K hK => ?_)
   refine skip_ (w1 := ?_) (by rfl) rfl ?_ ?_
   rotate_left
   ·go_simp
    rfl
   refine hK.out _ _ ?_
   clear hK K
   refine done_ (done_of HT_.out (by kernel_rfl)) ?_
   try go_wp2
   go_roundg k1
   case measure => have := HK1.out; omega
   case rel => exact ⟨(y1304), (wrap64 (x13_1 + 1)), (by first | rfl | (simp; done) | (simp [*]; done)), H', ⟨by have := HK1.out; omega⟩, ⟨ra HQ28.out⟩, ⟨hB HB⟩⟩

mutual
def spec_l9Fars.l0 : Nat → Int → List (S148) → Int → List Int → Int → Option (List Int)
 | 0, _, _, _, _, _ => none
 | k + 1, x0, x1, x2, x7, x8 => if x8 < x0 then (if x7.length < 17592186044416 then (spec_l9Fars.l0 k x0 x1 x2 (x7 ++ [100000]) (wrap64 (x8 + 1))) else (none)) else (if 0 ≤ x2 then (if x2 < (x7.length : Int) then (spec_l9Fars.l1 k x0 x1 (x7.set (x2 : Int).toNat 0) 0) else (none)) else (none))
def spec_l9Fars.l1 : Nat → Int → List (S148) → List Int → Int → Option (List Int)
 | 0, _, _, _, _ => none
 | k + 1, x0, x1, x7, x9 => if x9 < x0 then ((spec_l9Relax.f k x1 x7).bind fun t1309 => (spec_l9Fars.l1 k x0 x1 t1309 (wrap64 (x9 + 1)))) else (some x7)
end
def spec_l9Fars.f (k : Nat) (a0 : Int) (l1 : List (S148)) (a2 : Int) : Option (List Int) := spec_l9Fars.l0 k a0 l1 a2 ([] : List Int) 0
theorem spec_l9Fars.mono_l : ∀ k, (∀ y0 y1 y2 y3 y4, LeO (spec_l9Fars.l0 k y0 y1 y2 y3 y4) (spec_l9Fars.l0 (k + 1) y0 y1 y2 y3 y4)) ∧ (∀ y0 y1 y2 y3, LeO (spec_l9Fars.l1 k y0 y1 y2 y3) (spec_l9Fars.l1 (k + 1) y0 y1 y2 y3))
 | 0 => ⟨fun _ _ _ _ _ r h => by simp [spec_l9Fars.l0] at h, fun _ _ _ _ r h => by simp [spec_l9Fars.l1] at h⟩
 | k + 1 => by
  obtain ⟨ih0, ih1⟩ := spec_l9Fars.mono_l k
  refine ⟨?_, ?_⟩
  ·intro y0 y1 y2 y3 y4
   unfold spec_l9Fars.l0
   repeat' first
   | (with_reducible exact ih0 _ _ _ _ _)
   | (with_reducible exact ih1 _ _ _ _)
   | (with_reducible exact spec_l9Relax.mono _ _ _)
   | (with_reducible exact LeO.refl _)
   | (with_reducible exact LeO.none _)
   | (with_reducible refine LeO.ite ?_ ?_)
   | (with_reducible refine LeO.bind ?_ (fun _ => ?_))
  ·intro y0 y1 y2 y3
   unfold spec_l9Fars.l1
   repeat' first
   | (with_reducible exact ih0 _ _ _ _ _)
   | (with_reducible exact ih1 _ _ _ _)
   | (with_reducible exact spec_l9Relax.mono _ _ _)
   | (with_reducible exact LeO.refl _)
   | (with_reducible exact LeO.none _)
   | (with_reducible refine LeO.ite ?_ ?_)
   | (with_reducible refine LeO.bind ?_ (fun _ => ?_))
theorem spec_l9Fars.mono : ∀ a0 a1 a2 k, LeO (spec_l9Fars.f k a0 a1 a2) (spec_l9Fars.f (k + 1) a0 a1 a2) := by
 intro a0 a1 a2 k
 obtain ⟨ih0, ih1⟩ := spec_l9Fars.mono_l k
 unfold spec_l9Fars.f
 repeat' first
   | (with_reducible exact ih0 _ _ _ _ _)
   | (with_reducible exact ih1 _ _ _ _)
   | (with_reducible exact spec_l9Relax.mono _ _ _)
   | (with_reducible exact LeO.refl _)
   | (with_reducible exact LeO.none _)
   | (with_reducible refine LeO.ite ?_ ?_)
   | (with_reducible refine LeO.bind ?_ (fun _ => ?_))
set_option maxHeartbeats 8000000 in
set_option maxRecDepth 100000 in
theorem spec_l9Fars.calls (k : Nat) (a0 : Int) (A1 : Option Addr) (c1 : Nat) (l1 : List (S148)) (a2 : Int) (r : List Int) (w : World) (hr1 : Kd.C k148 w A1 l1.length l1) (hc1 : l1.length ≤ c1) (h : spec_l9Fars.f k a0 l1 a2 = some r) :
  Calls Try.prog 155 #[.int .i64 a0, .slice A1 l1.length c1, .int .i64 a2] w fun e w' => ∃ v0_ : Value, e = .returned (v0_) ∧ Kd.R (Kd.int .i64) 3 w' w.heap.size (fun _ => True) v0_ r ∧ Below w.heap.size w w' := by
 have HR1 := Aside0.mk hr1
 have HC1 := Aside0.mk hc1
 clear hr1 hc1
 have HB := Aside0.mk (Below.refl w.heap.size w)
 have H : (spec_l9Fars.l0 k a0 l1 a2 ([] : List Int) 0) = some r := h
 clear h
 have H' := Aside0.mk H
 clear H
 go_enter Try.func155, Try.ntmps155
 go_wp2
 go_loopg [7, 8] k (fun kq v7 v8 w' => ∃ (x7_1 : List Int) (x8_1 : Int), v8 = .int .i64 x8_1 ∧ Aside0 (spec_l9Fars.l0 kq a0 l1 a2 x7_1 x8_1 = some r) ∧ Aside0 (kq ≤ k) ∧ Aside0 (Kd.R (Kd.int .i64) 3 w' w.heap.size (fun _ => True) v7 x7_1) ∧ Aside0 (Below w.heap.size w w'))
 case atStart => exact ⟨(([] : List Int)), (0), (by first | rfl | (simp; done) | (simp [*]; done)), H', ⟨Nat.le_refl _⟩, ⟨by first | exact Kd.R_nil _ _ _ _ _ | exact Kd.N_nil _ _ _ _ _ | exact Kd.V_nil _ _ _ _ _ | exact Kd.Q_nil _ _ _ _ _ | exact Kd.S_nil _ _ _ _ _⟩, ⟨hB HB⟩⟩
 case round =>
  clear H'
  try clear c1
  obtain ⟨x7_1, x8_1, rfl, HA, HK1, HO_7, HB⟩ := hrel
  cases gk with
  | zero => exact absurd HA.out (by simp [spec_l9Fars.l0])
  | succ k1 =>
   have H := HA.out
   clear HA
   simp only [spec_l9Fars.l0] at H
   by_cases c4 : x8_1 < a0
   ·rw [if_pos c4] at H
    have c4b0 : decide (x8_1 < a0) = true := decide_eq_true c4
    clear c4
    by_cases c5 : x7_1.length < 17592186044416
    rotate_left
    ·rw [if_neg c5] at H
     exact absurd H (by simp)
    rw [if_pos c5] at H
    have LMc5 := Aside0.mk c5
    clear c5
    obtain ⟨y1305, hy1305⟩ : ∃ y_ : List Int, y_ = (x7_1 ++ [100000]) := ⟨_, rfl⟩
    replace H : (spec_l9Fars.l0 k1 a0 l1 a2 y1305 (wrap64 (x8_1 + 1))) = some r := by first | (rw [hy1305]; with_reducible exact H) | (have H2_ := (Option.bind_some _ _).symm.trans H; rw [hy1305]; with_reducible exact H2_) | (have H2_ := (Option.bind_some _ _).symm.trans H; with_reducible exact H2_) | with_reducible exact H | (rw [hy1305]; exact H) | exact H
    have Ny1305 := Aside0.mk hy1305
    clear hy1305
    have H' := Aside0.mk H
    clear H
    go_wp2_with (first | ((with_reducible refine gate_builtin (b := .append) (xs := #[.tmp 15, .tmp 16]) rfl ?_); at_builtin; refine Kd.R_append (Kd.int .i64) (w0 := w) w.heap.size rfl (.tmp 15) (.tmp 16) 22 3 (.int .i64 0) 8 rfl Try.underlying22 info3 rfl (by decide) (by omega) u7 x7_1 100000 [.int .i64 100000] (fun _ => True) (fun _ => False) rfl rfl ?aP (fun _ hk => hk.elim) ?aF ?aO ?aB ?aS ?aL ?_; (case aP => exact rfl); (case aB => exact (hB HB)); (case aF => exact (fun _ _ => trivial)); (case aO => exact (ra HO_7.out)); (case aS => exact (below_size (hB HB))); (case aL => have := LMc5.out; omega); intro v1306 w6 ho hb hg hat; rw [← Ny1305.out] at ho; have HO1307 := Aside0.mk (ho); replace HB := Aside0.mk (hb); clear HO_7; clear ho hb hg hat))
    go_roundg k1
    case measure => have := HK1.out; omega
    case rel => exact ⟨(y1305), (wrap64 (x8_1 + 1)), (by first | rfl | (simp; done) | (simp [*]; done)), H', ⟨by have := HK1.out; omega⟩, ⟨ra HO1307.out⟩, ⟨hB HB⟩⟩
   rw [if_neg c4] at H
   have c4b0 : decide (x8_1 < a0) = false := decide_eq_false c4
   clear c4
   by_cases c7 : 0 ≤ a2
   rotate_left
   ·rw [if_neg c7] at H
    exact absurd H (by simp)
   rw [if_pos c7] at H
   have c7b0 : decide (0 ≤ a2) = true := decide_eq_true c7
   clear c7
   by_cases c8 : a2 < (x7_1.length : Int)
   rotate_left
   ·rw [if_neg c8] at H
    exact absurd H (by simp)
   rw [if_pos c8] at H
   have c8b0 : decide (a2 < (x7_1.length : Int)) = true := decide_eq_true c8
   clear c8
   obtain ⟨y1308, hy1308⟩ : ∃ y_ : List Int, y_ = (x7_1.set (a2 : Int).toNat 0) := ⟨_, rfl⟩
   replace H : (spec_l9Fars.l1 k1 a0 l1 y1308 0) = some r := by first | (rw [hy1308]; with_reducible exact H) | (have H2_ := (Option.bind_some _ _).symm.trans H; rw [hy1308]; with_reducible exact H2_) | (have H2_ := (Option.bind_some _ _).symm.trans H; with_reducible exact H2_) | with_reducible exact H | (rw [hy1308]; exact H) | exact H
   have Ny1308 := Aside0.mk hy1308
   clear hy1308
   have H' := Aside0.mk H
   clear H
   have p9 : 0 ≤ (a2 : Int) := of_decide_eq_true (by first | (with_reducible assumption) | assumption)
   have q9 : (a2 : Int) < ((x7_1.length : Int) : Int) := of_decide_eq_true (by first | (with_reducible assumption) | assumption)
   obtain ⟨go9, co9, eo9, gb9, gl9, cl9, HG9⟩ := Kd.R_form HO_7.out (by omega)
   (first | cases eo9 | (injection eo9 with ea_ en_ ec_; (first | subst ea_ | (injection ea_ with ea_; subst ea_)); subst ec_; clear en_))
   have GB9 := Aside0.mk gb9
   have GG9 := Aside0.mk HG9
   clear gb9 gl9 HG9
   obtain ⟨hx9_0, hf9_0⟩ := Kd.R_celln 0 HO_7.out (a2 : Int) p9 q9
   replace p9 := eq_true p9
   replace q9 := eq_true q9
   have HP10 := Kd.R_putg HO_7.out (a2 : Int) 0
   go_wp2_with (first | ((with_reducible refine gate_store (t := 3) (p := 20) rfl ?_); refine store_event (t := 3) (p := 20) (v := ?vo_w11) (w1 := (wr.setCell ⟨go9, (a2 : Int).toNat, none⟩ (.int .i64 0))) ?hg ?ho ?hn ?hr ?_; (case ho => rfl); (case hg => rfl); (case hn => rfl); (case hr => first | (go_simp; done) | (go_simp; rfl)); intro w11 hw; have hg : wr.grownBy w11 (some go9) := (by rw [hw]; exact HP10.2); have hp_ : Kd.R (Kd.int .i64) 3 w11 w.heap.size (fun _ => True) (.slice (some ⟨go9, 0, none⟩) x7_1.length co9) y1308 := (by rw [hw, Ny1308.out]; exact HP10.1); clear HP10; replace HO_7 := Aside0.mk (hp_); replace HB := Aside0.mk ((by rw [hw]; exact below_set (HB.out) GB9.out : Below w.heap.size w w11)); clear hg hw hp_))
   go_loopg [7, 9] k1 (fun kq v7 v9 w' => ∃ (x7_2 : List Int) (x9_2 : Int), v9 = .int .i64 x9_2 ∧ Aside0 (spec_l9Fars.l1 kq a0 l1 x7_2 x9_2 = some r) ∧ Aside0 (kq ≤ k1) ∧ Aside0 (Kd.R (Kd.int .i64) 3 w' w.heap.size (fun _ => True) v7 x7_2) ∧ Aside0 (Below w.heap.size w w'))
   case atStart => exact ⟨(y1308), (0), (by first | rfl | (simp; done) | (simp [*]; done)), H', ⟨Nat.le_refl _⟩, ⟨ra HO_7.out⟩, ⟨hB HB⟩⟩
   case round =>
    clear H'
    try clear c1
    try clear c4
    try clear c4b0
    try clear c7
    try clear c7b0
    try clear c8
    try clear c8b0
    try clear p9
    try clear q9
    try clear hx9_0
    try clear p9
    try clear q9
    obtain ⟨x7_2, x9_2, rfl, HA, HK2, HO_7, HB⟩ := hrel
    cases gk with
    | zero => exact absurd HA.out (by simp [spec_l9Fars.l1])
    | succ k2 =>
     have H := HA.out
     clear HA
     simp only [spec_l9Fars.l1] at H
     by_cases c12 : x9_2 < a0
     rotate_left
     ·rw [if_neg c12] at H
      have c12b0 : decide (x9_2 < a0) = false := decide_eq_false c12
      clear c12
      obtain rfl := Option.some.inj H
      go_wp2
      go_ret
      exact ⟨_, by first | rfl | (simp [errW_none, errW_some] <;> rfl) | (simp [*, errW_none, errW_some] <;> rfl), by (with_reducible repeat (first | apply Kd.R_alloc | apply Kd.R_drewN | apply Kd.R_drew)); exact HO_7.out, by repeat (first | (with_reducible first | exact HB.out | apply below_alloc | apply pw_below_drewN | apply below_drew1) | exact HB.out)⟩
     rw [if_pos c12] at H
     have c12b0 : decide (x9_2 < a0) = true := decide_eq_true c12
     clear c12
     replace H := Option.bind_eq_some_iff.mp H
     obtain ⟨t1309, A130, H⟩ := H
     replace H : (spec_l9Fars.l1 k2 a0 l1 t1309 (wrap64 (x9_2 + 1))) = some r := H
     have A13 := Aside0.mk A130
     clear A130
     have H' := Aside0.mk H
     clear H
     obtain ⟨Ao14, co14, eo14⟩ := Kd.R_slice HO_7.out
     subst eo14
     go_wp2_with (first | ((with_reducible refine gate_callee (f := 170) rfl ?_); refine goesL_ (some 28) rfl rfl Try.func170 (by kernel_rfl) rfl #[.slice A1 l1.length c1, .slice Ao14 x7_2.length co14] rfl tm_ ?_; (with_reducible refine (spec_l9Relax.calls k2 _ _ l1 _ _ x7_2 t1309 _ ?side1 ?side2 ?side3 ?side4 A13.out).mono ?_); (case side1 => exact ca (Kd.C_below HR1.out HB.out)); (case side2 => exact HC1.out); (case side3 => exact ca (Kd.R_reads' HO_7.out).2.2); (case side4 => exact (Kd.R_reads' HO_7.out).2.1); rintro e w15 ⟨v1310, rfl, ho0, hb⟩; refine ⟨_, rfl, ?_⟩; have HO1311 := Aside0.mk (Kd.R_lower (Kd.R_new' ho0 (rl_ HO_7)) (below_size (hB HB))); replace HO_7 := re_ HO_7 ho0 hb; replace HB := bst_ HB hb; clear hb ho0))
     go_roundg k2
     case measure => have := HK1.out; have := HK2.out; omega
     case rel => exact ⟨(t1309), (wrap64 (x9_2 + 1)), (by first | rfl | (simp; done) | (simp [*]; done)), H', ⟨by have := HK1.out; have := HK2.out; omega⟩, rm_ HO1311 (fun _ hk => trivial), ⟨hB HB⟩⟩

def spec_l8Near.l0 : Nat → Int → List Int → List (S148) → Int → Int → Option (List Int)
 | 0, _, _, _, _, _ => none
 | k + 1, x1, x5, x8, x9, x10 => if x10 < x9 then (if 0 ≤ x10 then (if x10 < (x8.length : Int) then (if ((rd_T148 x8 x10).f0) = x1 then ((spec_l1Put.f k x5 ((rd_T148 x8 x10).f1)).bind fun t1314 => (if ((rd_T148 x8 x10).f1) = x1 then ((spec_l1Put.f k t1314 ((rd_T148 x8 x10).f0)).bind fun t1317 => (spec_l8Near.l0 k x1 t1317 x8 x9 (wrap64 (x10 + 1)))) else (spec_l8Near.l0 k x1 t1314 x8 x9 (wrap64 (x10 + 1))))) else (if ((rd_T148 x8 x10).f1) = x1 then ((spec_l1Put.f k x5 ((rd_T148 x8 x10).f0)).bind fun t1320 => (spec_l8Near.l0 k x1 t1320 x8 x9 (wrap64 (x10 + 1)))) else (spec_l8Near.l0 k x1 x5 x8 x9 (wrap64 (x10 + 1))))) else (none)) else (none)) else (some x5)
def spec_l8Near.f (k : Nat) (l0 : List (S148)) (a1 : Int) : Option (List Int) := spec_l8Near.l0 k a1 ([] : List Int) l0 (l0.length : Int) 0
theorem spec_l8Near.mono_l : ∀ k, (∀ y0 y1 y2 y3 y4, LeO (spec_l8Near.l0 k y0 y1 y2 y3 y4) (spec_l8Near.l0 (k + 1) y0 y1 y2 y3 y4))
 | 0 => fun _ _ _ _ _ r h => by simp [spec_l8Near.l0] at h
 | k + 1 => by
  have ih0 := spec_l8Near.mono_l k
  ·intro y0 y1 y2 y3 y4
   unfold spec_l8Near.l0
   repeat' first
   | (with_reducible exact ih0 _ _ _ _ _)
   | (with_reducible exact spec_l1Put.mono _ _ _)
   | (with_reducible exact LeO.refl _)
   | (with_reducible exact LeO.none _)
   | (with_reducible refine LeO.ite ?_ ?_)
   | (with_reducible refine LeO.bind ?_ (fun _ => ?_))
theorem spec_l8Near.mono : ∀ a0 a1 k, LeO (spec_l8Near.f k a0 a1) (spec_l8Near.f (k + 1) a0 a1) := by
 intro a0 a1 k
 have ih0 := spec_l8Near.mono_l k
 unfold spec_l8Near.f
 repeat' first
   | (with_reducible exact ih0 _ _ _ _ _)
   | (with_reducible exact spec_l1Put.mono _ _ _)
   | (with_reducible exact LeO.refl _)
   | (with_reducible exact LeO.none _)
   | (with_reducible refine LeO.ite ?_ ?_)
   | (with_reducible refine LeO.bind ?_ (fun _ => ?_))
set_option maxHeartbeats 8000000 in
set_option maxRecDepth 100000 in
theorem spec_l8Near.calls (k : Nat) (A0 : Option Addr) (c0 : Nat) (l0 : List (S148)) (a1 : Int) (r : List Int) (w : World) (hr0 : Kd.C k148 w A0 l0.length l0) (hc0 : l0.length ≤ c0) (h : spec_l8Near.f k l0 a1 = some r) :
  Calls Try.prog 156 #[.slice A0 l0.length c0, .int .i64 a1] w fun e w' => ∃ v0_ : Value, e = .returned (v0_) ∧ Kd.V (Kd.int .i64) 3 w' w.heap.size (fun k_ => (w.heap.size ≤ k_)) v0_ r ∧ Below w.heap.size w w' := by
 have hu148 := Try.underlying148
 have HR0 := Aside0.mk hr0
 have HC0 := Aside0.mk hc0
 clear hr0 hc0
 have HB := Aside0.mk (Below.refl w.heap.size w)
 have H : (spec_l8Near.l0 k a1 ([] : List Int) l0 (l0.length : Int) 0) = some r := h
 clear h
 have H' := Aside0.mk H
 clear H
 go_enter Try.func156, Try.ntmps156
 go_wp2
 go_loopg [5, 10] k (fun kq v5 v10 w' => ∃ (x5_1 : List Int) (x10_1 : Int), v10 = .int .i64 x10_1 ∧ Aside0 (spec_l8Near.l0 kq a1 x5_1 l0 (l0.length : Int) x10_1 = some r) ∧ Aside0 (kq ≤ k) ∧ Aside0 (Kd.V (Kd.int .i64) 3 w' w.heap.size (fun k_ => (w.heap.size ≤ k_)) v5 x5_1) ∧ Aside0 (Below w.heap.size w w'))
 case atStart => exact ⟨(([] : List Int)), (0), (by first | rfl | (simp; done) | (simp [*]; done)), H', ⟨Nat.le_refl _⟩, ⟨Kd.V_nil _ _ _ _ _⟩, ⟨hB HB⟩⟩
 case round =>
  clear H'
  obtain ⟨x5_1, x10_1, rfl, HA, HK1, HO_5, HB⟩ := hrel
  cases gk with
  | zero => exact absurd HA.out (by simp [spec_l8Near.l0])
  | succ k1 =>
   have H := HA.out
   clear HA
   simp only [spec_l8Near.l0] at H
   by_cases c3 : x10_1 < (l0.length : Int)
   rotate_left
   ·rw [if_neg c3] at H
    have c3b0 : decide (x10_1 < (l0.length : Int)) = false := decide_eq_false c3
    clear c3
    obtain rfl := Option.some.inj H
    go_wp2
    go_ret
    exact ⟨_, by first | rfl | (simp [errW_none, errW_some] <;> rfl) | (simp [*, errW_none, errW_some] <;> rfl), by (with_reducible repeat (first | apply Kd.V_alloc | apply Kd.V_drewN | apply Kd.V_drew)); exact HO_5.out, by repeat (first | (with_reducible first | exact HB.out | apply below_alloc | apply pw_below_drewN | apply below_drew1) | exact HB.out)⟩
   rw [if_pos c3] at H
   have c3b0 : decide (x10_1 < (l0.length : Int)) = true := decide_eq_true c3
   clear c3
   by_cases c4 : 0 ≤ x10_1
   rotate_left
   ·rw [if_neg c4] at H
    exact absurd H (by simp)
   rw [if_pos c4] at H
   have c4b0 : decide (0 ≤ x10_1) = true := decide_eq_true c4
   clear c4
   by_cases c5 : x10_1 < (l0.length : Int)
   rotate_left
   ·rw [if_neg c5] at H
    exact absurd H (by simp)
   rw [if_pos c5] at H
   have c5b0 : decide (x10_1 < (l0.length : Int)) = true := decide_eq_true c5
   clear c5
   by_cases c6 : ((rd_T148 l0 x10_1).f0) = a1
   rotate_left
   ·rw [if_neg c6] at H
    have c6b0 : (((rd_T148 l0 x10_1).f0) == a1) = false := beq_eq_false_iff_ne.mpr c6
    have c6b1 : (((rd_T148 l0 x10_1).f0) != a1) = true := bne_iff_ne.mpr c6
    by_cases c26 : ((rd_T148 l0 x10_1).f1) = a1
    rotate_left
    ·rw [if_neg c26] at H
     have c26b0 : (((rd_T148 l0 x10_1).f1) == a1) = false := beq_eq_false_iff_ne.mpr c26
     have c26b1 : (((rd_T148 l0 x10_1).f1) != a1) = true := bne_iff_ne.mpr c26
     have H' := Aside0.mk H
     clear H
     have p1312 : 0 ≤ (x10_1 : Int) := of_decide_eq_true (by first | (with_reducible assumption) | assumption)
     have q1312 : x10_1 < (l0.length : Int) := of_decide_eq_true (by first | (with_reducible assumption) | assumption)
     obtain ⟨ad1312, e1312, hx1312_0, hx1312_1, hx1312_2⟩ := at_T148 HR0.out x10_1 p1312 q1312
     cases e1312
     replace hx1312_0 := (HB.out.cell (World.block_lt_of_cell? w _ hx1312_0)).trans hx1312_0
     replace hx1312_1 := (HB.out.cell (World.block_lt_of_cell? w _ hx1312_1)).trans hx1312_1
     replace hx1312_2 := (HB.out.cell (World.block_lt_of_cell? w _ hx1312_2)).trans hx1312_2
     replace p1312 := eq_true p1312
     replace q1312 := eq_true q1312
     go_wp2_with (first | ((with_reducible refine gate_dst (N := 7) rfl ?_); refine box_event ?hg (N := 7) ?hd (cs := #[.int .i64 0, .int .i64 0, .int .i64 0]) (t := 148) ?hr ?_; (case hd => rfl); (case hg => rfl); (case hr => first | (go_simp; done) | (go_simp; rfl)); intro gb1313 hg w34 hbox hb; have BK1313 := Aside0.mk (hbox); have GW1313 := gw_ hg HB; have GE1313 := gw_ hg HB; replace HO_5 := Aside0.mk (Kd.V_below (Kd.V_elderB (by (with_reducible repeat (first | apply Kd.V_alloc | apply Kd.V_drewN | apply Kd.V_drew)); exact HO_5.out) gb1313 (Nat.le_of_eq hg.symm)) hb); replace HB := bst_ HB hb; clear hb hbox hg; have hcz35_0 : w34.cell? ⟨gb1313, 0, none⟩ = some (.int .i64 0) := bc_ BK1313 0; have hcz35_1 : w34.cell? ⟨gb1313, 1, none⟩ = some (.int .i64 0) := bc_ BK1313 1; have hcz35_2 : w34.cell? ⟨gb1313, 2, none⟩ = some (.int .i64 0) := bc_ BK1313 2; have hfz35_0 := blk_frozen BK1313.out 0; have hfz35_1 := blk_frozen BK1313.out 1; have hfz35_2 := blk_frozen BK1313.out 2))
     go_roundg k1
     case measure => have := HK1.out; omega
     case rel => exact ⟨(x5_1), (wrap64 (x10_1 + 1)), (by first | rfl | (simp; done) | (simp [*]; done)), H', ⟨by have := HK1.out; omega⟩, ⟨by (with_reducible repeat (first | apply Kd.V_alloc | apply Kd.V_drewN | apply Kd.V_drew)); exact Kd.V_mono (Kd.V_far (p := ⟨gb1313, 2, none⟩) (Kd.V_far (p := ⟨gb1313, 1, none⟩) (Kd.V_far (p := ⟨gb1313, 0, none⟩) (Kd.V_mono HO_5.out (fun k_ hk => (⟨hk, hk.2⟩ : _ ∧ k_ ≠ gb1313))) (fun _ hk => hk.2) (.int .i64 ((rd_T148 l0 x10_1).f0))) (fun _ hk => hk.2) (.int .i64 ((rd_T148 l0 x10_1).f1))) (fun _ hk => hk.2) (.int .i64 ((rd_T148 l0 x10_1).f2))) (fun _ hk => hk.1.1)⟩, ⟨hB HB⟩⟩
    rw [if_pos c26] at H
    have c26b0 : (((rd_T148 l0 x10_1).f1) == a1) = true := beq_iff_eq.mpr c26
    have c26b1 : (((rd_T148 l0 x10_1).f1) != a1) = false := bne_eq_false_iff_eq.mpr c26
    clear c26
    replace H := Option.bind_eq_some_iff.mp H
    obtain ⟨t1320, A270, H⟩ := H
    replace H : (spec_l8Near.l0 k1 a1 t1320 l0 (l0.length : Int) (wrap64 (x10_1 + 1))) = some r := H
    have A27 := Aside0.mk A270
    clear A270
    have H' := Aside0.mk H
    clear H
    have p1312 : 0 ≤ (x10_1 : Int) := of_decide_eq_true (by first | (with_reducible assumption) | assumption)
    have q1312 : x10_1 < (l0.length : Int) := of_decide_eq_true (by first | (with_reducible assumption) | assumption)
    obtain ⟨ad1312, e1312, hx1312_0, hx1312_1, hx1312_2⟩ := at_T148 HR0.out x10_1 p1312 q1312
    cases e1312
    replace hx1312_0 := (HB.out.cell (World.block_lt_of_cell? w _ hx1312_0)).trans hx1312_0
    replace hx1312_1 := (HB.out.cell (World.block_lt_of_cell? w _ hx1312_1)).trans hx1312_1
    replace hx1312_2 := (HB.out.cell (World.block_lt_of_cell? w _ hx1312_2)).trans hx1312_2
    replace p1312 := eq_true p1312
    replace q1312 := eq_true q1312
    go_wp2_with (first | ((with_reducible refine gate_dst (N := 7) rfl ?_); refine box_event ?hg (N := 7) ?hd (cs := #[.int .i64 0, .int .i64 0, .int .i64 0]) (t := 148) ?hr ?_; (case hd => rfl); (case hg => rfl); (case hr => first | (go_simp; done) | (go_simp; rfl)); intro gb1313 hg w28 hbox hb; have BK1313 := Aside0.mk (hbox); have GW1313 := gw_ hg HB; have GE1313 := gw_ hg HB; replace HO_5 := Aside0.mk (Kd.V_below (Kd.V_elderB (by (with_reducible repeat (first | apply Kd.V_alloc | apply Kd.V_drewN | apply Kd.V_drew)); exact HO_5.out) gb1313 (Nat.le_of_eq hg.symm)) hb); replace HB := bst_ HB hb; clear hb hbox hg; have hcz29_0 : w28.cell? ⟨gb1313, 0, none⟩ = some (.int .i64 0) := bc_ BK1313 0; have hcz29_1 : w28.cell? ⟨gb1313, 1, none⟩ = some (.int .i64 0) := bc_ BK1313 1; have hcz29_2 : w28.cell? ⟨gb1313, 2, none⟩ = some (.int .i64 0) := bc_ BK1313 2; have hfz29_0 := blk_frozen BK1313.out 0; have hfz29_1 := blk_frozen BK1313.out 1; have hfz29_2 := blk_frozen BK1313.out 2) | ((with_reducible refine gate_store (t := 148) (p := 7) rfl ?_); refine store_event (t := 148) (p := 7) (v := ?vo_w30) (w1 := (((w28.setCell ⟨gb1313, 0, none⟩ (.int .i64 ((rd_T148 l0 x10_1).f0))).setCell ⟨gb1313, 1, none⟩ (.int .i64 ((rd_T148 l0 x10_1).f1))).setCell ⟨gb1313, 2, none⟩ (.int .i64 ((rd_T148 l0 x10_1).f2)))) ?hg ?ho ?hn ?hr ?_; (case ho => rfl); (case hg => rfl); (case hn => rfl); (case hr => first | (go_simp; done) | (go_simp; rfl)); intro w30 hw; have n0_ : Aside0 (Kd.V (Kd.int .i64) 3 w30 w.heap.size (fun k_ => (w.heap.size ≤ k_) ∧ k_ ≠ gb1313) u5 x5_1) := ⟨(by rw [hw]; exact (by (with_reducible repeat (first | apply Kd.V_alloc | apply Kd.V_drewN | apply Kd.V_drew)); exact Kd.V_mono (Kd.V_far (p := ⟨gb1313, 2, none⟩) (Kd.V_far (p := ⟨gb1313, 1, none⟩) (Kd.V_far (p := ⟨gb1313, 0, none⟩) (Kd.V_mono HO_5.out (fun k_ hk => (⟨hk, hk.2⟩ : _ ∧ k_ ≠ gb1313))) (fun _ hk => hk.2) (.int .i64 ((rd_T148 l0 x10_1).f0))) (fun _ hk => hk.2) (.int .i64 ((rd_T148 l0 x10_1).f1))) (fun _ hk => hk.2) (.int .i64 ((rd_T148 l0 x10_1).f2))) (fun _ hk => hk.1)))⟩; have n1_ : Aside0 (w30.heap[gb1313]? = some (.cells #[.int .i64 ((rd_T148 l0 x10_1).f0), .int .i64 ((rd_T148 l0 x10_1).f1), .int .i64 ((rd_T148 l0 x10_1).f2)] 148 (0, 0))) := ⟨(by rw [hw]; exact (by (with_reducible repeat (first | refine blk_drewN ?_ _ | refine blk_drew ?_ | refine blk_alloc ?_ _)); refine blk_put (cs := #[.int .i64 ((rd_T148 l0 x10_1).f0), .int .i64 ((rd_T148 l0 x10_1).f1), .int .i64 0]) ?_ 2 _ rfl; (with_reducible repeat (first | refine blk_drewN ?_ _ | refine blk_drew ?_ | refine blk_alloc ?_ _)); refine blk_put (cs := #[.int .i64 ((rd_T148 l0 x10_1).f0), .int .i64 0, .int .i64 0]) ?_ 1 _ rfl; (with_reducible repeat (first | refine blk_drewN ?_ _ | refine blk_drew ?_ | refine blk_alloc ?_ _)); refine blk_put (cs := #[.int .i64 0, .int .i64 0, .int .i64 0]) ?_ 0 _ rfl; (with_reducible repeat (first | refine blk_drewN ?_ _ | refine blk_drew ?_ | refine blk_alloc ?_ _)); exact BK1313.out))⟩; have n2_ : Aside0 (Below w.heap.size w w30) := ⟨(by rw [hw]; exact (hB HB))⟩; clear hw; clear HO_5; clear BK1313; clear HB; have HO_5 := n0_; have BK1313 := n1_; have HB := n2_; clear n0_ n1_ n2_; have hcz31_0 : w30.cell? ⟨gb1313, 0, none⟩ = some (.int .i64 ((rd_T148 l0 x10_1).f0)) := bc_ BK1313 0; have hcz31_1 : w30.cell? ⟨gb1313, 1, none⟩ = some (.int .i64 ((rd_T148 l0 x10_1).f1)) := bc_ BK1313 1; have hcz31_2 : w30.cell? ⟨gb1313, 2, none⟩ = some (.int .i64 ((rd_T148 l0 x10_1).f2)) := bc_ BK1313 2; have hfz31_0 := blk_frozen BK1313.out 0; have hfz31_1 := blk_frozen BK1313.out 1; have hfz31_2 := blk_frozen BK1313.out 2; obtain ⟨Ao32, co32, eo32⟩ := Kd.V_slice HO_5.out; subst eo32) | ((with_reducible refine gate_callee (f := 108) rfl ?_); refine goesL_ (some 29) rfl rfl Try.func108 (by kernel_rfl) rfl #[.slice Ao32 x5_1.length co32, .int .i64 ((rd_T148 l0 x10_1).f0)] rfl tm_ ?_; (with_reducible refine (spec_l1Put.calls k1 (fun k_ => ((w.heap.size ≤ k_) ∧ k_ ≠ gb1313)) _ _ x5_1 ((rd_T148 l0 x10_1).f0) t1320 _ ?side1 A27.out).mono ?_); (case side1 => exact HO_5.out); rintro e w33 ⟨v1321, rfl, ho0, hb⟩; refine ⟨_, rfl, ?_⟩; have HO1322 := Aside0.mk (Kd.V_lower (Kd.V_mono (ok' := fun k_ => (w.heap.size ≤ k_) ∧ k_ ≠ gb1313) ho0 (fun k_ hk_ => ⟨Or.elim hk_ (fun hs_ => hs_.1) (fun hn_ => (Nat.le_trans (below_size (hB HB)) hn_)), Or.elim hk_ (fun hs_ => hs_.2) (fun hn_ => (Kd.freshB (g := gb1313) (o := .cells #[.int .i64 ((rd_T148 l0 x10_1).f0), .int .i64 ((rd_T148 l0 x10_1).f1), .int .i64 ((rd_T148 l0 x10_1).f2)] 148 (0, 0)) (ba BK1313.out) k_ hn_))⟩)) (below_size (hB HB))); replace HO_5 := Aside0.mk (Kd.V_below (by (with_reducible repeat (first | apply Kd.V_alloc | apply Kd.V_drewN | apply Kd.V_drew)); exact HO_5.out) hb); replace BK1313 := bb_ BK1313 hb; replace HB := bst_ HB hb; clear hb ho0))
    go_roundg k1
    case measure => have := HK1.out; omega
    case rel => exact ⟨(t1320), (wrap64 (x10_1 + 1)), (by first | rfl | (simp; done) | (simp [*]; done)), H', ⟨by have := HK1.out; omega⟩, ⟨by (with_reducible repeat (first | apply Kd.V_alloc | apply Kd.V_drewN | apply Kd.V_drew)); exact Kd.V_mono HO1322.out (fun _ hk => hk.1)⟩, ⟨hB HB⟩⟩
   rw [if_pos c6] at H
   have c6b0 : (((rd_T148 l0 x10_1).f0) == a1) = true := beq_iff_eq.mpr c6
   have c6b1 : (((rd_T148 l0 x10_1).f0) != a1) = false := bne_eq_false_iff_eq.mpr c6
   clear c6
   replace H := Option.bind_eq_some_iff.mp H
   obtain ⟨t1314, A70, H⟩ := H
   replace H : (if ((rd_T148 l0 x10_1).f1) = a1 then ((spec_l1Put.f k1 t1314 ((rd_T148 l0 x10_1).f0)).bind fun t1317 => (spec_l8Near.l0 k1 a1 t1317 l0 (l0.length : Int) (wrap64 (x10_1 + 1)))) else (spec_l8Near.l0 k1 a1 t1314 l0 (l0.length : Int) (wrap64 (x10_1 + 1)))) = some r := H
   have A7 := Aside0.mk A70
   clear A70
   by_cases c8 : ((rd_T148 l0 x10_1).f1) = a1
   rotate_left
   ·rw [if_neg c8] at H
    have c8b0 : (((rd_T148 l0 x10_1).f1) == a1) = false := beq_eq_false_iff_ne.mpr c8
    have c8b1 : (((rd_T148 l0 x10_1).f1) != a1) = true := bne_iff_ne.mpr c8
    have H' := Aside0.mk H
    clear H
    have p1312 : 0 ≤ (x10_1 : Int) := of_decide_eq_true (by first | (with_reducible assumption) | assumption)
    have q1312 : x10_1 < (l0.length : Int) := of_decide_eq_true (by first | (with_reducible assumption) | assumption)
    obtain ⟨ad1312, e1312, hx1312_0, hx1312_1, hx1312_2⟩ := at_T148 HR0.out x10_1 p1312 q1312
    cases e1312
    replace hx1312_0 := (HB.out.cell (World.block_lt_of_cell? w _ hx1312_0)).trans hx1312_0
    replace hx1312_1 := (HB.out.cell (World.block_lt_of_cell? w _ hx1312_1)).trans hx1312_1
    replace hx1312_2 := (HB.out.cell (World.block_lt_of_cell? w _ hx1312_2)).trans hx1312_2
    replace p1312 := eq_true p1312
    replace q1312 := eq_true q1312
    go_wp2_with (first | ((with_reducible refine gate_dst (N := 7) rfl ?_); refine box_event ?hg (N := 7) ?hd (cs := #[.int .i64 0, .int .i64 0, .int .i64 0]) (t := 148) ?hr ?_; (case hd => rfl); (case hg => rfl); (case hr => first | (go_simp; done) | (go_simp; rfl)); intro gb1313 hg w19 hbox hb; have BK1313 := Aside0.mk (hbox); have GW1313 := gw_ hg HB; have GE1313 := gw_ hg HB; replace HO_5 := Aside0.mk (Kd.V_below (Kd.V_elderB (by (with_reducible repeat (first | apply Kd.V_alloc | apply Kd.V_drewN | apply Kd.V_drew)); exact HO_5.out) gb1313 (Nat.le_of_eq hg.symm)) hb); replace HB := bst_ HB hb; clear hb hbox hg; have hcz20_0 : w19.cell? ⟨gb1313, 0, none⟩ = some (.int .i64 0) := bc_ BK1313 0; have hcz20_1 : w19.cell? ⟨gb1313, 1, none⟩ = some (.int .i64 0) := bc_ BK1313 1; have hcz20_2 : w19.cell? ⟨gb1313, 2, none⟩ = some (.int .i64 0) := bc_ BK1313 2; have hfz20_0 := blk_frozen BK1313.out 0; have hfz20_1 := blk_frozen BK1313.out 1; have hfz20_2 := blk_frozen BK1313.out 2) | ((with_reducible refine gate_store (t := 148) (p := 7) rfl ?_); refine store_event (t := 148) (p := 7) (v := ?vo_w21) (w1 := (((w19.setCell ⟨gb1313, 0, none⟩ (.int .i64 ((rd_T148 l0 x10_1).f0))).setCell ⟨gb1313, 1, none⟩ (.int .i64 ((rd_T148 l0 x10_1).f1))).setCell ⟨gb1313, 2, none⟩ (.int .i64 ((rd_T148 l0 x10_1).f2)))) ?hg ?ho ?hn ?hr ?_; (case ho => rfl); (case hg => rfl); (case hn => rfl); (case hr => first | (go_simp; done) | (go_simp; rfl)); intro w21 hw; have n0_ : Aside0 (Kd.V (Kd.int .i64) 3 w21 w.heap.size (fun k_ => (w.heap.size ≤ k_) ∧ k_ ≠ gb1313) u5 x5_1) := ⟨(by rw [hw]; exact (by (with_reducible repeat (first | apply Kd.V_alloc | apply Kd.V_drewN | apply Kd.V_drew)); exact Kd.V_mono (Kd.V_far (p := ⟨gb1313, 2, none⟩) (Kd.V_far (p := ⟨gb1313, 1, none⟩) (Kd.V_far (p := ⟨gb1313, 0, none⟩) (Kd.V_mono HO_5.out (fun k_ hk => (⟨hk, hk.2⟩ : _ ∧ k_ ≠ gb1313))) (fun _ hk => hk.2) (.int .i64 ((rd_T148 l0 x10_1).f0))) (fun _ hk => hk.2) (.int .i64 ((rd_T148 l0 x10_1).f1))) (fun _ hk => hk.2) (.int .i64 ((rd_T148 l0 x10_1).f2))) (fun _ hk => hk.1)))⟩; have n1_ : Aside0 (w21.heap[gb1313]? = some (.cells #[.int .i64 ((rd_T148 l0 x10_1).f0), .int .i64 ((rd_T148 l0 x10_1).f1), .int .i64 ((rd_T148 l0 x10_1).f2)] 148 (0, 0))) := ⟨(by rw [hw]; exact (by (with_reducible repeat (first | refine blk_drewN ?_ _ | refine blk_drew ?_ | refine blk_alloc ?_ _)); refine blk_put (cs := #[.int .i64 ((rd_T148 l0 x10_1).f0), .int .i64 ((rd_T148 l0 x10_1).f1), .int .i64 0]) ?_ 2 _ rfl; (with_reducible repeat (first | refine blk_drewN ?_ _ | refine blk_drew ?_ | refine blk_alloc ?_ _)); refine blk_put (cs := #[.int .i64 ((rd_T148 l0 x10_1).f0), .int .i64 0, .int .i64 0]) ?_ 1 _ rfl; (with_reducible repeat (first | refine blk_drewN ?_ _ | refine blk_drew ?_ | refine blk_alloc ?_ _)); refine blk_put (cs := #[.int .i64 0, .int .i64 0, .int .i64 0]) ?_ 0 _ rfl; (with_reducible repeat (first | refine blk_drewN ?_ _ | refine blk_drew ?_ | refine blk_alloc ?_ _)); exact BK1313.out))⟩; have n2_ : Aside0 (Below w.heap.size w w21) := ⟨(by rw [hw]; exact (hB HB))⟩; clear hw; clear HO_5; clear BK1313; clear HB; have HO_5 := n0_; have BK1313 := n1_; have HB := n2_; clear n0_ n1_ n2_; have hcz22_0 : w21.cell? ⟨gb1313, 0, none⟩ = some (.int .i64 ((rd_T148 l0 x10_1).f0)) := bc_ BK1313 0; have hcz22_1 : w21.cell? ⟨gb1313, 1, none⟩ = some (.int .i64 ((rd_T148 l0 x10_1).f1)) := bc_ BK1313 1; have hcz22_2 : w21.cell? ⟨gb1313, 2, none⟩ = some (.int .i64 ((rd_T148 l0 x10_1).f2)) := bc_ BK1313 2; have hfz22_0 := blk_frozen BK1313.out 0; have hfz22_1 := blk_frozen BK1313.out 1; have hfz22_2 := blk_frozen BK1313.out 2; obtain ⟨Ao23, co23, eo23⟩ := Kd.V_slice HO_5.out; subst eo23) | ((with_reducible refine gate_callee (f := 108) rfl ?_); refine goesL_ (some 21) rfl rfl Try.func108 (by kernel_rfl) rfl #[.slice Ao23 x5_1.length co23, .int .i64 ((rd_T148 l0 x10_1).f1)] rfl tm_ ?_; (with_reducible refine (spec_l1Put.calls k1 (fun k_ => ((w.heap.size ≤ k_) ∧ k_ ≠ gb1313)) _ _ x5_1 ((rd_T148 l0 x10_1).f1) t1314 _ ?side1 A7.out).mono ?_); (case side1 => exact HO_5.out); rintro e w24 ⟨v1315, rfl, ho0, hb⟩; refine ⟨_, rfl, ?_⟩; have HO1316 := Aside0.mk (Kd.V_lower (Kd.V_mono (ok' := fun k_ => (w.heap.size ≤ k_) ∧ k_ ≠ gb1313) ho0 (fun k_ hk_ => ⟨Or.elim hk_ (fun hs_ => hs_.1) (fun hn_ => (Nat.le_trans (below_size (hB HB)) hn_)), Or.elim hk_ (fun hs_ => hs_.2) (fun hn_ => (Kd.freshB (g := gb1313) (o := .cells #[.int .i64 ((rd_T148 l0 x10_1).f0), .int .i64 ((rd_T148 l0 x10_1).f1), .int .i64 ((rd_T148 l0 x10_1).f2)] 148 (0, 0)) (ba BK1313.out) k_ hn_))⟩)) (below_size (hB HB))); replace HO_5 := Aside0.mk (Kd.V_below (by (with_reducible repeat (first | apply Kd.V_alloc | apply Kd.V_drewN | apply Kd.V_drew)); exact HO_5.out) hb); replace BK1313 := bb_ BK1313 hb; replace HB := bst_ HB hb; clear hb ho0; have hcz25_0 : w24.cell? ⟨gb1313, 0, none⟩ = some (.int .i64 ((rd_T148 l0 x10_1).f0)) := bc_ BK1313 0; have hcz25_1 : w24.cell? ⟨gb1313, 1, none⟩ = some (.int .i64 ((rd_T148 l0 x10_1).f1)) := bc_ BK1313 1; have hcz25_2 : w24.cell? ⟨gb1313, 2, none⟩ = some (.int .i64 ((rd_T148 l0 x10_1).f2)) := bc_ BK1313 2; have hfz25_0 := blk_frozen BK1313.out 0; have hfz25_1 := blk_frozen BK1313.out 1; have hfz25_2 := blk_frozen BK1313.out 2))
    go_roundg k1
    case measure => have := HK1.out; omega
    case rel => exact ⟨(t1314), (wrap64 (x10_1 + 1)), (by first | rfl | (simp; done) | (simp [*]; done)), H', ⟨by have := HK1.out; omega⟩, ⟨by (with_reducible repeat (first | apply Kd.V_alloc | apply Kd.V_drewN | apply Kd.V_drew)); exact Kd.V_mono HO1316.out (fun _ hk => hk.1)⟩, ⟨hB HB⟩⟩
   rw [if_pos c8] at H
   have c8b0 : (((rd_T148 l0 x10_1).f1) == a1) = true := beq_iff_eq.mpr c8
   have c8b1 : (((rd_T148 l0 x10_1).f1) != a1) = false := bne_eq_false_iff_eq.mpr c8
   clear c8
   replace H := Option.bind_eq_some_iff.mp H
   obtain ⟨t1317, A90, H⟩ := H
   replace H : (spec_l8Near.l0 k1 a1 t1317 l0 (l0.length : Int) (wrap64 (x10_1 + 1))) = some r := H
   have A9 := Aside0.mk A90
   clear A90
   have H' := Aside0.mk H
   clear H
   have p1312 : 0 ≤ (x10_1 : Int) := of_decide_eq_true (by first | (with_reducible assumption) | assumption)
   have q1312 : x10_1 < (l0.length : Int) := of_decide_eq_true (by first | (with_reducible assumption) | assumption)
   obtain ⟨ad1312, e1312, hx1312_0, hx1312_1, hx1312_2⟩ := at_T148 HR0.out x10_1 p1312 q1312
   cases e1312
   replace hx1312_0 := (HB.out.cell (World.block_lt_of_cell? w _ hx1312_0)).trans hx1312_0
   replace hx1312_1 := (HB.out.cell (World.block_lt_of_cell? w _ hx1312_1)).trans hx1312_1
   replace hx1312_2 := (HB.out.cell (World.block_lt_of_cell? w _ hx1312_2)).trans hx1312_2
   replace p1312 := eq_true p1312
   replace q1312 := eq_true q1312
   go_wp2_with (first | ((with_reducible refine gate_dst (N := 7) rfl ?_); refine box_event ?hg (N := 7) ?hd (cs := #[.int .i64 0, .int .i64 0, .int .i64 0]) (t := 148) ?hr ?_; (case hd => rfl); (case hg => rfl); (case hr => first | (go_simp; done) | (go_simp; rfl)); intro gb1313 hg w10 hbox hb; have BK1313 := Aside0.mk (hbox); have GW1313 := gw_ hg HB; have GE1313 := gw_ hg HB; replace HO_5 := Aside0.mk (Kd.V_below (Kd.V_elderB (by (with_reducible repeat (first | apply Kd.V_alloc | apply Kd.V_drewN | apply Kd.V_drew)); exact HO_5.out) gb1313 (Nat.le_of_eq hg.symm)) hb); replace HB := bst_ HB hb; clear hb hbox hg; have hcz11_0 : w10.cell? ⟨gb1313, 0, none⟩ = some (.int .i64 0) := bc_ BK1313 0; have hcz11_1 : w10.cell? ⟨gb1313, 1, none⟩ = some (.int .i64 0) := bc_ BK1313 1; have hcz11_2 : w10.cell? ⟨gb1313, 2, none⟩ = some (.int .i64 0) := bc_ BK1313 2; have hfz11_0 := blk_frozen BK1313.out 0; have hfz11_1 := blk_frozen BK1313.out 1; have hfz11_2 := blk_frozen BK1313.out 2) | ((with_reducible refine gate_store (t := 148) (p := 7) rfl ?_); refine store_event (t := 148) (p := 7) (v := ?vo_w12) (w1 := (((w10.setCell ⟨gb1313, 0, none⟩ (.int .i64 ((rd_T148 l0 x10_1).f0))).setCell ⟨gb1313, 1, none⟩ (.int .i64 ((rd_T148 l0 x10_1).f1))).setCell ⟨gb1313, 2, none⟩ (.int .i64 ((rd_T148 l0 x10_1).f2)))) ?hg ?ho ?hn ?hr ?_; (case ho => rfl); (case hg => rfl); (case hn => rfl); (case hr => first | (go_simp; done) | (go_simp; rfl)); intro w12 hw; have n0_ : Aside0 (Kd.V (Kd.int .i64) 3 w12 w.heap.size (fun k_ => (w.heap.size ≤ k_) ∧ k_ ≠ gb1313) u5 x5_1) := ⟨(by rw [hw]; exact (by (with_reducible repeat (first | apply Kd.V_alloc | apply Kd.V_drewN | apply Kd.V_drew)); exact Kd.V_mono (Kd.V_far (p := ⟨gb1313, 2, none⟩) (Kd.V_far (p := ⟨gb1313, 1, none⟩) (Kd.V_far (p := ⟨gb1313, 0, none⟩) (Kd.V_mono HO_5.out (fun k_ hk => (⟨hk, hk.2⟩ : _ ∧ k_ ≠ gb1313))) (fun _ hk => hk.2) (.int .i64 ((rd_T148 l0 x10_1).f0))) (fun _ hk => hk.2) (.int .i64 ((rd_T148 l0 x10_1).f1))) (fun _ hk => hk.2) (.int .i64 ((rd_T148 l0 x10_1).f2))) (fun _ hk => hk.1)))⟩; have n1_ : Aside0 (w12.heap[gb1313]? = some (.cells #[.int .i64 ((rd_T148 l0 x10_1).f0), .int .i64 ((rd_T148 l0 x10_1).f1), .int .i64 ((rd_T148 l0 x10_1).f2)] 148 (0, 0))) := ⟨(by rw [hw]; exact (by (with_reducible repeat (first | refine blk_drewN ?_ _ | refine blk_drew ?_ | refine blk_alloc ?_ _)); refine blk_put (cs := #[.int .i64 ((rd_T148 l0 x10_1).f0), .int .i64 ((rd_T148 l0 x10_1).f1), .int .i64 0]) ?_ 2 _ rfl; (with_reducible repeat (first | refine blk_drewN ?_ _ | refine blk_drew ?_ | refine blk_alloc ?_ _)); refine blk_put (cs := #[.int .i64 ((rd_T148 l0 x10_1).f0), .int .i64 0, .int .i64 0]) ?_ 1 _ rfl; (with_reducible repeat (first | refine blk_drewN ?_ _ | refine blk_drew ?_ | refine blk_alloc ?_ _)); refine blk_put (cs := #[.int .i64 0, .int .i64 0, .int .i64 0]) ?_ 0 _ rfl; (with_reducible repeat (first | refine blk_drewN ?_ _ | refine blk_drew ?_ | refine blk_alloc ?_ _)); exact BK1313.out))⟩; have n2_ : Aside0 (Below w.heap.size w w12) := ⟨(by rw [hw]; exact (hB HB))⟩; clear hw; clear HO_5; clear BK1313; clear HB; have HO_5 := n0_; have BK1313 := n1_; have HB := n2_; clear n0_ n1_ n2_; have hcz13_0 : w12.cell? ⟨gb1313, 0, none⟩ = some (.int .i64 ((rd_T148 l0 x10_1).f0)) := bc_ BK1313 0; have hcz13_1 : w12.cell? ⟨gb1313, 1, none⟩ = some (.int .i64 ((rd_T148 l0 x10_1).f1)) := bc_ BK1313 1; have hcz13_2 : w12.cell? ⟨gb1313, 2, none⟩ = some (.int .i64 ((rd_T148 l0 x10_1).f2)) := bc_ BK1313 2; have hfz13_0 := blk_frozen BK1313.out 0; have hfz13_1 := blk_frozen BK1313.out 1; have hfz13_2 := blk_frozen BK1313.out 2; obtain ⟨Ao14, co14, eo14⟩ := Kd.V_slice HO_5.out; subst eo14) | ((with_reducible refine gate_callee (f := 108) rfl ?_); refine goesL_ (some 21) rfl rfl Try.func108 (by kernel_rfl) rfl #[.slice Ao14 x5_1.length co14, .int .i64 ((rd_T148 l0 x10_1).f1)] rfl tm_ ?_; (with_reducible refine (spec_l1Put.calls k1 (fun k_ => ((w.heap.size ≤ k_) ∧ k_ ≠ gb1313)) _ _ x5_1 ((rd_T148 l0 x10_1).f1) t1314 _ ?side1 A7.out).mono ?_); (case side1 => exact HO_5.out); rintro e w15 ⟨v1315, rfl, ho0, hb⟩; refine ⟨_, rfl, ?_⟩; have HO1316 := Aside0.mk (Kd.V_lower (Kd.V_mono (ok' := fun k_ => (w.heap.size ≤ k_) ∧ k_ ≠ gb1313) ho0 (fun k_ hk_ => ⟨Or.elim hk_ (fun hs_ => hs_.1) (fun hn_ => (Nat.le_trans (below_size (hB HB)) hn_)), Or.elim hk_ (fun hs_ => hs_.2) (fun hn_ => (Kd.freshB (g := gb1313) (o := .cells #[.int .i64 ((rd_T148 l0 x10_1).f0), .int .i64 ((rd_T148 l0 x10_1).f1), .int .i64 ((rd_T148 l0 x10_1).f2)] 148 (0, 0)) (ba BK1313.out) k_ hn_))⟩)) (below_size (hB HB))); replace HO_5 := Aside0.mk (Kd.V_below (by (with_reducible repeat (first | apply Kd.V_alloc | apply Kd.V_drewN | apply Kd.V_drew)); exact HO_5.out) hb); replace BK1313 := bb_ BK1313 hb; replace HB := bst_ HB hb; clear hb ho0; have hcz16_0 : w15.cell? ⟨gb1313, 0, none⟩ = some (.int .i64 ((rd_T148 l0 x10_1).f0)) := bc_ BK1313 0; have hcz16_1 : w15.cell? ⟨gb1313, 1, none⟩ = some (.int .i64 ((rd_T148 l0 x10_1).f1)) := bc_ BK1313 1; have hcz16_2 : w15.cell? ⟨gb1313, 2, none⟩ = some (.int .i64 ((rd_T148 l0 x10_1).f2)) := bc_ BK1313 2; have hfz16_0 := blk_frozen BK1313.out 0; have hfz16_1 := blk_frozen BK1313.out 1; have hfz16_2 := blk_frozen BK1313.out 2; obtain ⟨Ao17, co17, eo17⟩ := Kd.V_slice HO1316.out; subst eo17) | ((with_reducible refine gate_callee (f := 108) rfl ?_); refine goesL_ (some 29) rfl rfl Try.func108 (by kernel_rfl) rfl #[.slice Ao17 t1314.length co17, .int .i64 ((rd_T148 l0 x10_1).f0)] rfl tm_ ?_; (with_reducible refine (spec_l1Put.calls k1 (fun k_ => ((w.heap.size ≤ k_) ∧ k_ ≠ gb1313)) _ _ t1314 ((rd_T148 l0 x10_1).f0) t1317 _ ?side1 A9.out).mono ?_); (case side1 => exact HO1316.out); rintro e w18 ⟨v1318, rfl, ho0, hb⟩; refine ⟨_, rfl, ?_⟩; have HO1319 := Aside0.mk (Kd.V_lower (Kd.V_mono (ok' := fun k_ => (w.heap.size ≤ k_) ∧ k_ ≠ gb1313) ho0 (fun k_ hk_ => ⟨Or.elim hk_ (fun hs_ => hs_.1) (fun hn_ => (Nat.le_trans (below_size (hB HB)) hn_)), Or.elim hk_ (fun hs_ => hs_.2) (fun hn_ => (Kd.freshB (g := gb1313) (o := .cells #[.int .i64 ((rd_T148 l0 x10_1).f0), .int .i64 ((rd_T148 l0 x10_1).f1), .int .i64 ((rd_T148 l0 x10_1).f2)] 148 (0, 0)) (ba BK1313.out) k_ hn_))⟩)) (below_size (hB HB))); replace HO_5 := Aside0.mk (Kd.V_below (by (with_reducible repeat (first | apply Kd.V_alloc | apply Kd.V_drewN | apply Kd.V_drew)); exact HO_5.out) hb); replace HO1316 := Aside0.mk (Kd.V_below (by (with_reducible repeat (first | apply Kd.V_alloc | apply Kd.V_drewN | apply Kd.V_drew)); exact HO1316.out) hb); replace BK1313 := bb_ BK1313 hb; replace HB := bst_ HB hb; clear hb ho0))
   go_roundg k1
   case measure => have := HK1.out; omega
   case rel => exact ⟨(t1317), (wrap64 (x10_1 + 1)), (by first | rfl | (simp; done) | (simp [*]; done)), H', ⟨by have := HK1.out; omega⟩, ⟨by (with_reducible repeat (first | apply Kd.V_alloc | apply Kd.V_drewN | apply Kd.V_drew)); exact Kd.V_mono HO1319.out (fun _ hk => hk.1)⟩, ⟨hB HB⟩⟩

def spec_l9Edge.l0 : Nat → Int → Int → List (S148) → Int → Int → Option (Int)
 | 0, _, _, _, _, _ => none
 | k + 1, x1, x2, x9, x10, x11 => if x11 < x10 then (if 0 ≤ x11 then (if x11 < (x9.length : Int) then (if ((rd_T148 x9 x11).f0) = x1 then (if ((rd_T148 x9 x11).f1) = x2 then (some ((rd_T148 x9 x11).f2)) else (if ((rd_T148 x9 x11).f0) = x2 then (if ((rd_T148 x9 x11).f1) = x1 then (some ((rd_T148 x9 x11).f2)) else (spec_l9Edge.l0 k x1 x2 x9 x10 (wrap64 (x11 + 1)))) else (spec_l9Edge.l0 k x1 x2 x9 x10 (wrap64 (x11 + 1))))) else (if ((rd_T148 x9 x11).f0) = x2 then (if ((rd_T148 x9 x11).f1) = x1 then (some ((rd_T148 x9 x11).f2)) else (spec_l9Edge.l0 k x1 x2 x9 x10 (wrap64 (x11 + 1)))) else (spec_l9Edge.l0 k x1 x2 x9 x10 (wrap64 (x11 + 1))))) else (none)) else (none)) else (some 0)
def spec_l9Edge.f (k : Nat) (l0 : List (S148)) (a1 : Int) (a2 : Int) : Option (Int) := spec_l9Edge.l0 k a1 a2 l0 (l0.length : Int) 0
theorem spec_l9Edge.mono_l : ∀ k, (∀ y0 y1 y2 y3 y4, LeO (spec_l9Edge.l0 k y0 y1 y2 y3 y4) (spec_l9Edge.l0 (k + 1) y0 y1 y2 y3 y4))
 | 0 => fun _ _ _ _ _ r h => by simp [spec_l9Edge.l0] at h
 | k + 1 => by
  have ih0 := spec_l9Edge.mono_l k
  ·intro y0 y1 y2 y3 y4
   unfold spec_l9Edge.l0
   repeat' first
   | (with_reducible exact ih0 _ _ _ _ _)
   | (with_reducible exact LeO.refl _)
   | (with_reducible exact LeO.none _)
   | (with_reducible refine LeO.ite ?_ ?_)
   | (with_reducible refine LeO.bind ?_ (fun _ => ?_))
theorem spec_l9Edge.mono : ∀ a0 a1 a2 k, LeO (spec_l9Edge.f k a0 a1 a2) (spec_l9Edge.f (k + 1) a0 a1 a2) := by
 intro a0 a1 a2 k
 have ih0 := spec_l9Edge.mono_l k
 unfold spec_l9Edge.f
 repeat' first
   | (with_reducible exact ih0 _ _ _ _ _)
   | (with_reducible exact LeO.refl _)
   | (with_reducible exact LeO.none _)
   | (with_reducible refine LeO.ite ?_ ?_)
   | (with_reducible refine LeO.bind ?_ (fun _ => ?_))
set_option maxHeartbeats 8000000 in
set_option maxRecDepth 100000 in
theorem spec_l9Edge.calls (k : Nat) (A0 : Option Addr) (c0 : Nat) (l0 : List (S148)) (a1 : Int) (a2 : Int) (r : Int) (w : World) (hr0 : Kd.C k148 w A0 l0.length l0) (hc0 : l0.length ≤ c0) (h : spec_l9Edge.f k l0 a1 a2 = some r) :
  Calls Try.prog 157 #[.slice A0 l0.length c0, .int .i64 a1, .int .i64 a2] w fun e w' => e = .returned (.int .i64 r) ∧ Below w.heap.size w w' := by
 have hu148 := Try.underlying148
 have HR0 := Aside0.mk hr0
 have HC0 := Aside0.mk hc0
 clear hr0 hc0
 have HB := Aside0.mk (Below.refl w.heap.size w)
 have H : (spec_l9Edge.l0 k a1 a2 l0 (l0.length : Int) 0) = some r := h
 clear h
 have H' := Aside0.mk H
 clear H
 go_enter Try.func157, Try.ntmps157
 go_wp2
 go_loopg [11] k (fun kq v11 w' => ∃ (x11_1 : Int), v11 = .int .i64 x11_1 ∧ Aside0 (spec_l9Edge.l0 kq a1 a2 l0 (l0.length : Int) x11_1 = some r) ∧ Aside0 (kq ≤ k) ∧ Aside0 (Below w.heap.size w w'))
 case atStart => exact ⟨(0), (by first | rfl | (simp; done) | (simp [*]; done)), H', ⟨Nat.le_refl _⟩, ⟨hB HB⟩⟩
 case round =>
  clear H'
  obtain ⟨x11_1, rfl, HA, HK1, HB⟩ := hrel
  cases gk with
  | zero => exact absurd HA.out (by simp [spec_l9Edge.l0])
  | succ k1 =>
   have H := HA.out
   clear HA
   simp only [spec_l9Edge.l0] at H
   by_cases c4 : x11_1 < (l0.length : Int)
   rotate_left
   ·rw [if_neg c4] at H
    have c4b0 : decide (x11_1 < (l0.length : Int)) = false := decide_eq_false c4
    clear c4
    obtain rfl := Option.some.inj H
    go_wp2
    go_ret
    exact ⟨by first | rfl | (simp [errW_none, errW_some] <;> rfl) | (simp [*, errW_none, errW_some] <;> rfl), by repeat (first | (with_reducible first | exact HB.out | apply below_alloc | apply pw_below_drewN | apply below_drew1) | exact HB.out)⟩
   rw [if_pos c4] at H
   have c4b0 : decide (x11_1 < (l0.length : Int)) = true := decide_eq_true c4
   clear c4
   by_cases c5 : 0 ≤ x11_1
   rotate_left
   ·rw [if_neg c5] at H
    exact absurd H (by simp)
   rw [if_pos c5] at H
   have c5b0 : decide (0 ≤ x11_1) = true := decide_eq_true c5
   clear c5
   by_cases c6 : x11_1 < (l0.length : Int)
   rotate_left
   ·rw [if_neg c6] at H
    exact absurd H (by simp)
   rw [if_pos c6] at H
   have c6b0 : decide (x11_1 < (l0.length : Int)) = true := decide_eq_true c6
   clear c6
   by_cases c7 : ((rd_T148 l0 x11_1).f0) = a1
   rotate_left
   ·rw [if_neg c7] at H
    have c7b0 : (((rd_T148 l0 x11_1).f0) == a1) = false := beq_eq_false_iff_ne.mpr c7
    have c7b1 : (((rd_T148 l0 x11_1).f0) != a1) = true := bne_iff_ne.mpr c7
    by_cases c19 : ((rd_T148 l0 x11_1).f0) = a2
    rotate_left
    ·rw [if_neg c19] at H
     have c19b0 : (((rd_T148 l0 x11_1).f0) == a2) = false := beq_eq_false_iff_ne.mpr c19
     have c19b1 : (((rd_T148 l0 x11_1).f0) != a2) = true := bne_iff_ne.mpr c19
     have H' := Aside0.mk H
     clear H
     have p1323 : 0 ≤ (x11_1 : Int) := of_decide_eq_true (by first | (with_reducible assumption) | assumption)
     have q1323 : x11_1 < (l0.length : Int) := of_decide_eq_true (by first | (with_reducible assumption) | assumption)
     obtain ⟨ad1323, e1323, hx1323_0, hx1323_1, hx1323_2⟩ := at_T148 HR0.out x11_1 p1323 q1323
     cases e1323
     replace hx1323_0 := (HB.out.cell (World.block_lt_of_cell? w _ hx1323_0)).trans hx1323_0
     replace hx1323_1 := (HB.out.cell (World.block_lt_of_cell? w _ hx1323_1)).trans hx1323_1
     replace hx1323_2 := (HB.out.cell (World.block_lt_of_cell? w _ hx1323_2)).trans hx1323_2
     replace p1323 := eq_true p1323
     replace q1323 := eq_true q1323
     go_wp2_with (first | ((with_reducible refine gate_dst (N := 8) rfl ?_); refine box_event ?hg (N := 8) ?hd (cs := #[.int .i64 0, .int .i64 0, .int .i64 0]) (t := 148) ?hr ?_; (case hd => rfl); (case hg => rfl); (case hr => first | (go_simp; done) | (go_simp; rfl)); intro gb1324 hg w25 hbox hb; have BK1324 := Aside0.mk (hbox); have GW1324 := gw_ hg HB; have GE1324 := gw_ hg HB; replace HB := bst_ HB hb; clear hb hbox hg; have hcz26_0 : w25.cell? ⟨gb1324, 0, none⟩ = some (.int .i64 0) := bc_ BK1324 0; have hcz26_1 : w25.cell? ⟨gb1324, 1, none⟩ = some (.int .i64 0) := bc_ BK1324 1; have hcz26_2 : w25.cell? ⟨gb1324, 2, none⟩ = some (.int .i64 0) := bc_ BK1324 2; have hfz26_0 := blk_frozen BK1324.out 0; have hfz26_1 := blk_frozen BK1324.out 1; have hfz26_2 := blk_frozen BK1324.out 2))
     go_roundg k1
     case measure => have := HK1.out; omega
     case rel => exact ⟨(wrap64 (x11_1 + 1)), (by first | rfl | (simp; done) | (simp [*]; done)), H', ⟨by have := HK1.out; omega⟩, ⟨hB HB⟩⟩
    rw [if_pos c19] at H
    have c19b0 : (((rd_T148 l0 x11_1).f0) == a2) = true := beq_iff_eq.mpr c19
    have c19b1 : (((rd_T148 l0 x11_1).f0) != a2) = false := bne_eq_false_iff_eq.mpr c19
    clear c19
    by_cases c20 : ((rd_T148 l0 x11_1).f1) = a1
    rotate_left
    ·rw [if_neg c20] at H
     have c20b0 : (((rd_T148 l0 x11_1).f1) == a1) = false := beq_eq_false_iff_ne.mpr c20
     have c20b1 : (((rd_T148 l0 x11_1).f1) != a1) = true := bne_iff_ne.mpr c20
     have H' := Aside0.mk H
     clear H
     have p1323 : 0 ≤ (x11_1 : Int) := of_decide_eq_true (by first | (with_reducible assumption) | assumption)
     have q1323 : x11_1 < (l0.length : Int) := of_decide_eq_true (by first | (with_reducible assumption) | assumption)
     obtain ⟨ad1323, e1323, hx1323_0, hx1323_1, hx1323_2⟩ := at_T148 HR0.out x11_1 p1323 q1323
     cases e1323
     replace hx1323_0 := (HB.out.cell (World.block_lt_of_cell? w _ hx1323_0)).trans hx1323_0
     replace hx1323_1 := (HB.out.cell (World.block_lt_of_cell? w _ hx1323_1)).trans hx1323_1
     replace hx1323_2 := (HB.out.cell (World.block_lt_of_cell? w _ hx1323_2)).trans hx1323_2
     replace p1323 := eq_true p1323
     replace q1323 := eq_true q1323
     go_wp2_with (first | ((with_reducible refine gate_dst (N := 8) rfl ?_); refine box_event ?hg (N := 8) ?hd (cs := #[.int .i64 0, .int .i64 0, .int .i64 0]) (t := 148) ?hr ?_; (case hd => rfl); (case hg => rfl); (case hr => first | (go_simp; done) | (go_simp; rfl)); intro gb1324 hg w23 hbox hb; have BK1324 := Aside0.mk (hbox); have GW1324 := gw_ hg HB; have GE1324 := gw_ hg HB; replace HB := bst_ HB hb; clear hb hbox hg; have hcz24_0 : w23.cell? ⟨gb1324, 0, none⟩ = some (.int .i64 0) := bc_ BK1324 0; have hcz24_1 : w23.cell? ⟨gb1324, 1, none⟩ = some (.int .i64 0) := bc_ BK1324 1; have hcz24_2 : w23.cell? ⟨gb1324, 2, none⟩ = some (.int .i64 0) := bc_ BK1324 2; have hfz24_0 := blk_frozen BK1324.out 0; have hfz24_1 := blk_frozen BK1324.out 1; have hfz24_2 := blk_frozen BK1324.out 2))
     go_roundg k1
     case measure => have := HK1.out; omega
     case rel => exact ⟨(wrap64 (x11_1 + 1)), (by first | rfl | (simp; done) | (simp [*]; done)), H', ⟨by have := HK1.out; omega⟩, ⟨hB HB⟩⟩
    rw [if_pos c20] at H
    have c20b0 : (((rd_T148 l0 x11_1).f1) == a1) = true := beq_iff_eq.mpr c20
    have c20b1 : (((rd_T148 l0 x11_1).f1) != a1) = false := bne_eq_false_iff_eq.mpr c20
    clear c20
    obtain rfl := Option.some.inj H
    have p1323 : 0 ≤ (x11_1 : Int) := of_decide_eq_true (by first | (with_reducible assumption) | assumption)
    have q1323 : x11_1 < (l0.length : Int) := of_decide_eq_true (by first | (with_reducible assumption) | assumption)
    obtain ⟨ad1323, e1323, hx1323_0, hx1323_1, hx1323_2⟩ := at_T148 HR0.out x11_1 p1323 q1323
    cases e1323
    replace hx1323_0 := (HB.out.cell (World.block_lt_of_cell? w _ hx1323_0)).trans hx1323_0
    replace hx1323_1 := (HB.out.cell (World.block_lt_of_cell? w _ hx1323_1)).trans hx1323_1
    replace hx1323_2 := (HB.out.cell (World.block_lt_of_cell? w _ hx1323_2)).trans hx1323_2
    replace p1323 := eq_true p1323
    replace q1323 := eq_true q1323
    go_wp2_with (first | ((with_reducible refine gate_dst (N := 8) rfl ?_); refine box_event ?hg (N := 8) ?hd (cs := #[.int .i64 0, .int .i64 0, .int .i64 0]) (t := 148) ?hr ?_; (case hd => rfl); (case hg => rfl); (case hr => first | (go_simp; done) | (go_simp; rfl)); intro gb1324 hg w21 hbox hb; have BK1324 := Aside0.mk (hbox); have GW1324 := gw_ hg HB; have GE1324 := gw_ hg HB; replace HB := bst_ HB hb; clear hb hbox hg; have hcz22_0 : w21.cell? ⟨gb1324, 0, none⟩ = some (.int .i64 0) := bc_ BK1324 0; have hcz22_1 : w21.cell? ⟨gb1324, 1, none⟩ = some (.int .i64 0) := bc_ BK1324 1; have hcz22_2 : w21.cell? ⟨gb1324, 2, none⟩ = some (.int .i64 0) := bc_ BK1324 2; have hfz22_0 := blk_frozen BK1324.out 0; have hfz22_1 := blk_frozen BK1324.out 1; have hfz22_2 := blk_frozen BK1324.out 2))
    go_ret
    exact ⟨by first | rfl | (simp [errW_none, errW_some] <;> rfl) | (simp [*, errW_none, errW_some] <;> rfl), by repeat (first | (with_reducible first | exact HB.out | apply below_alloc | apply pw_below_drewN | apply below_drew1 | refine below_set ?_ GE1324.out) | exact HB.out)⟩
   rw [if_pos c7] at H
   have c7b0 : (((rd_T148 l0 x11_1).f0) == a1) = true := beq_iff_eq.mpr c7
   have c7b1 : (((rd_T148 l0 x11_1).f0) != a1) = false := bne_eq_false_iff_eq.mpr c7
   clear c7
   by_cases c8 : ((rd_T148 l0 x11_1).f1) = a2
   ·rw [if_pos c8] at H
    have c8b0 : (((rd_T148 l0 x11_1).f1) == a2) = true := beq_iff_eq.mpr c8
    have c8b1 : (((rd_T148 l0 x11_1).f1) != a2) = false := bne_eq_false_iff_eq.mpr c8
    clear c8
    obtain rfl := Option.some.inj H
    have p1323 : 0 ≤ (x11_1 : Int) := of_decide_eq_true (by first | (with_reducible assumption) | assumption)
    have q1323 : x11_1 < (l0.length : Int) := of_decide_eq_true (by first | (with_reducible assumption) | assumption)
    obtain ⟨ad1323, e1323, hx1323_0, hx1323_1, hx1323_2⟩ := at_T148 HR0.out x11_1 p1323 q1323
    cases e1323
    replace hx1323_0 := (HB.out.cell (World.block_lt_of_cell? w _ hx1323_0)).trans hx1323_0
    replace hx1323_1 := (HB.out.cell (World.block_lt_of_cell? w _ hx1323_1)).trans hx1323_1
    replace hx1323_2 := (HB.out.cell (World.block_lt_of_cell? w _ hx1323_2)).trans hx1323_2
    replace p1323 := eq_true p1323
    replace q1323 := eq_true q1323
    go_wp2_with (first | ((with_reducible refine gate_dst (N := 8) rfl ?_); refine box_event ?hg (N := 8) ?hd (cs := #[.int .i64 0, .int .i64 0, .int .i64 0]) (t := 148) ?hr ?_; (case hd => rfl); (case hg => rfl); (case hr => first | (go_simp; done) | (go_simp; rfl)); intro gb1324 hg w9 hbox hb; have BK1324 := Aside0.mk (hbox); have GW1324 := gw_ hg HB; have GE1324 := gw_ hg HB; replace HB := bst_ HB hb; clear hb hbox hg; have hcz10_0 : w9.cell? ⟨gb1324, 0, none⟩ = some (.int .i64 0) := bc_ BK1324 0; have hcz10_1 : w9.cell? ⟨gb1324, 1, none⟩ = some (.int .i64 0) := bc_ BK1324 1; have hcz10_2 : w9.cell? ⟨gb1324, 2, none⟩ = some (.int .i64 0) := bc_ BK1324 2; have hfz10_0 := blk_frozen BK1324.out 0; have hfz10_1 := blk_frozen BK1324.out 1; have hfz10_2 := blk_frozen BK1324.out 2))
    go_ret
    exact ⟨by first | rfl | (simp [errW_none, errW_some] <;> rfl) | (simp [*, errW_none, errW_some] <;> rfl), by repeat (first | (with_reducible first | exact HB.out | apply below_alloc | apply pw_below_drewN | apply below_drew1 | refine below_set ?_ GE1324.out) | exact HB.out)⟩
   rw [if_neg c8] at H
   have c8b0 : (((rd_T148 l0 x11_1).f1) == a2) = false := beq_eq_false_iff_ne.mpr c8
   have c8b1 : (((rd_T148 l0 x11_1).f1) != a2) = true := bne_iff_ne.mpr c8
   by_cases c11 : ((rd_T148 l0 x11_1).f0) = a2
   rotate_left
   ·rw [if_neg c11] at H
    have c11b0 : (((rd_T148 l0 x11_1).f0) == a2) = false := beq_eq_false_iff_ne.mpr c11
    have c11b1 : (((rd_T148 l0 x11_1).f0) != a2) = true := bne_iff_ne.mpr c11
    have H' := Aside0.mk H
    clear H
    have p1323 : 0 ≤ (x11_1 : Int) := of_decide_eq_true (by first | (with_reducible assumption) | assumption)
    have q1323 : x11_1 < (l0.length : Int) := of_decide_eq_true (by first | (with_reducible assumption) | assumption)
    obtain ⟨ad1323, e1323, hx1323_0, hx1323_1, hx1323_2⟩ := at_T148 HR0.out x11_1 p1323 q1323
    cases e1323
    replace hx1323_0 := (HB.out.cell (World.block_lt_of_cell? w _ hx1323_0)).trans hx1323_0
    replace hx1323_1 := (HB.out.cell (World.block_lt_of_cell? w _ hx1323_1)).trans hx1323_1
    replace hx1323_2 := (HB.out.cell (World.block_lt_of_cell? w _ hx1323_2)).trans hx1323_2
    replace p1323 := eq_true p1323
    replace q1323 := eq_true q1323
    go_wp2_with (first | ((with_reducible refine gate_dst (N := 8) rfl ?_); refine box_event ?hg (N := 8) ?hd (cs := #[.int .i64 0, .int .i64 0, .int .i64 0]) (t := 148) ?hr ?_; (case hd => rfl); (case hg => rfl); (case hr => first | (go_simp; done) | (go_simp; rfl)); intro gb1324 hg w17 hbox hb; have BK1324 := Aside0.mk (hbox); have GW1324 := gw_ hg HB; have GE1324 := gw_ hg HB; replace HB := bst_ HB hb; clear hb hbox hg; have hcz18_0 : w17.cell? ⟨gb1324, 0, none⟩ = some (.int .i64 0) := bc_ BK1324 0; have hcz18_1 : w17.cell? ⟨gb1324, 1, none⟩ = some (.int .i64 0) := bc_ BK1324 1; have hcz18_2 : w17.cell? ⟨gb1324, 2, none⟩ = some (.int .i64 0) := bc_ BK1324 2; have hfz18_0 := blk_frozen BK1324.out 0; have hfz18_1 := blk_frozen BK1324.out 1; have hfz18_2 := blk_frozen BK1324.out 2))
    go_roundg k1
    case measure => have := HK1.out; omega
    case rel => exact ⟨(wrap64 (x11_1 + 1)), (by first | rfl | (simp; done) | (simp [*]; done)), H', ⟨by have := HK1.out; omega⟩, ⟨hB HB⟩⟩
   rw [if_pos c11] at H
   have c11b0 : (((rd_T148 l0 x11_1).f0) == a2) = true := beq_iff_eq.mpr c11
   have c11b1 : (((rd_T148 l0 x11_1).f0) != a2) = false := bne_eq_false_iff_eq.mpr c11
   clear c11
   by_cases c12 : ((rd_T148 l0 x11_1).f1) = a1
   rotate_left
   ·rw [if_neg c12] at H
    have c12b0 : (((rd_T148 l0 x11_1).f1) == a1) = false := beq_eq_false_iff_ne.mpr c12
    have c12b1 : (((rd_T148 l0 x11_1).f1) != a1) = true := bne_iff_ne.mpr c12
    have H' := Aside0.mk H
    clear H
    have p1323 : 0 ≤ (x11_1 : Int) := of_decide_eq_true (by first | (with_reducible assumption) | assumption)
    have q1323 : x11_1 < (l0.length : Int) := of_decide_eq_true (by first | (with_reducible assumption) | assumption)
    obtain ⟨ad1323, e1323, hx1323_0, hx1323_1, hx1323_2⟩ := at_T148 HR0.out x11_1 p1323 q1323
    cases e1323
    replace hx1323_0 := (HB.out.cell (World.block_lt_of_cell? w _ hx1323_0)).trans hx1323_0
    replace hx1323_1 := (HB.out.cell (World.block_lt_of_cell? w _ hx1323_1)).trans hx1323_1
    replace hx1323_2 := (HB.out.cell (World.block_lt_of_cell? w _ hx1323_2)).trans hx1323_2
    replace p1323 := eq_true p1323
    replace q1323 := eq_true q1323
    go_wp2_with (first | ((with_reducible refine gate_dst (N := 8) rfl ?_); refine box_event ?hg (N := 8) ?hd (cs := #[.int .i64 0, .int .i64 0, .int .i64 0]) (t := 148) ?hr ?_; (case hd => rfl); (case hg => rfl); (case hr => first | (go_simp; done) | (go_simp; rfl)); intro gb1324 hg w15 hbox hb; have BK1324 := Aside0.mk (hbox); have GW1324 := gw_ hg HB; have GE1324 := gw_ hg HB; replace HB := bst_ HB hb; clear hb hbox hg; have hcz16_0 : w15.cell? ⟨gb1324, 0, none⟩ = some (.int .i64 0) := bc_ BK1324 0; have hcz16_1 : w15.cell? ⟨gb1324, 1, none⟩ = some (.int .i64 0) := bc_ BK1324 1; have hcz16_2 : w15.cell? ⟨gb1324, 2, none⟩ = some (.int .i64 0) := bc_ BK1324 2; have hfz16_0 := blk_frozen BK1324.out 0; have hfz16_1 := blk_frozen BK1324.out 1; have hfz16_2 := blk_frozen BK1324.out 2))
    go_roundg k1
    case measure => have := HK1.out; omega
    case rel => exact ⟨(wrap64 (x11_1 + 1)), (by first | rfl | (simp; done) | (simp [*]; done)), H', ⟨by have := HK1.out; omega⟩, ⟨hB HB⟩⟩
   rw [if_pos c12] at H
   have c12b0 : (((rd_T148 l0 x11_1).f1) == a1) = true := beq_iff_eq.mpr c12
   have c12b1 : (((rd_T148 l0 x11_1).f1) != a1) = false := bne_eq_false_iff_eq.mpr c12
   clear c12
   obtain rfl := Option.some.inj H
   have p1323 : 0 ≤ (x11_1 : Int) := of_decide_eq_true (by first | (with_reducible assumption) | assumption)
   have q1323 : x11_1 < (l0.length : Int) := of_decide_eq_true (by first | (with_reducible assumption) | assumption)
   obtain ⟨ad1323, e1323, hx1323_0, hx1323_1, hx1323_2⟩ := at_T148 HR0.out x11_1 p1323 q1323
   cases e1323
   replace hx1323_0 := (HB.out.cell (World.block_lt_of_cell? w _ hx1323_0)).trans hx1323_0
   replace hx1323_1 := (HB.out.cell (World.block_lt_of_cell? w _ hx1323_1)).trans hx1323_1
   replace hx1323_2 := (HB.out.cell (World.block_lt_of_cell? w _ hx1323_2)).trans hx1323_2
   replace p1323 := eq_true p1323
   replace q1323 := eq_true q1323
   go_wp2_with (first | ((with_reducible refine gate_dst (N := 8) rfl ?_); refine box_event ?hg (N := 8) ?hd (cs := #[.int .i64 0, .int .i64 0, .int .i64 0]) (t := 148) ?hr ?_; (case hd => rfl); (case hg => rfl); (case hr => first | (go_simp; done) | (go_simp; rfl)); intro gb1324 hg w13 hbox hb; have BK1324 := Aside0.mk (hbox); have GW1324 := gw_ hg HB; have GE1324 := gw_ hg HB; replace HB := bst_ HB hb; clear hb hbox hg; have hcz14_0 : w13.cell? ⟨gb1324, 0, none⟩ = some (.int .i64 0) := bc_ BK1324 0; have hcz14_1 : w13.cell? ⟨gb1324, 1, none⟩ = some (.int .i64 0) := bc_ BK1324 1; have hcz14_2 : w13.cell? ⟨gb1324, 2, none⟩ = some (.int .i64 0) := bc_ BK1324 2; have hfz14_0 := blk_frozen BK1324.out 0; have hfz14_1 := blk_frozen BK1324.out 1; have hfz14_2 := blk_frozen BK1324.out 2))
   go_ret
   exact ⟨by first | rfl | (simp [errW_none, errW_some] <;> rfl) | (simp [*, errW_none, errW_some] <;> rfl), by repeat (first | (with_reducible first | exact HB.out | apply below_alloc | apply pw_below_drewN | apply below_drew1 | refine below_set ?_ GE1324.out) | exact HB.out)⟩

end Go.Proofs.Ytfkjnpgpofcinaa.P
