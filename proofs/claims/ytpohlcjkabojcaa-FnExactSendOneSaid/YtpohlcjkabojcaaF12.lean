import Derived.Test.YtpohlcjkabojcaaF0
namespace Go.Proofs.Ytpohlcjkabojcaa.P
open Go.RowKit Go.Proofs.YtpohlcjkabojcaaW.PrintWords Go.Proofs.YtpohlcjkabojcaaW.PrintLast Go.Proofs.YtpohlcjkabojcaaW.PrintMore
attribute [local go_sem] max2_int min2_int max_two min_two max_three min_three max_four min_four   -- for this text's walks alone
set_option linter.unusedVariables false
set_option linter.unusedSimpArgs false

def impl_relaxed.l0 : Nat → List Int → List Int → List (S86) → Int → Int → Option (List Int)
 | 0, _, _, _, _, _ => none
 | k + 1, x1, x5, x11, x12, x13 => if x13 < x12 then (if 0 ≤ x13 then (if x13 < (x11.length : Int) then (if 0 ≤ ((rd_T86 x11 x13).f0) then (if ((rd_T86 x11 x13).f0) < (x5.length : Int) then (if 0 ≤ ((rd_T86 x11 x13).f1) then (if ((rd_T86 x11 x13).f1) < (x1.length : Int) then ((some (x5.set (((rd_T86 x11 x13).f0) : Int).toNat (mn (rd x5 ((rd_T86 x11 x13).f0)) (wrap64 ((rd x1 ((rd_T86 x11 x13).f1)) + ((rd_T86 x11 x13).f2)))) : List Int)).bind fun y393 => (if ((rd_T86 x11 x13).f1) < (x5.length : Int) then (if ((rd_T86 x11 x13).f0) < (x1.length : Int) then (impl_relaxed.l0 k x1 (y393.set (((rd_T86 x11 x13).f1) : Int).toNat (mn (rd y393 ((rd_T86 x11 x13).f1)) (wrap64 ((rd x1 ((rd_T86 x11 x13).f0)) + ((rd_T86 x11 x13).f2))))) x11 x12 (wrap64 (x13 + 1))) else (none)) else (none))) else (none)) else (none)) else (none)) else (none)) else (none)) else (none)) else (some x5)
def impl_relaxed.f (k : Nat) (l0 : List (S86)) (l1 : List Int) : Option (List Int) := (some (([] : List Int) : List Int)).bind fun y383 => (if y383.length + l1.length < 17592186044416 then (impl_relaxed.l0 k l1 (y383 ++ l1) l0 (l0.length : Int) 0) else (none))
theorem impl_relaxed.mono_l : ∀ k, (∀ y0 y1 y2 y3 y4, LeO (impl_relaxed.l0 k y0 y1 y2 y3 y4) (impl_relaxed.l0 (k + 1) y0 y1 y2 y3 y4))
 | 0 => fun _ _ _ _ _ r h => by simp [impl_relaxed.l0] at h
 | k + 1 => by
  have ih0 := impl_relaxed.mono_l k
  ·intro y0 y1 y2 y3 y4
   unfold impl_relaxed.l0
   repeat' first
   | (with_reducible exact ih0 _ _ _ _ _)
   | with_reducible first | exact LeO.refl _ | exact LeO.none _ | refine LeO.ite ?_ ?_ | refine LeO.bind ?_ fun _ => ?_
theorem impl_relaxed.mono : ∀ a0 a1 k, LeO (impl_relaxed.f k a0 a1) (impl_relaxed.f (k + 1) a0 a1) := by
 intro a0 a1 k
 have ih0 := impl_relaxed.mono_l k
 unfold impl_relaxed.f
 repeat' first
   | (with_reducible exact ih0 _ _ _ _ _)
   | with_reducible first | exact LeO.refl _ | exact LeO.none _ | refine LeO.ite ?_ ?_ | refine LeO.bind ?_ fun _ => ?_
def impl_relaxed.T5 : Bool × List (List Nat × List Nat) := (true, [([], []), ([], []), ([1], [1]), ([], []), ([], []), ([4], [4]), ([3, 5], [3, 5]), ([6], [6]), ([], []), ([], []), ([9], [9]), ([8, 10], [8, 10]), ([11], [11]), ([], []), ([13], [13]), ([12, 14], [12, 14]), ([7, 15], [7, 15]), ([0, 2, 0, 1, 2, 3, 4, 5, 6, 7, 8, 9, 10, 11, 12, 13, 14, 15, 16], [0, 2]), ([17, 16, 0, 1, 2, 3, 4, 5, 6, 7, 8, 9, 10, 11, 12, 13, 14, 15, 16], [16, 17])])
def impl_relaxed.B5 : List Nat := [0, 0, 2, 0, 0, 16, 56, 120, 0, 0, 512, 1792, 3840, 0, 8192, 32512, 65528, 131071, 262143]
theorem impl_relaxed.tab5 : rtab .any (opsOf Try.f135 5) = impl_relaxed.T5 := by kernel_rfl
theorem impl_relaxed.bits5 : waitsOk impl_relaxed.T5.2 impl_relaxed.B5 = true := by kernel_rfl
def impl_relaxed.T6 : Bool × List (List Nat × List Nat) := (true, [([], []), ([], []), ([1], [1]), ([], []), ([], []), ([4], [4]), ([3, 5], [3, 5]), ([6], [6]), ([], []), ([], []), ([9], [9]), ([8, 10], [8, 10]), ([11], [11]), ([], []), ([13], [13]), ([12, 14], [12, 14]), ([7, 15], [7, 15]), ([0, 2, 0, 1, 2, 3, 4, 5, 6, 7, 8, 9, 10, 11, 12, 13, 14, 15, 16], [0, 2]), ([17, 16, 0, 1, 2, 3, 4, 5, 6, 7, 8, 9, 10, 11, 12, 13, 14, 15, 16], [16, 17])])
def impl_relaxed.B6 : List Nat := [0, 0, 2, 0, 0, 16, 56, 120, 0, 0, 512, 1792, 3840, 0, 8192, 32512, 65528, 131071, 262143]
theorem impl_relaxed.tab6 : rtab .any (opsOf Try.f135 6) = impl_relaxed.T6 := by kernel_rfl
theorem impl_relaxed.bits6 : waitsOk impl_relaxed.T6.2 impl_relaxed.B6 = true := by kernel_rfl
set_option maxHeartbeats 8000000 in
set_option maxRecDepth 100000 in
theorem impl_relaxed.calls (k : Nat) (A0 : Option Addr) (c0 : Nat) (l0 : List (S86)) (A1 : Option Addr) (c1 : Nat) (l1 : List Int) (r : List Int) (w : World) (hr0 : Kd.C k86 w A0 l0.length l0) (hc0 : l0.length ≤ c0) (hr1 : Kd.C (Kd.int .i64) w A1 l1.length l1) (hc1 : l1.length ≤ c1) (h : impl_relaxed.f k l0 l1 = some r) :
  Calls Try.prog 135 #[.slice A0 l0.length c0, .slice A1 l1.length c1] w fun e w' => ∃ v0_ : Value, e = .returned (v0_) ∧ Kd.R (Kd.int .i64) 3 w' w.heap.size (fun _ => True) v0_ r ∧ Below w.heap.size w w' := by
 have hu86 := Try.underlying86
 have HR0 := Aside0.mk hr0
 have HC0 := Aside0.mk hc0
 clear hr0 hc0
 have HR1 := Aside0.mk hr1
 have HC1 := Aside0.mk hc1
 clear hr1 hc1
 have HB := Aside0.mk (Below.refl w.heap.size w)
 have H : ((some (([] : List Int) : List Int)).bind fun y383 => (if y383.length + l1.length < 17592186044416 then (impl_relaxed.l0 k l1 (y383 ++ l1) l0 (l0.length : Int) 0) else (none))) = some r := h
 clear h
 obtain ⟨y383, hy383⟩ : ∃ y_ : List Int, y_ = (([] : List Int)) := ⟨_, rfl⟩
 replace H : (if y383.length + l1.length < 17592186044416 then (impl_relaxed.l0 k l1 (y383 ++ l1) l0 (l0.length : Int) 0) else (none)) = some r := by first | (rw [hy383]; with_reducible exact H) | (have H2_ := (Option.bind_some _ _).symm.trans H; rw [hy383]; with_reducible exact H2_) | (have H2_ := (Option.bind_some _ _).symm.trans H; with_reducible exact H2_) | with_reducible exact H | (rw [hy383]; exact H) | exact H
 have Ny383 := Aside0.mk hy383
 clear hy383
 by_cases c3 : y383.length + l1.length < 17592186044416
 rotate_left
 ·rw [if_neg c3] at H
  exact absurd H (by simp)
 rw [if_pos c3] at H
 have LMc3 := Aside0.mk c3
 clear c3
 obtain ⟨y386, hy386⟩ : ∃ y_ : List Int, y_ = (y383 ++ l1) := ⟨_, rfl⟩
 replace H : (impl_relaxed.l0 k l1 y386 l0 (l0.length : Int) 0) = some r := by first | (rw [hy386]; with_reducible exact H) | (have H2_ := (Option.bind_some _ _).symm.trans H; rw [hy386]; with_reducible exact H2_) | (have H2_ := (Option.bind_some _ _).symm.trans H; with_reducible exact H2_) | with_reducible exact H | (rw [hy386]; exact H) | exact H
 have Ny386 := Aside0.mk hy386
 clear hy386
 have H' := Aside0.mk H
 clear H
 go_enter Try.func135, Try.ntmps135
 go_wp2_with (first | ((with_reducible refine gate_dst (N := 8) rfl ?_); refine Kd.R_lit (Kd.int .i64) _ 3 ?hg (N := 8) ?hd (xs := ([] : List Int)) (inner := []) (ok := fun _ => True) (okp := fun _ => True) ?hr ?hp (fun _ hk => hk) trivial (Below.refl _ _) (Nat.le_refl _) (by simp) ?_; (case hd => rfl); (case hg => rfl); (case hr => first | (go_simp; done) | (go_simp; rfl)); (case hp => exact (Reps.none _ _)); intro v384 w4 ho5 hb hg_ hnew_; clear hg_ hnew_; (first | rw [← Ny383.out] at ho5 | (simp only [Int.reduceToNat] at ho5; rw [← Ny383.out] at ho5)); have HO385 := Aside0.mk (Kd.R_lower ho5 (below_size (hB HB))); replace HB := bst_ HB hb; clear hb ho5) | ((with_reducible refine gate_builtin (b := .append) (xs := #[.tmp 8, .tmp 9]) rfl ?_); at_builtin; refine Kd.R_append_rows (Kd.int .i64) (w0 := w) w.heap.size rfl (.tmp 8) (.tmp 9) 23 3 (.int .i64 0) 8 rfl Try.underlying23 info3 rfl (by decide) (by omega) v384 y383 l1 _ _ _ (fun _ => True) (fun _ => False) rfl rfl ?aO ?aR (fun _ _ h => h) (fun _ h => h.elim) ?aF ?aB ?aS ?aL ?_; (case aR => exact cb_ HR1 HB); (case aB => exact (hB HB)); (case aF => exact (fun _ _ => trivial)); (case aO => exact (ra HO385.out)); (case aS => exact (below_size (hB HB))); (case aL => have := LMc3.out; omega); intro v387 w6 ho hb hg hat; rw [← Ny386.out] at ho; have HO388 := Aside0.mk (ho); replace HB := Aside0.mk (hb); clear HO385; clear ho hb hg hat))
 go_loopg [13] k (fun kq v13 w' => ∃ (x5_1 : List Int) (x13_1 : Int), v13 = .int .i64 x13_1 ∧ Aside0 (impl_relaxed.l0 kq l1 x5_1 l0 (l0.length : Int) x13_1 = some r) ∧ Aside0 (kq ≤ k) ∧ Aside0 (Kd.R (Kd.int .i64) 3 w' w.heap.size (fun _ => True) v387 x5_1) ∧ Aside0 (Below w.heap.size w w'))
 case atStart => exact ⟨(y386), (0), (by first | rfl | (simp; done) | (simp [*]; done)), H', ⟨Nat.le_refl _⟩, ⟨ra HO388.out⟩, ⟨hB HB⟩⟩
 case round =>
  clear H'
  try clear c1
  try clear c3
  obtain ⟨x5_1, x13_1, rfl, HA, HK1, HO_5, HB⟩ := hrel
  cases gk with
  | zero => exact absurd HA.out (by simp [impl_relaxed.l0])
  | succ k1 =>
   have H := HA.out
   clear HA
   simp only [impl_relaxed.l0] at H
   by_cases c7 : x13_1 < (l0.length : Int)
   rotate_left
   ·rw [if_neg c7] at H
    have c7b0 : decide (x13_1 < (l0.length : Int)) = false := decide_eq_false c7
    clear c7
    obtain rfl := Option.some.inj H
    go_wp2
    go_ret
    exact ⟨_, rt_, ra HO_5.out, hB HB⟩
   rw [if_pos c7] at H
   have c7b0 : decide (x13_1 < (l0.length : Int)) = true := decide_eq_true c7
   clear c7
   by_cases c8 : 0 ≤ x13_1
   rotate_left
   ·rw [if_neg c8] at H
    exact absurd H (by simp)
   rw [if_pos c8] at H
   have c8b0 : decide (0 ≤ x13_1) = true := decide_eq_true c8
   clear c8
   by_cases c9 : x13_1 < (l0.length : Int)
   rotate_left
   ·rw [if_neg c9] at H
    exact absurd H (by simp)
   rw [if_pos c9] at H
   have c9b0 : decide (x13_1 < (l0.length : Int)) = true := decide_eq_true c9
   clear c9
   by_cases c10 : 0 ≤ ((rd_T86 l0 x13_1).f0)
   rotate_left
   ·rw [if_neg c10] at H
    exact absurd H (by simp)
   rw [if_pos c10] at H
   have c10b0 : decide (0 ≤ ((rd_T86 l0 x13_1).f0)) = true := decide_eq_true c10
   clear c10
   by_cases c11 : ((rd_T86 l0 x13_1).f0) < (x5_1.length : Int)
   rotate_left
   ·rw [if_neg c11] at H
    exact absurd H (by simp)
   rw [if_pos c11] at H
   have c11b0 : decide (((rd_T86 l0 x13_1).f0) < (x5_1.length : Int)) = true := decide_eq_true c11
   clear c11
   by_cases c12 : 0 ≤ ((rd_T86 l0 x13_1).f1)
   rotate_left
   ·rw [if_neg c12] at H
    exact absurd H (by simp)
   rw [if_pos c12] at H
   have c12b0 : decide (0 ≤ ((rd_T86 l0 x13_1).f1)) = true := decide_eq_true c12
   clear c12
   by_cases c13 : ((rd_T86 l0 x13_1).f1) < (l1.length : Int)
   rotate_left
   ·rw [if_neg c13] at H
    exact absurd H (by simp)
   rw [if_pos c13] at H
   have c13b0 : decide (((rd_T86 l0 x13_1).f1) < (l1.length : Int)) = true := decide_eq_true c13
   clear c13
   obtain ⟨ji14, hji14⟩ : ∃ j_ : Int, (mn (rd x5_1 ((rd_T86 l0 x13_1).f0)) (wrap64 ((rd l1 ((rd_T86 l0 x13_1).f1)) + ((rd_T86 l0 x13_1).f2)))) = j_ := ⟨_, rfl⟩
   replace H : ((some (x5_1.set (((rd_T86 l0 x13_1).f0) : Int).toNat (ji14) : List Int)).bind fun y393 => (if ((rd_T86 l0 x13_1).f1) < (x5_1.length : Int) then (if ((rd_T86 l0 x13_1).f0) < (l1.length : Int) then (impl_relaxed.l0 k1 l1 (y393.set (((rd_T86 l0 x13_1).f1) : Int).toNat (mn (rd y393 ((rd_T86 l0 x13_1).f1)) (wrap64 ((rd l1 ((rd_T86 l0 x13_1).f0)) + ((rd_T86 l0 x13_1).f2))))) l0 (l0.length : Int) (wrap64 (x13_1 + 1))) else (none)) else (none))) = some r := by first | (rw [hji14] at H; exact H) | (simp only [hji14] at H ⊢; exact H)
   have hji14_ : (if (wrap64 ((rd l1 ((rd_T86 l0 x13_1).f1)) + ((rd_T86 l0 x13_1).f2))) < (rd x5_1 ((rd_T86 l0 x13_1).f0)) then (wrap64 ((rd l1 ((rd_T86 l0 x13_1).f1)) + ((rd_T86 l0 x13_1).f2))) else (rd x5_1 ((rd_T86 l0 x13_1).f0))) = ji14 := hji14
   obtain ⟨y393, hy393⟩ : ∃ y_ : List Int, y_ = (x5_1.set (((rd_T86 l0 x13_1).f0) : Int).toNat (ji14)) := ⟨_, rfl⟩
   replace H : (if ((rd_T86 l0 x13_1).f1) < (x5_1.length : Int) then (if ((rd_T86 l0 x13_1).f0) < (l1.length : Int) then (impl_relaxed.l0 k1 l1 (y393.set (((rd_T86 l0 x13_1).f1) : Int).toNat (mn (rd y393 ((rd_T86 l0 x13_1).f1)) (wrap64 ((rd l1 ((rd_T86 l0 x13_1).f0)) + ((rd_T86 l0 x13_1).f2))))) l0 (l0.length : Int) (wrap64 (x13_1 + 1))) else (none)) else (none)) = some r := by first | (rw [hy393]; with_reducible exact H) | (have H2_ := (Option.bind_some _ _).symm.trans H; rw [hy393]; with_reducible exact H2_) | (have H2_ := (Option.bind_some _ _).symm.trans H; with_reducible exact H2_) | with_reducible exact H | (rw [hy393]; exact H) | exact H
   have Ny393 := Aside0.mk hy393
   clear hy393
   by_cases c16 : ((rd_T86 l0 x13_1).f1) < (x5_1.length : Int)
   rotate_left
   ·rw [if_neg c16] at H
    exact absurd H (by simp)
   rw [if_pos c16] at H
   have c16b0 : decide (((rd_T86 l0 x13_1).f1) < (x5_1.length : Int)) = true := decide_eq_true c16
   clear c16
   by_cases c17 : ((rd_T86 l0 x13_1).f0) < (l1.length : Int)
   rotate_left
   ·rw [if_neg c17] at H
    exact absurd H (by simp)
   rw [if_pos c17] at H
   have c17b0 : decide (((rd_T86 l0 x13_1).f0) < (l1.length : Int)) = true := decide_eq_true c17
   clear c17
   obtain ⟨ji18, hji18⟩ : ∃ j_ : Int, (mn (rd y393 ((rd_T86 l0 x13_1).f1)) (wrap64 ((rd l1 ((rd_T86 l0 x13_1).f0)) + ((rd_T86 l0 x13_1).f2)))) = j_ := ⟨_, rfl⟩
   replace H : (impl_relaxed.l0 k1 l1 (y393.set (((rd_T86 l0 x13_1).f1) : Int).toNat (ji18)) l0 (l0.length : Int) (wrap64 (x13_1 + 1))) = some r := by first | (rw [hji18] at H; exact H) | (simp only [hji18] at H ⊢; exact H)
   have hji18_ : (if (wrap64 ((rd l1 ((rd_T86 l0 x13_1).f0)) + ((rd_T86 l0 x13_1).f2))) < (rd y393 ((rd_T86 l0 x13_1).f1)) then (wrap64 ((rd l1 ((rd_T86 l0 x13_1).f0)) + ((rd_T86 l0 x13_1).f2))) else (rd y393 ((rd_T86 l0 x13_1).f1))) = ji18 := hji18
   obtain ⟨y396, hy396⟩ : ∃ y_ : List Int, y_ = (y393.set (((rd_T86 l0 x13_1).f1) : Int).toNat (ji18)) := ⟨_, rfl⟩
   replace H : (impl_relaxed.l0 k1 l1 y396 l0 (l0.length : Int) (wrap64 (x13_1 + 1))) = some r := by first | (rw [hy396]; with_reducible exact H) | (have H2_ := (Option.bind_some _ _).symm.trans H; rw [hy396]; with_reducible exact H2_) | (have H2_ := (Option.bind_some _ _).symm.trans H; with_reducible exact H2_) | with_reducible exact H | (rw [hy396]; exact H) | exact H
   have Ny396 := Aside0.mk hy396
   clear hy396
   have H' := Aside0.mk H
   clear H
   have p389 : 0 ≤ (x13_1 : Int) := od_
   have q389 : x13_1 < (l0.length : Int) := od_
   obtain ⟨ad389, e389, hx389_0, hx389_1, hx389_2⟩ := at_T86 HR0.out x13_1 p389 q389
   cases e389
   replace hx389_0 := hc_ HB hx389_0
   replace hx389_1 := hc_ HB hx389_1
   replace hx389_2 := hc_ HB hx389_2
   replace p389 := eq_true p389
   replace q389 := eq_true q389
   try go_wp2_with (first | ((with_reducible refine gate_dst (N := 7) rfl ?_); refine box_event ?hg (N := 7) ?hd (cs := #[.int .i64 0, .int .i64 0, .int .i64 0]) (t := 86) ?hr ?_; (case hd => rfl); (case hg => rfl); (case hr => first | (go_simp; done) | (go_simp; rfl)); intro gb390 hg w20 hbox hb; have BK390 := Aside0.mk (hbox); have GW390 := gw_ hg HB; have GE390 := gw_ hg HB; replace HO_5 := rb_ HO_5 hb; replace HB := bst_ HB hb; clear hb hbox hg; obtain ⟨hcz21_0, hcz21_1, hcz21_2⟩ := bcs3_ BK390; have hfz21_0 := blk_frozen BK390.out 0; have hfz21_1 := blk_frozen BK390.out 1; have hfz21_2 := blk_frozen BK390.out 2))
   have n0_ : Aside0 (Kd.R (Kd.int .i64) 3 (((w20.setCell ⟨gb390, 0, none⟩ (.int .i64 ((rd_T86 l0 x13_1).f0))).setCell ⟨gb390, 1, none⟩ (.int .i64 ((rd_T86 l0 x13_1).f1))).setCell ⟨gb390, 2, none⟩ (.int .i64 ((rd_T86 l0 x13_1).f2))) w.heap.size (fun _ => True) v387 x5_1) := ⟨by (with_reducible repeat (first | apply Kd.R_alloc | apply Kd.R_drewN | apply Kd.R_drew)); exact Kd.R_mono (Kd.R_far (p := ⟨gb390, 2, none⟩) (Kd.R_far (p := ⟨gb390, 1, none⟩) (Kd.R_far (p := ⟨gb390, 0, none⟩) (Kd.R_types HO_5.out BK390.out (by decide)) (fun _ hk => hk.2) (.int .i64 ((rd_T86 l0 x13_1).f0))) (fun _ hk => hk.2) (.int .i64 ((rd_T86 l0 x13_1).f1))) (fun _ hk => hk.2) (.int .i64 ((rd_T86 l0 x13_1).f2))) (fun _ hk => trivial)⟩
   have n1_ : Aside0 ((((w20.setCell ⟨gb390, 0, none⟩ (.int .i64 ((rd_T86 l0 x13_1).f0))).setCell ⟨gb390, 1, none⟩ (.int .i64 ((rd_T86 l0 x13_1).f1))).setCell ⟨gb390, 2, none⟩ (.int .i64 ((rd_T86 l0 x13_1).f2))).heap[gb390]? = some (.cells #[.int .i64 ((rd_T86 l0 x13_1).f0), .int .i64 ((rd_T86 l0 x13_1).f1), .int .i64 ((rd_T86 l0 x13_1).f2)] 86 (0, 0))) := ⟨by (with_reducible repeat (first | refine blk_drewN ?_ _ | refine blk_drew ?_ | refine blk_alloc ?_ _)); refine blk_put (cs := #[.int .i64 ((rd_T86 l0 x13_1).f0), .int .i64 ((rd_T86 l0 x13_1).f1), .int .i64 0]) ?_ 2 _ rfl; (with_reducible repeat (first | refine blk_drewN ?_ _ | refine blk_drew ?_ | refine blk_alloc ?_ _)); refine blk_put (cs := #[.int .i64 ((rd_T86 l0 x13_1).f0), .int .i64 0, .int .i64 0]) ?_ 1 _ rfl; (with_reducible repeat (first | refine blk_drewN ?_ _ | refine blk_drew ?_ | refine blk_alloc ?_ _)); refine blk_put (cs := #[.int .i64 0, .int .i64 0, .int .i64 0]) ?_ 0 _ rfl; (with_reducible repeat (first | refine blk_drewN ?_ _ | refine blk_drew ?_ | refine blk_alloc ?_ _)); exact BK390.out⟩
   have n2_ : Aside0 (Below w.heap.size w (((w20.setCell ⟨gb390, 0, none⟩ (.int .i64 ((rd_T86 l0 x13_1).f0))).setCell ⟨gb390, 1, none⟩ (.int .i64 ((rd_T86 l0 x13_1).f1))).setCell ⟨gb390, 2, none⟩ (.int .i64 ((rd_T86 l0 x13_1).f2)))) := ⟨hB HB⟩
   (try clear HO_5)
   (try clear BK390)
   (try clear HB)
   generalize (((w20.setCell ⟨gb390, 0, none⟩ (.int .i64 ((rd_T86 l0 x13_1).f0))).setCell ⟨gb390, 1, none⟩ (.int .i64 ((rd_T86 l0 x13_1).f1))).setCell ⟨gb390, 2, none⟩ (.int .i64 ((rd_T86 l0 x13_1).f2))) = w22 at n0_ n1_ n2_ ⊢
   have HO_5 := n0_
   have BK390 := n1_
   have HB := n2_
   clear n0_ n1_ n2_
   replace HO_5 := rd_ HO_5
   replace BK390 := bd_ BK390
   replace HB := Aside0.mk (below_drew1 HB.out)
   obtain ⟨Ao24, co24, eo24⟩ := Kd.R_slice HO_5.out
   subst eo24
   have p391 : 0 ≤ (((rd_T86 l0 x13_1).f0) : Int) := od_
   have q391 : ((rd_T86 l0 x13_1).f0) < (x5_1.length : Int) := od_
   obtain ⟨ad391, e391, hx391_0⟩ := Kd.at_int (Kd.R_reads' HO_5.out).2.2 ((rd_T86 l0 x13_1).f0) p391 q391
   cases e391
   replace p391 := eq_true p391
   replace q391 := eq_true q391
   have p392 : 0 ≤ (((rd_T86 l0 x13_1).f1) : Int) := od_
   have q392 : ((rd_T86 l0 x13_1).f1) < (l1.length : Int) := od_
   obtain ⟨ad392, e392, hx392_0⟩ := Kd.at_int HR1.out ((rd_T86 l0 x13_1).f1) p392 q392
   have hw392_0 := hx392_0
   cases e392
   replace hx392_0 := hc_ HB hx392_0
   replace p392 := eq_true p392
   replace q392 := eq_true q392
   have p15 : 0 ≤ (((rd_T86 l0 x13_1).f0) : Int) := od_
   have q15 : (((rd_T86 l0 x13_1).f0) : Int) < ((x5_1.length : Int) : Int) := od_
   obtain ⟨go15, co15, eo15, gb15, gl15, cl15, HG15⟩ := Kd.R_form HO_5.out (by omega)
   (first | cases eo15 | (injection eo15 with ea_ en_ ec_; (first | subst ea_ | (injection ea_ with ea_; subst ea_)); subst ec_; clear en_))
   have GB15 := Aside0.mk gb15
   have GG15 := Aside0.mk HG15
   clear gb15 gl15 HG15
   (first | simp only [add_plain] at hx391_0 | skip)
   obtain ⟨hx15_0, hf15_0⟩ := Kd.R_celln 0 HO_5.out (((rd_T86 l0 x13_1).f0) : Int) p15 q15
   replace p15 := eq_true p15
   replace q15 := eq_true q15
   have HP25 := Kd.R_putn HO_5.out (((rd_T86 l0 x13_1).f0) : Int) ji14
   rw [← Ny393.out] at HP25
   have HQ25 := Aside0.mk HP25
   clear HP25
   refine start_ (n := 19) (S := fun w' => w'.cell? ⟨gb390, 0, none⟩ = some (.int .i64 ((rd_T86 l0 x13_1).f0)) ∧ w'.cell? ⟨gb390, 1, none⟩ = some (.int .i64 ((rd_T86 l0 x13_1).f1)) ∧ w'.cell? ⟨gb390, 2, none⟩ = some (.int .i64 ((rd_T86 l0 x13_1).f2)) ∧ w'.cell? ⟨go15, (((rd_T86 l0 x13_1).f0)).toNat, none⟩ = some (.int .i64 (rd x5_1 ((rd_T86 l0 x13_1).f0))) ∧ w'.cell? (ad392.add (((rd_T86 l0 x13_1).f1)).toNat) = some (.int .i64 (rd l1 ((rd_T86 l0 x13_1).f1)))) (ds := [18]) (bs 19 0) (by kernel_rfl) rfl rfl ⟨bc_ BK390 0, bc_ BK390 1, bc_ BK390 2, hx391_0, ((HB.out.cell (World.block_lt_of_cell? w _ hw392_0)).trans hw392_0)⟩ (fun hHeld => ?_); refine with_tabW impl_relaxed.tab5 impl_relaxed.bits5 (fun HT_ HW_ => ?_)
   generalize w22.drew = w23 at HO_5 BK390 HB GG15 HQ25 hf15_0 hx15_0 hx391_0 hx392_0 hHeld ⊢
   refine pu_ 0 17 (bs 19 1) HT_ ?_
   refine pu_ 1 18 (bs 19 3) HT_ ?_
   refine pu_ 3 20 (bs 19 11) HT_ ?_
   refine pu_ 4 21 (bs 19 27) HT_ ?_
   refine pu_ 8 25 (bs 19 283) HT_ ?_
   refine pu_ 9 26 (bs 19 795) HT_ ?_
   refine pu_ 13 30 (bs 19 8987) HT_ ?_
   refine tk_ 2 19 (bs 19 8991) HT_ HW_ hHeld ?_
   refine tk_ 5 22 (bs 19 9023) HT_ HW_ hHeld ?_
   refine pu_ 6 23 (bs 19 9087) HT_ ?_
   refine tk_ 7 24 (bs 19 9215) HT_ HW_ hHeld ?_
   refine tk_ 10 27 (bs 19 10239) HT_ HW_ hHeld ?_
   refine pu_ 11 28 (bs 19 12287) HT_ ?_
   refine tk_ 12 29 (bs 19 16383) HT_ HW_ hHeld ?_
   refine tk_ 14 31 (bs 19 32767) HT_ HW_ hHeld ?_
   refine pu_ 15 32 (bs 19 65535) HT_ ?_
   refine pu_ 16 33 (bs 19 131071) HT_ ?_
   refine pu_ 17 34 (bs 19 262143) HT_ ?_
   refine last_ (i := 18) (N := none) (bs 19 524287) rfl rfl (one_of HT_.out (by kernel_rfl)) (by decide) (fun K hK => ?_)
   refine skip_ (w1 := ?_) (by rfl) rfl ?_ ?_
   rotate_left
   ·go_simp
    rfl
   refine hK.out _ _ ?_
   clear hK K
   refine done_ (done_of HT_.out (by kernel_rfl)) ?_
   try go_wp2
   have n0_ : Aside0 (Kd.R (Kd.int .i64) 3 (w23.setCell ⟨go15, (((rd_T86 l0 x13_1).f0) : Int).toNat, none⟩ (.int .i64 ji14)) w.heap.size (fun _ => True) (.slice (some ⟨go15, 0, none⟩) x5_1.length co24) y393) := ⟨ra HQ25.out⟩
   have n1_ : Aside0 ((w23.setCell ⟨go15, (((rd_T86 l0 x13_1).f0) : Int).toNat, none⟩ (.int .i64 ji14)).heap[gb390]? = some (.cells #[.int .i64 ((rd_T86 l0 x13_1).f0), .int .i64 ((rd_T86 l0 x13_1).f1), .int .i64 ((rd_T86 l0 x13_1).f2)] 86 (0, 0))) := ⟨by (with_reducible repeat (first | refine blk_drewN ?_ _ | refine blk_drew ?_ | refine blk_alloc ?_ _)); refine blk_far ?_ (by have h_ := Kd.R_ne HO_5.out BK390.out (by decide); intro e_; exact h_ (by rw [e_]; rfl)) _; (with_reducible repeat (first | refine blk_drewN ?_ _ | refine blk_drew ?_ | refine blk_alloc ?_ _)); exact BK390.out⟩
   have n2_ : Aside0 (Below w.heap.size w (w23.setCell ⟨go15, (((rd_T86 l0 x13_1).f0) : Int).toNat, none⟩ (.int .i64 ji14))) := ⟨hB HB⟩
   (try clear HO_5)
   (try clear BK390)
   (try clear HB)
   generalize (w23.setCell ⟨go15, (((rd_T86 l0 x13_1).f0) : Int).toNat, none⟩ (.int .i64 ji14)) = w26 at n0_ n1_ n2_ ⊢
   have HO_5 := n0_
   have BK390 := n1_
   have HB := n2_
   clear n0_ n1_ n2_
   replace HO_5 := rd_ HO_5
   replace BK390 := bd_ BK390
   replace HB := Aside0.mk (below_drew1 HB.out)
   have p394 : 0 ≤ (((rd_T86 l0 x13_1).f1) : Int) := od_
   have q394 : ((rd_T86 l0 x13_1).f1) < (y393.length : Int) := (by have h_ : (((rd_T86 l0 x13_1).f1) : Int) < ((x5_1.length : Int) : Int) := od_; first | (have e_ := (Kd.R_reads' HO_5.out).1; omega) | simpa only [Ny393.out, List.length_set] using h_)
   have ql394 : ((((rd_T86 l0 x13_1).f1) : Int) < ((x5_1.length : Int) : Int)) = True := eq_true (od_)
   obtain ⟨ad394, e394, hx394_0⟩ := Kd.at_int (Kd.R_reads' HO_5.out).2.2 ((rd_T86 l0 x13_1).f1) p394 q394
   obtain rfl : (⟨go15, 0, none⟩ : Addr) = ad394 := (by injection e394)
   (first | simp only [add_plain] at hx394_0 | simp only [add_at] at hx394_0 | simp only [Addr.add, Nat.zero_add] at hx394_0 | skip)
   replace p394 := eq_true p394
   replace q394 := eq_true q394
   have p395 : 0 ≤ (((rd_T86 l0 x13_1).f0) : Int) := od_
   have q395 : ((rd_T86 l0 x13_1).f0) < (l1.length : Int) := od_
   obtain ⟨ad395, e395, hx395_0⟩ := Kd.at_int HR1.out ((rd_T86 l0 x13_1).f0) p395 q395
   have hw395_0 := hx395_0
   obtain rfl : ad392 = ad395 := (by injection e395)
   replace hx395_0 := hc_ HB hx395_0
   replace p395 := eq_true p395
   replace q395 := eq_true q395
   have p19 : 0 ≤ (((rd_T86 l0 x13_1).f1) : Int) := od_
   have q19 : (((rd_T86 l0 x13_1).f1) : Int) < ((x5_1.length : Int) : Int) := od_
   obtain ⟨hx19_0, hf19_0⟩ := Kd.R_celln 0 HO_5.out (((rd_T86 l0 x13_1).f1) : Int) p19 q19
   replace p19 := eq_true p19
   replace q19 := eq_true q19
   have HP28 := Kd.R_putn HO_5.out (((rd_T86 l0 x13_1).f1) : Int) ji18
   rw [← Ny396.out] at HP28
   have HQ28 := Aside0.mk HP28
   clear HP28
   refine start_ (n := 19) (S := fun w' => w'.cell? ⟨gb390, 0, none⟩ = some (.int .i64 ((rd_T86 l0 x13_1).f0)) ∧ w'.cell? ⟨gb390, 1, none⟩ = some (.int .i64 ((rd_T86 l0 x13_1).f1)) ∧ w'.cell? ⟨gb390, 2, none⟩ = some (.int .i64 ((rd_T86 l0 x13_1).f2)) ∧ w'.cell? ⟨go15, (((rd_T86 l0 x13_1).f1)).toNat, none⟩ = some (.int .i64 (rd y393 ((rd_T86 l0 x13_1).f1))) ∧ w'.cell? (ad392.add (((rd_T86 l0 x13_1).f0)).toNat) = some (.int .i64 (rd l1 ((rd_T86 l0 x13_1).f0)))) (ds := [18]) (bs 19 0) (by kernel_rfl) rfl rfl ⟨bc_ BK390 0, bc_ BK390 1, bc_ BK390 2, hx394_0, ((HB.out.cell (World.block_lt_of_cell? w _ hw395_0)).trans hw395_0)⟩ (fun hHeld => ?_); refine with_tabW impl_relaxed.tab6 impl_relaxed.bits6 (fun HT_ HW_ => ?_)
   generalize w26.drew = w27 at HO_5 BK390 HB HQ25 HQ28 hf19_0 hx19_0 hx394_0 hx395_0 hHeld ⊢
   refine pu_ 0 35 (bs 19 1) HT_ ?_
   refine pu_ 1 36 (bs 19 3) HT_ ?_
   refine pu_ 3 38 (bs 19 11) HT_ ?_
   refine pu_ 4 39 (bs 19 27) HT_ ?_
   refine pu_ 8 43 (bs 19 283) HT_ ?_
   refine pu_ 9 44 (bs 19 795) HT_ ?_
   refine pu_ 13 48 (bs 19 8987) HT_ ?_
   refine tk_ 2 37 (bs 19 8991) HT_ HW_ hHeld ?_
   refine tk_ 5 40 (bs 19 9023) HT_ HW_ hHeld ?_
   refine pu_ 6 41 (bs 19 9087) HT_ ?_
   refine tk_ 7 42 (bs 19 9215) HT_ HW_ hHeld ?_
   refine tk_ 10 45 (bs 19 10239) HT_ HW_ hHeld ?_
   refine pu_ 11 46 (bs 19 12287) HT_ ?_
   refine tk_ 12 47 (bs 19 16383) HT_ HW_ hHeld ?_
   refine tk_ 14 49 (bs 19 32767) HT_ HW_ hHeld ?_
   refine pu_ 15 50 (bs 19 65535) HT_ ?_
   refine pu_ 16 51 (bs 19 131071) HT_ ?_
   refine pu_ 17 52 (bs 19 262143) HT_ ?_
   refine last_ (i := 18) (N := none) (bs 19 524287) rfl rfl (one_of HT_.out (by kernel_rfl)) (by decide) (fun K hK => ?_)
   refine skip_ (w1 := ?_) (by rfl) rfl ?_ ?_
   rotate_left
   ·go_simp
    rfl
   refine hK.out _ _ ?_
   clear hK K
   refine done_ (done_of HT_.out (by kernel_rfl)) ?_
   try go_wp2
   go_roundg k1
   case measure => have := HK1.out; omega
   case rel => exact ⟨(y396), (wrap64 (x13_1 + 1)), (by first | rfl | (simp; done) | (simp [*]; done)), H', ⟨by have := HK1.out; omega⟩, ⟨ra HQ28.out⟩, ⟨hB HB⟩⟩

mutual
def impl_fars.l0 : Nat → Int → List (S86) → Int → List Int → Int → Int → Option (List Int)
 | 0, _, _, _, _, _, _ => none
 | k + 1, x0, x1, x2, x7, x12, x13 => if x13 < x12 then (if 0 ≤ x13 then (if x13 < (x7.length : Int) then (impl_fars.l0 k x0 x1 x2 (x7.set (x13 : Int).toNat 100000) x12 (wrap64 (x13 + 1))) else (none)) else (none)) else (if 0 ≤ x2 then (if x2 < (x7.length : Int) then (impl_fars.l1 k x1 (x7.set (x2 : Int).toNat 0) x0 0) else (none)) else (none))
def impl_fars.l1 : Nat → List (S86) → List Int → Int → Int → Option (List Int)
 | 0, _, _, _, _ => none
 | k + 1, x1, x7, x23, x24 => if x24 < x23 then ((impl_relaxed.f k x1 x7).bind fun t402 => (impl_fars.l1 k x1 t402 x23 (wrap64 (x24 + 1)))) else (some x7)
end
def impl_fars.f (k : Nat) (a0 : Int) (l1 : List (S86)) (a2 : Int) : Option (List Int) := if 0 ≤ a0 then (if (a0 : Int).toNat ≤ 35184372088832 then ((some (List.replicate (a0 : Int).toNat 0 : List Int)).bind fun y397 => (impl_fars.l0 k a0 l1 a2 y397 (y397.length : Int) 0)) else (none)) else (none)
theorem impl_fars.mono_l : ∀ k, (∀ y0 y1 y2 y3 y4 y5, LeO (impl_fars.l0 k y0 y1 y2 y3 y4 y5) (impl_fars.l0 (k + 1) y0 y1 y2 y3 y4 y5)) ∧ (∀ y0 y1 y2 y3, LeO (impl_fars.l1 k y0 y1 y2 y3) (impl_fars.l1 (k + 1) y0 y1 y2 y3))
 | 0 => ⟨fun _ _ _ _ _ _ r h => by simp [impl_fars.l0] at h, fun _ _ _ _ r h => by simp [impl_fars.l1] at h⟩
 | k + 1 => by
  obtain ⟨ih0, ih1⟩ := impl_fars.mono_l k
  refine ⟨?_, ?_⟩
  ·intro y0 y1 y2 y3 y4 y5
   unfold impl_fars.l0
   repeat' first
   | (with_reducible exact ih0 _ _ _ _ _ _)
   | (with_reducible exact ih1 _ _ _ _)
   | (with_reducible exact impl_relaxed.mono _ _ _)
   | with_reducible first | exact LeO.refl _ | exact LeO.none _ | refine LeO.ite ?_ ?_ | refine LeO.bind ?_ fun _ => ?_
  ·intro y0 y1 y2 y3
   unfold impl_fars.l1
   repeat' first
   | (with_reducible exact ih0 _ _ _ _ _ _)
   | (with_reducible exact ih1 _ _ _ _)
   | (with_reducible exact impl_relaxed.mono _ _ _)
   | with_reducible first | exact LeO.refl _ | exact LeO.none _ | refine LeO.ite ?_ ?_ | refine LeO.bind ?_ fun _ => ?_
theorem impl_fars.mono : ∀ a0 a1 a2 k, LeO (impl_fars.f k a0 a1 a2) (impl_fars.f (k + 1) a0 a1 a2) := by
 intro a0 a1 a2 k
 obtain ⟨ih0, ih1⟩ := impl_fars.mono_l k
 unfold impl_fars.f
 repeat' first
   | (with_reducible exact ih0 _ _ _ _ _ _)
   | (with_reducible exact ih1 _ _ _ _)
   | (with_reducible exact impl_relaxed.mono _ _ _)
   | with_reducible first | exact LeO.refl _ | exact LeO.none _ | refine LeO.ite ?_ ?_ | refine LeO.bind ?_ fun _ => ?_
set_option maxHeartbeats 8000000 in
set_option maxRecDepth 100000 in
theorem impl_fars.calls (k : Nat) (a0 : Int) (A1 : Option Addr) (c1 : Nat) (l1 : List (S86)) (a2 : Int) (r : List Int) (w : World) (hr1 : Kd.C k86 w A1 l1.length l1) (hc1 : l1.length ≤ c1) (h : impl_fars.f k a0 l1 a2 = some r) :
  Calls Try.prog 107 #[.int .i64 a0, .slice A1 l1.length c1, .int .i64 a2] w fun e w' => ∃ v0_ : Value, e = .returned (v0_) ∧ Kd.R (Kd.int .i64) 3 w' w.heap.size (fun _ => True) v0_ r ∧ Below w.heap.size w w' := by
 have HR1 := Aside0.mk hr1
 have HC1 := Aside0.mk hc1
 clear hr1 hc1
 have HB := Aside0.mk (Below.refl w.heap.size w)
 have H : (if 0 ≤ a0 then (if (a0 : Int).toNat ≤ 35184372088832 then ((some (List.replicate (a0 : Int).toNat 0 : List Int)).bind fun y397 => (impl_fars.l0 k a0 l1 a2 y397 (y397.length : Int) 0)) else (none)) else (none)) = some r := h
 clear h
 by_cases c4 : 0 ≤ a0
 rotate_left
 ·rw [if_neg c4] at H
  exact absurd H (by simp)
 rw [if_pos c4] at H
 have c4b0 := eq_true c4
 have c4b1 : decide (0 ≤ a0) = true := decide_eq_true c4
 clear c4
 by_cases c5 : (a0 : Int).toNat ≤ 35184372088832
 rotate_left
 ·rw [if_neg c5] at H
  exact absurd H (by simp)
 rw [if_pos c5] at H
 have c5b0 := eq_true c5
 have c5b1 : decide ((a0 : Int).toNat ≤ 35184372088832) = true := decide_eq_true c5
 clear c5
 obtain ⟨y397, hy397⟩ : ∃ y_ : List Int, y_ = (List.replicate (a0 : Int).toNat 0) := ⟨_, rfl⟩
 replace H : (impl_fars.l0 k a0 l1 a2 y397 (y397.length : Int) 0) = some r := by first | (rw [hy397]; with_reducible exact H) | (have H2_ := (Option.bind_some _ _).symm.trans H; rw [hy397]; with_reducible exact H2_) | (have H2_ := (Option.bind_some _ _).symm.trans H; with_reducible exact H2_) | with_reducible exact H | (rw [hy397]; exact H) | exact H
 have Ny397 := Aside0.mk hy397
 clear hy397
 have H' := Aside0.mk H
 clear H
 go_enter Try.func107, Try.ntmps107
 go_wp2_with (first | ((with_reducible refine gate_dst (N := 10) rfl ?_); refine Kd.R_make (Kd.int .i64) _ 3 rfl (N := 10) rfl 23 _ _ rfl a0 rfl rfl Try.underlying23 (.int .i64 0) 8 info3 rfl (by decide) (by omega) 0 (ok := fun _ => True) (okp := fun _ => True) rfl (fun _ hk => hk) trivial (od_) (Nat.le_trans (Nat.mul_le_mul_right _ (od_ : a0.toNat ≤ 35184372088832)) (by omega)) (Below.refl _ _) (Nat.le_refl _) ?_; intro v398 w6 ho7 hb hg_ hnew_; clear hg_ hnew_; (first | rw [← Ny397.out] at ho7 | (simp only [Int.reduceToNat] at ho7; rw [← Ny397.out] at ho7)); have HO399 := Aside0.mk (Kd.R_lower ho7 (below_size (hB HB))); replace HB := bst_ HB hb; clear hb ho7; obtain ⟨Ao8, co8, eo8⟩ := Kd.R_slice HO399.out; subst eo8))
 go_loopg [13] k (fun kq v13 w' => ∃ (x7_1 : List Int) (x13_1 : Int), v13 = .int .i64 x13_1 ∧ Aside0 (impl_fars.l0 kq a0 l1 a2 x7_1 (y397.length : Int) x13_1 = some r) ∧ Aside0 (kq ≤ k) ∧ Aside0 (Kd.R (Kd.int .i64) 3 w' w.heap.size (fun _ => True) (.slice Ao8 y397.length co8) x7_1) ∧ Aside0 (Below w.heap.size w w'))
 case atStart => exact ⟨(y397), (0), (by first | rfl | (simp; done) | (simp [*]; done)), H', ⟨Nat.le_refl _⟩, ⟨ra HO399.out⟩, ⟨hB HB⟩⟩
 case round =>
  clear H'
  try clear c1
  try clear c4
  try clear c4b0
  try clear c4b1
  try clear c5
  try clear c5b0
  try clear c5b1
  obtain ⟨x7_1, x13_1, rfl, HA, HK1, HO_7, HB⟩ := hrel
  have hl7_1 := (Kd.R_reads' HO_7.out).1
  rw [hl7_1] at HO_7
  (try simp only [hl7_1])
  cases gk with
  | zero => exact absurd HA.out (by simp [impl_fars.l0])
  | succ k1 =>
   have H := HA.out
   clear HA
   simp only [impl_fars.l0] at H
   by_cases c9 : x13_1 < (y397.length : Int)
   ·rw [if_pos c9] at H
    have c9b0 : decide (x13_1 < (y397.length : Int)) = true := decide_eq_true c9
    try rw [hl7_1] at c9b0
    clear c9
    by_cases c10 : 0 ≤ x13_1
    rotate_left
    ·rw [if_neg c10] at H
     exact absurd H (by simp)
    rw [if_pos c10] at H
    have c10b0 : decide (0 ≤ x13_1) = true := decide_eq_true c10
    clear c10
    by_cases c11 : x13_1 < (x7_1.length : Int)
    rotate_left
    ·rw [if_neg c11] at H
     exact absurd H (by simp)
    rw [if_pos c11] at H
    have c11b0 : decide (x13_1 < (x7_1.length : Int)) = true := decide_eq_true c11
    try rw [hl7_1] at c11b0
    clear c11
    obtain ⟨y400, hy400⟩ : ∃ y_ : List Int, y_ = (x7_1.set (x13_1 : Int).toNat 100000) := ⟨_, rfl⟩
    replace H : (impl_fars.l0 k1 a0 l1 a2 y400 (y397.length : Int) (wrap64 (x13_1 + 1))) = some r := by first | (rw [hy400]; with_reducible exact H) | (have H2_ := (Option.bind_some _ _).symm.trans H; rw [hy400]; with_reducible exact H2_) | (have H2_ := (Option.bind_some _ _).symm.trans H; with_reducible exact H2_) | with_reducible exact H | (rw [hy400]; exact H) | exact H
    have Ny400 := Aside0.mk hy400
    clear hy400
    have H' := Aside0.mk H
    clear H
    have p12 : 0 ≤ (x13_1 : Int) := od_
    have q12 : (x13_1 : Int) < ((x7_1.length : Int) : Int) := od_
    obtain ⟨go12, co12, eo12, gb12, gl12, cl12, HG12⟩ := Kd.R_form HO_7.out (by omega)
    (first | cases eo12 | (injection eo12 with ea_ en_ ec_; (first | subst ea_ | (injection ea_ with ea_; subst ea_)); subst ec_; clear en_))
    have GB12 := Aside0.mk gb12
    have GG12 := Aside0.mk HG12
    clear gb12 gl12 HG12
    obtain ⟨hx12_0, hf12_0⟩ := Kd.R_celln 0 HO_7.out (x13_1 : Int) p12 q12
    replace p12 := eq_true p12
    replace q12 := eq_true q12
    have HP13 := Kd.R_putg HO_7.out (x13_1 : Int) 100000
    go_wp2_with (first | ((with_reducible refine gate_store (t := 3) (p := 18) rfl ?_); refine store_event (t := 3) (p := 18) (v := ?vo_w14) (w1 := (wr.setCell ⟨go12, (x13_1 : Int).toNat, none⟩ (.int .i64 100000))) ?hg ?ho ?hn ?hr ?_; (case ho => rfl); (case hg => rfl); (case hn => rfl); (case hr => first | (go_simp; done) | (go_simp; rfl)); intro w14 hw; have hg : wr.grownBy w14 (some go12) := (by rw [hw]; exact HP13.2); have hp_ : Kd.R (Kd.int .i64) 3 w14 w.heap.size (fun _ => True) (.slice (some ⟨go12, 0, none⟩) x7_1.length co8) y400 := (by rw [hw, Ny400.out]; exact HP13.1); clear HP13; replace HO_7 := Aside0.mk (hp_); replace HB := Aside0.mk ((by rw [hw]; exact below_set (HB.out) GB12.out : Below w.heap.size w w14)); clear hg hw hp_))
    (try simp only [← hl7_1])
    go_roundg k1
    case measure => have := HK1.out; omega
    case rel => exact ⟨(y400), (wrap64 (x13_1 + 1)), (by first | rfl | (simp; done) | (simp [*]; done)), H', ⟨by have := HK1.out; omega⟩, ⟨by (try simp only [hl7_1]); (with_reducible repeat (first | apply Kd.R_alloc | apply Kd.R_drewN | apply Kd.R_drew)); exact HO_7.out⟩, ⟨hB HB⟩⟩
   rw [if_neg c9] at H
   have c9b0 : decide (x13_1 < (y397.length : Int)) = false := decide_eq_false c9
   try rw [hl7_1] at c9b0
   clear c9
   by_cases c15 : 0 ≤ a2
   rotate_left
   ·rw [if_neg c15] at H
    exact absurd H (by simp)
   rw [if_pos c15] at H
   have c15b0 : decide (0 ≤ a2) = true := decide_eq_true c15
   clear c15
   by_cases c16 : a2 < (x7_1.length : Int)
   rotate_left
   ·rw [if_neg c16] at H
    exact absurd H (by simp)
   rw [if_pos c16] at H
   have c16b0 : decide (a2 < (x7_1.length : Int)) = true := decide_eq_true c16
   try rw [hl7_1] at c16b0
   clear c16
   obtain ⟨y401, hy401⟩ : ∃ y_ : List Int, y_ = (x7_1.set (a2 : Int).toNat 0) := ⟨_, rfl⟩
   replace H : (impl_fars.l1 k1 l1 y401 a0 0) = some r := by first | (rw [hy401]; with_reducible exact H) | (have H2_ := (Option.bind_some _ _).symm.trans H; rw [hy401]; with_reducible exact H2_) | (have H2_ := (Option.bind_some _ _).symm.trans H; with_reducible exact H2_) | with_reducible exact H | (rw [hy401]; exact H) | exact H
   have Ny401 := Aside0.mk hy401
   clear hy401
   have H' := Aside0.mk H
   clear H
   have p17 : 0 ≤ (a2 : Int) := od_
   have q17 : (a2 : Int) < ((x7_1.length : Int) : Int) := od_
   obtain ⟨go17, co17, eo17, gb17, gl17, cl17, HG17⟩ := Kd.R_form HO_7.out (by omega)
   (first | cases eo17 | (injection eo17 with ea_ en_ ec_; (first | subst ea_ | (injection ea_ with ea_; subst ea_)); subst ec_; clear en_))
   have GB17 := Aside0.mk gb17
   have GG17 := Aside0.mk HG17
   clear gb17 gl17 HG17
   obtain ⟨hx17_0, hf17_0⟩ := Kd.R_celln 0 HO_7.out (a2 : Int) p17 q17
   replace p17 := eq_true p17
   replace q17 := eq_true q17
   have HP18 := Kd.R_putg HO_7.out (a2 : Int) 0
   go_wp2_with (first | ((with_reducible refine gate_store (t := 3) (p := 22) rfl ?_); refine store_event (t := 3) (p := 22) (v := ?vo_w19) (w1 := (wr.setCell ⟨go17, (a2 : Int).toNat, none⟩ (.int .i64 0))) ?hg ?ho ?hn ?hr ?_; (case ho => rfl); (case hg => rfl); (case hn => rfl); (case hr => first | (go_simp; done) | (go_simp; rfl)); intro w19 hw; have hg : wr.grownBy w19 (some go17) := (by rw [hw]; exact HP18.2); have hp_ : Kd.R (Kd.int .i64) 3 w19 w.heap.size (fun _ => True) (.slice (some ⟨go17, 0, none⟩) x7_1.length co8) y401 := (by rw [hw, Ny401.out]; exact HP18.1); clear HP18; replace HO_7 := Aside0.mk (hp_); replace HB := Aside0.mk ((by rw [hw]; exact below_set (HB.out) GB17.out : Below w.heap.size w w19)); clear hg hw hp_))
   go_loopg [7, 24] k1 (fun kq v7 v24 w' => ∃ (x7_2 : List Int) (x24_2 : Int), v24 = .int .i64 x24_2 ∧ Aside0 (impl_fars.l1 kq l1 x7_2 a0 x24_2 = some r) ∧ Aside0 (kq ≤ k1) ∧ Aside0 (Kd.R (Kd.int .i64) 3 w' w.heap.size (fun _ => True) v7 x7_2) ∧ Aside0 (Below w.heap.size w w'))
   case atStart => exact ⟨(y401), (0), (by first | rfl | (simp; done) | (simp [*]; done)), H', ⟨Nat.le_refl _⟩, ⟨by (try simp only [hl7_1]); (with_reducible repeat (first | apply Kd.R_alloc | apply Kd.R_drewN | apply Kd.R_drew)); exact HO_7.out⟩, ⟨hB HB⟩⟩
   case round =>
    clear H'
    try clear c1
    try clear c4
    try clear c4b0
    try clear c4b1
    try clear c5
    try clear c5b0
    try clear c5b1
    try clear c9
    try clear c9b0
    try clear c15
    try clear c15b0
    try clear c16
    try clear c16b0
    try clear p17
    try clear q17
    try clear hx17_0
    try clear p17
    try clear q17
    obtain ⟨x7_2, x24_2, rfl, HA, HK2, HO_7, HB⟩ := hrel
    cases gk with
    | zero => exact absurd HA.out (by simp [impl_fars.l1])
    | succ k2 =>
     have H := HA.out
     clear HA
     simp only [impl_fars.l1] at H
     by_cases c20 : x24_2 < a0
     rotate_left
     ·rw [if_neg c20] at H
      have c20b0 : decide (x24_2 < a0) = false := decide_eq_false c20
      clear c20
      obtain rfl := Option.some.inj H
      go_wp2
      go_ret
      exact ⟨_, rt_, ra HO_7.out, hB HB⟩
     rw [if_pos c20] at H
     have c20b0 : decide (x24_2 < a0) = true := decide_eq_true c20
     clear c20
     replace H := Option.bind_eq_some_iff.mp H
     obtain ⟨t402, A210, H⟩ := H
     replace H : (impl_fars.l1 k2 l1 t402 a0 (wrap64 (x24_2 + 1))) = some r := H
     have A21 := Aside0.mk A210
     clear A210
     have H' := Aside0.mk H
     clear H
     obtain ⟨Ao22, co22, eo22⟩ := Kd.R_slice HO_7.out
     subst eo22
     go_wp2_with (first | (refine goesL_ (some 28) rfl rfl Try.func135 (by kernel_rfl) rfl #[.slice A1 l1.length c1, .slice Ao22 x7_2.length co22] rfl tm_ ?_; (with_reducible refine (impl_relaxed.calls k2 _ _ l1 _ _ x7_2 t402 _ ?side1 ?side2 ?side3 ?side4 A21.out).mono ?_); (case side1 => exact cb_ HR1 HB); (case side2 => exact HC1.out); (case side3 => exact ca (Kd.R_reads' HO_7.out).2.2); (case side4 => exact (Kd.R_reads' HO_7.out).2.1); rintro e w23 ⟨v403, rfl, ho0, hb⟩; refine ⟨_, rfl, ?_⟩; have HO404 := Aside0.mk (Kd.R_lower (Kd.R_new' ho0 (rl_ HO_7)) (below_size (hB HB))); replace HO_7 := re_ HO_7 ho0 hb; replace HB := bst_ HB hb; clear hb ho0))
     go_roundg k2
     case measure => have := HK1.out; have := HK2.out; omega
     case rel => exact ⟨(t402), (wrap64 (x24_2 + 1)), (by first | rfl | (simp; done) | (simp [*]; done)), H', ⟨by have := HK1.out; have := HK2.out; omega⟩, ⟨by (try simp only [hl7_1]); (with_reducible repeat (first | apply Kd.R_alloc | apply Kd.R_drewN | apply Kd.R_drew)); exact Kd.R_mono HO404.out (fun _ hk => trivial)⟩, ⟨hB HB⟩⟩

def impl_cost.l0 : Nat → Int → Int → List (S86) → Int → Int → Option (Int)
 | 0, _, _, _, _, _ => none
 | k + 1, x1, x2, x9, x10, x11 => if x11 < x10 then (if 0 ≤ x11 then (if x11 < (x9.length : Int) then (if ((rd_T86 x9 x11).f0) = (mn x1 x2) then (if ((rd_T86 x9 x11).f1) = (mx x1 x2) then (some ((rd_T86 x9 x11).f2)) else (impl_cost.l0 k x1 x2 x9 x10 (wrap64 (x11 + 1)))) else (impl_cost.l0 k x1 x2 x9 x10 (wrap64 (x11 + 1)))) else (none)) else (none)) else (some 0)
def impl_cost.f (k : Nat) (l0 : List (S86)) (a1 : Int) (a2 : Int) : Option (Int) := impl_cost.l0 k a1 a2 l0 (l0.length : Int) 0
theorem impl_cost.mono_l : ∀ k, (∀ y0 y1 y2 y3 y4, LeO (impl_cost.l0 k y0 y1 y2 y3 y4) (impl_cost.l0 (k + 1) y0 y1 y2 y3 y4))
 | 0 => fun _ _ _ _ _ r h => by simp [impl_cost.l0] at h
 | k + 1 => by
  have ih0 := impl_cost.mono_l k
  ·intro y0 y1 y2 y3 y4
   unfold impl_cost.l0
   repeat' first
   | (with_reducible exact ih0 _ _ _ _ _)
   | with_reducible first | exact LeO.refl _ | exact LeO.none _ | refine LeO.ite ?_ ?_ | refine LeO.bind ?_ fun _ => ?_
theorem impl_cost.mono : ∀ a0 a1 a2 k, LeO (impl_cost.f k a0 a1 a2) (impl_cost.f (k + 1) a0 a1 a2) := by
 intro a0 a1 a2 k
 have ih0 := impl_cost.mono_l k
 unfold impl_cost.f
 repeat' first
   | (with_reducible exact ih0 _ _ _ _ _)
   | with_reducible first | exact LeO.refl _ | exact LeO.none _ | refine LeO.ite ?_ ?_ | refine LeO.bind ?_ fun _ => ?_
set_option maxHeartbeats 8000000 in
set_option maxRecDepth 100000 in
theorem impl_cost.calls (k : Nat) (A0 : Option Addr) (c0 : Nat) (l0 : List (S86)) (a1 : Int) (a2 : Int) (r : Int) (w : World) (hr0 : Kd.C k86 w A0 l0.length l0) (hc0 : l0.length ≤ c0) (h : impl_cost.f k l0 a1 a2 = some r) :
  Calls Try.prog 136 #[.slice A0 l0.length c0, .int .i64 a1, .int .i64 a2] w fun e w' => e = .returned (.int .i64 r) ∧ Below w.heap.size w w' := by
 have hu86 := Try.underlying86
 have HR0 := Aside0.mk hr0
 have HC0 := Aside0.mk hc0
 clear hr0 hc0
 have HB := Aside0.mk (Below.refl w.heap.size w)
 have H : (impl_cost.l0 k a1 a2 l0 (l0.length : Int) 0) = some r := h
 clear h
 have H' := Aside0.mk H
 clear H
 go_enter Try.func136, Try.ntmps136
 go_wp2
 go_loopg [11] k (fun kq v11 w' => ∃ (x11_1 : Int), v11 = .int .i64 x11_1 ∧ Aside0 (impl_cost.l0 kq a1 a2 l0 (l0.length : Int) x11_1 = some r) ∧ Aside0 (kq ≤ k) ∧ Aside0 (Below w.heap.size w w'))
 case atStart => exact ⟨(0), (by first | rfl | (simp; done) | (simp [*]; done)), H', ⟨Nat.le_refl _⟩, ⟨hB HB⟩⟩
 case round =>
  clear H'
  obtain ⟨x11_1, rfl, HA, HK1, HB⟩ := hrel
  cases gk with
  | zero => exact absurd HA.out (by simp [impl_cost.l0])
  | succ k1 =>
   have H := HA.out
   clear HA
   simp only [impl_cost.l0] at H
   by_cases c4 : x11_1 < (l0.length : Int)
   rotate_left
   ·rw [if_neg c4] at H
    have c4b0 : decide (x11_1 < (l0.length : Int)) = false := decide_eq_false c4
    clear c4
    obtain rfl := Option.some.inj H
    go_wp2
    go_ret
    exact ⟨rt_, hB HB⟩
   rw [if_pos c4] at H
   have c4b0 : decide (x11_1 < (l0.length : Int)) = true := decide_eq_true c4
   clear c4
   by_cases c5 : 0 ≤ x11_1
   rotate_left
   ·rw [if_neg c5] at H
    exact absurd H (by simp)
   rw [if_pos c5] at H
   have c5b0 : decide (0 ≤ x11_1) = true := decide_eq_true c5
   clear c5
   by_cases c6 : x11_1 < (l0.length : Int)
   rotate_left
   ·rw [if_neg c6] at H
    exact absurd H (by simp)
   rw [if_pos c6] at H
   have c6b0 : decide (x11_1 < (l0.length : Int)) = true := decide_eq_true c6
   clear c6
   obtain ⟨ji7, hji7⟩ : ∃ j_ : Int, (mn a1 a2) = j_ := ⟨_, rfl⟩
   replace H : (if ((rd_T86 l0 x11_1).f0) = (ji7) then (if ((rd_T86 l0 x11_1).f1) = (mx a1 a2) then (some ((rd_T86 l0 x11_1).f2)) else (impl_cost.l0 k1 a1 a2 l0 (l0.length : Int) (wrap64 (x11_1 + 1)))) else (impl_cost.l0 k1 a1 a2 l0 (l0.length : Int) (wrap64 (x11_1 + 1)))) = some r := by first | (rw [hji7] at H; exact H) | (simp only [hji7] at H ⊢; exact H)
   have hji7_ : (if a2 < a1 then a2 else a1) = ji7 := hji7
   by_cases c8 : ((rd_T86 l0 x11_1).f0) = (ji7)
   rotate_left
   ·rw [if_neg c8] at H
    have c8b0 : (((rd_T86 l0 x11_1).f0) == (ji7)) = false := beq_eq_false_iff_ne.mpr c8
    have c8b1 : (((rd_T86 l0 x11_1).f0) != (ji7)) = true := bne_iff_ne.mpr c8
    have H' := Aside0.mk H
    clear H
    have p405 : 0 ≤ (x11_1 : Int) := od_
    have q405 : x11_1 < (l0.length : Int) := od_
    obtain ⟨ad405, e405, hx405_0, hx405_1, hx405_2⟩ := at_T86 HR0.out x11_1 p405 q405
    cases e405
    replace hx405_0 := hc_ HB hx405_0
    replace hx405_1 := hc_ HB hx405_1
    replace hx405_2 := hc_ HB hx405_2
    replace p405 := eq_true p405
    replace q405 := eq_true q405
    go_wp2_with (first | ((with_reducible refine gate_dst (N := 8) rfl ?_); (try (refine gate_guard (by rfl) ?_; dsimp only)); refine box_event ?hg (N := 8) ?hd (cs := #[.int .i64 0, .int .i64 0, .int .i64 0]) (t := 86) ?hr ?_; (case hd => rfl); (case hg => rfl); (case hr => first | (go_simp; done) | (go_simp; rfl)); intro gb406 hg w15 hbox hb; have BK406 := Aside0.mk (hbox); have GW406 := gw_ hg HB; have GE406 := gw_ hg HB; replace HB := bst_ HB hb; clear hb hbox hg; obtain ⟨hcz16_0, hcz16_1, hcz16_2⟩ := bcs3_ BK406; have hfz16_0 := blk_frozen BK406.out 0; have hfz16_1 := blk_frozen BK406.out 1; have hfz16_2 := blk_frozen BK406.out 2))
    go_roundg k1
    case measure => have := HK1.out; omega
    case rel => exact ⟨(wrap64 (x11_1 + 1)), (by first | rfl | (simp; done) | (simp [*]; done)), H', ⟨by have := HK1.out; omega⟩, ⟨hB HB⟩⟩
   rw [if_pos c8] at H
   have c8b0 : (((rd_T86 l0 x11_1).f0) == (ji7)) = true := beq_iff_eq.mpr c8
   have c8b1 : (((rd_T86 l0 x11_1).f0) != (ji7)) = false := bne_eq_false_iff_eq.mpr c8
   clear c8
   obtain ⟨ji9, hji9⟩ : ∃ j_ : Int, (mx a1 a2) = j_ := ⟨_, rfl⟩
   replace H : (if ((rd_T86 l0 x11_1).f1) = (ji9) then (some ((rd_T86 l0 x11_1).f2)) else (impl_cost.l0 k1 a1 a2 l0 (l0.length : Int) (wrap64 (x11_1 + 1)))) = some r := by first | (rw [hji9] at H; exact H) | (simp only [hji9] at H ⊢; exact H)
   have hji9_ : (if a1 < a2 then a2 else a1) = ji9 := hji9
   by_cases c10 : ((rd_T86 l0 x11_1).f1) = (ji9)
   rotate_left
   ·rw [if_neg c10] at H
    have c10b0 : (((rd_T86 l0 x11_1).f1) == (ji9)) = false := beq_eq_false_iff_ne.mpr c10
    have c10b1 : (((rd_T86 l0 x11_1).f1) != (ji9)) = true := bne_iff_ne.mpr c10
    have H' := Aside0.mk H
    clear H
    have p405 : 0 ≤ (x11_1 : Int) := od_
    have q405 : x11_1 < (l0.length : Int) := od_
    obtain ⟨ad405, e405, hx405_0, hx405_1, hx405_2⟩ := at_T86 HR0.out x11_1 p405 q405
    cases e405
    replace hx405_0 := hc_ HB hx405_0
    replace hx405_1 := hc_ HB hx405_1
    replace hx405_2 := hc_ HB hx405_2
    replace p405 := eq_true p405
    replace q405 := eq_true q405
    go_wp2_with (first | ((with_reducible refine gate_dst (N := 8) rfl ?_); (try (refine gate_guard (by rfl) ?_; dsimp only)); refine box_event ?hg (N := 8) ?hd (cs := #[.int .i64 0, .int .i64 0, .int .i64 0]) (t := 86) ?hr ?_; (case hd => rfl); (case hg => rfl); (case hr => first | (go_simp; done) | (go_simp; rfl)); intro gb406 hg w13 hbox hb; have BK406 := Aside0.mk (hbox); have GW406 := gw_ hg HB; have GE406 := gw_ hg HB; replace HB := bst_ HB hb; clear hb hbox hg; obtain ⟨hcz14_0, hcz14_1, hcz14_2⟩ := bcs3_ BK406; have hfz14_0 := blk_frozen BK406.out 0; have hfz14_1 := blk_frozen BK406.out 1; have hfz14_2 := blk_frozen BK406.out 2))
    go_roundg k1
    case measure => have := HK1.out; omega
    case rel => exact ⟨(wrap64 (x11_1 + 1)), (by first | rfl | (simp; done) | (simp [*]; done)), H', ⟨by have := HK1.out; omega⟩, ⟨hB HB⟩⟩
   rw [if_pos c10] at H
   have c10b0 : (((rd_T86 l0 x11_1).f1) == (ji9)) = true := beq_iff_eq.mpr c10
   have c10b1 : (((rd_T86 l0 x11_1).f1) != (ji9)) = false := bne_eq_false_iff_eq.mpr c10
   clear c10
   obtain rfl := Option.some.inj H
   have p405 : 0 ≤ (x11_1 : Int) := od_
   have q405 : x11_1 < (l0.length : Int) := od_
   obtain ⟨ad405, e405, hx405_0, hx405_1, hx405_2⟩ := at_T86 HR0.out x11_1 p405 q405
   cases e405
   replace hx405_0 := hc_ HB hx405_0
   replace hx405_1 := hc_ HB hx405_1
   replace hx405_2 := hc_ HB hx405_2
   replace p405 := eq_true p405
   replace q405 := eq_true q405
   go_wp2_with (first | ((with_reducible refine gate_dst (N := 8) rfl ?_); (try (refine gate_guard (by rfl) ?_; dsimp only)); refine box_event ?hg (N := 8) ?hd (cs := #[.int .i64 0, .int .i64 0, .int .i64 0]) (t := 86) ?hr ?_; (case hd => rfl); (case hg => rfl); (case hr => first | (go_simp; done) | (go_simp; rfl)); intro gb406 hg w11 hbox hb; have BK406 := Aside0.mk (hbox); have GW406 := gw_ hg HB; have GE406 := gw_ hg HB; replace HB := bst_ HB hb; clear hb hbox hg; obtain ⟨hcz12_0, hcz12_1, hcz12_2⟩ := bcs3_ BK406; have hfz12_0 := blk_frozen BK406.out 0; have hfz12_1 := blk_frozen BK406.out 1; have hfz12_2 := blk_frozen BK406.out 2))
   go_ret
   exact ⟨by first | rfl | (simp [errW_none, errW_some] <;> rfl) | (simp only [← hji7, ← hji9]; first | rfl | (simp [errW_none, errW_some] <;> rfl)) | (simp [*, errW_none, errW_some] <;> rfl), hB HB⟩

def impl_near.l0 : Nat → List (S86) → Int → List Int → Int → Int → Option (List Int)
 | 0, _, _, _, _, _ => none
 | k + 1, x1, x2, x7, x9, x10 => if x10 < x9 then ((impl_cost.f k x1 x2 x10).bind fun t407 => (if t407 > 0 then (if x7.length < 17592186044416 then (impl_near.l0 k x1 x2 (x7 ++ [x10]) x9 (wrap64 (x10 + 1))) else (none)) else (impl_near.l0 k x1 x2 x7 x9 (wrap64 (x10 + 1))))) else (some x7)
def impl_near.f (k : Nat) (a0 : Int) (l1 : List (S86)) (a2 : Int) : Option (List Int) := impl_near.l0 k l1 a2 ([] : List Int) a0 0
theorem impl_near.mono_l : ∀ k, (∀ y0 y1 y2 y3 y4, LeO (impl_near.l0 k y0 y1 y2 y3 y4) (impl_near.l0 (k + 1) y0 y1 y2 y3 y4))
 | 0 => fun _ _ _ _ _ r h => by simp [impl_near.l0] at h
 | k + 1 => by
  have ih0 := impl_near.mono_l k
  ·intro y0 y1 y2 y3 y4
   unfold impl_near.l0
   repeat' first
   | (with_reducible exact ih0 _ _ _ _ _)
   | (with_reducible exact impl_cost.mono _ _ _ _)
   | with_reducible first | exact LeO.refl _ | exact LeO.none _ | refine LeO.ite ?_ ?_ | refine LeO.bind ?_ fun _ => ?_
theorem impl_near.mono : ∀ a0 a1 a2 k, LeO (impl_near.f k a0 a1 a2) (impl_near.f (k + 1) a0 a1 a2) := by
 intro a0 a1 a2 k
 have ih0 := impl_near.mono_l k
 unfold impl_near.f
 repeat' first
   | (with_reducible exact ih0 _ _ _ _ _)
   | (with_reducible exact impl_cost.mono _ _ _ _)
   | with_reducible first | exact LeO.refl _ | exact LeO.none _ | refine LeO.ite ?_ ?_ | refine LeO.bind ?_ fun _ => ?_
set_option maxHeartbeats 8000000 in
set_option maxRecDepth 100000 in
theorem impl_near.calls (k : Nat) (a0 : Int) (A1 : Option Addr) (c1 : Nat) (l1 : List (S86)) (a2 : Int) (r : List Int) (w : World) (hr1 : Kd.C k86 w A1 l1.length l1) (hc1 : l1.length ≤ c1) (h : impl_near.f k a0 l1 a2 = some r) :
  Calls Try.prog 113 #[.int .i64 a0, .slice A1 l1.length c1, .int .i64 a2] w fun e w' => ∃ v0_ : Value, e = .returned (v0_) ∧ Kd.R (Kd.int .i64) 3 w' w.heap.size (fun _ => True) v0_ r ∧ Below w.heap.size w w' := by
 have HR1 := Aside0.mk hr1
 have HC1 := Aside0.mk hc1
 clear hr1 hc1
 have HB := Aside0.mk (Below.refl w.heap.size w)
 have H : (impl_near.l0 k l1 a2 ([] : List Int) a0 0) = some r := h
 clear h
 have H' := Aside0.mk H
 clear H
 go_enter Try.func113, Try.ntmps113
 go_wp2
 go_loopg [7, 10] k (fun kq v7 v10 w' => ∃ (x7_1 : List Int) (x10_1 : Int), v10 = .int .i64 x10_1 ∧ Aside0 (impl_near.l0 kq l1 a2 x7_1 a0 x10_1 = some r) ∧ Aside0 (kq ≤ k) ∧ Aside0 (Kd.R (Kd.int .i64) 3 w' w.heap.size (fun _ => True) v7 x7_1) ∧ Aside0 (Below w.heap.size w w'))
 case atStart => exact ⟨(([] : List Int)), (0), (by first | rfl | (simp; done) | (simp [*]; done)), H', ⟨Nat.le_refl _⟩, ⟨by first | exact Kd.R_nil _ _ _ _ _ | exact Kd.N_nil _ _ _ _ _ | exact Kd.V_nil _ _ _ _ _ | exact Kd.Q_nil _ _ _ _ _ | exact Kd.S_nil _ _ _ _ _⟩, ⟨hB HB⟩⟩
 case round =>
  clear H'
  try clear c1
  obtain ⟨x7_1, x10_1, rfl, HA, HK1, HO_7, HB⟩ := hrel
  cases gk with
  | zero => exact absurd HA.out (by simp [impl_near.l0])
  | succ k1 =>
   have H := HA.out
   clear HA
   simp only [impl_near.l0] at H
   by_cases c4 : x10_1 < a0
   rotate_left
   ·rw [if_neg c4] at H
    have c4b0 : decide (x10_1 < a0) = false := decide_eq_false c4
    clear c4
    obtain rfl := Option.some.inj H
    go_wp2
    go_ret
    exact ⟨_, rt_, ra HO_7.out, hB HB⟩
   rw [if_pos c4] at H
   have c4b0 : decide (x10_1 < a0) = true := decide_eq_true c4
   clear c4
   replace H := Option.bind_eq_some_iff.mp H
   obtain ⟨t407, A50, H⟩ := H
   replace H : (if t407 > 0 then (if x7_1.length < 17592186044416 then (impl_near.l0 k1 l1 a2 (x7_1 ++ [x10_1]) a0 (wrap64 (x10_1 + 1))) else (none)) else (impl_near.l0 k1 l1 a2 x7_1 a0 (wrap64 (x10_1 + 1)))) = some r := H
   have A5 := Aside0.mk A50
   clear A50
   by_cases c6 : t407 > 0
   rotate_left
   ·rw [if_neg c6] at H
    have c6b0 : decide (0 < t407) = false := decide_eq_false c6
    clear c6
    have H' := Aside0.mk H
    clear H
    go_wp2_with (first | (refine goesL_ (some 16) rfl rfl Try.func136 (by kernel_rfl) rfl #[.slice A1 l1.length c1, .int .i64 a2, .int .i64 x10_1] rfl tm_ ?_; (with_reducible refine (impl_cost.calls k1 _ _ l1 a2 x10_1 t407 _ ?side1 ?side2 A5.out).mono ?_); (case side1 => exact cb_ HR1 HB); (case side2 => exact HC1.out); rintro e w10 ⟨rfl, hb⟩; refine ⟨_, rfl, ?_⟩; replace HO_7 := rb_ HO_7 hb; replace HB := bst_ HB hb; clear hb))
    go_roundg k1
    case measure => have := HK1.out; omega
    case rel => exact ⟨(x7_1), (wrap64 (x10_1 + 1)), (by first | rfl | (simp; done) | (simp [*]; done)), H', ⟨by have := HK1.out; omega⟩, ⟨ra HO_7.out⟩, ⟨hB HB⟩⟩
   rw [if_pos c6] at H
   have c6b0 : decide (0 < t407) = true := decide_eq_true c6
   clear c6
   by_cases c7 : x7_1.length < 17592186044416
   rotate_left
   ·rw [if_neg c7] at H
    exact absurd H (by simp)
   rw [if_pos c7] at H
   have LMc7 := Aside0.mk c7
   clear c7
   obtain ⟨y408, hy408⟩ : ∃ y_ : List Int, y_ = (x7_1 ++ [x10_1]) := ⟨_, rfl⟩
   replace H : (impl_near.l0 k1 l1 a2 y408 a0 (wrap64 (x10_1 + 1))) = some r := by first | (rw [hy408]; with_reducible exact H) | (have H2_ := (Option.bind_some _ _).symm.trans H; rw [hy408]; with_reducible exact H2_) | (have H2_ := (Option.bind_some _ _).symm.trans H; with_reducible exact H2_) | with_reducible exact H | (rw [hy408]; exact H) | exact H
   have Ny408 := Aside0.mk hy408
   clear hy408
   have H' := Aside0.mk H
   clear H
   go_wp2_with (first | (refine goesL_ (some 16) rfl rfl Try.func136 (by kernel_rfl) rfl #[.slice A1 l1.length c1, .int .i64 a2, .int .i64 x10_1] rfl tm_ ?_; (with_reducible refine (impl_cost.calls k1 _ _ l1 a2 x10_1 t407 _ ?side1 ?side2 A5.out).mono ?_); (case side1 => exact cb_ HR1 HB); (case side2 => exact HC1.out); rintro e w8 ⟨rfl, hb⟩; refine ⟨_, rfl, ?_⟩; replace HO_7 := rb_ HO_7 hb; replace HB := bst_ HB hb; clear hb) | ((with_reducible refine gate_builtin (b := .append) (xs := #[.tmp 18, .tmp 20]) rfl ?_); at_builtin; refine Kd.R_append (Kd.int .i64) (w0 := w) w.heap.size rfl (.tmp 18) (.tmp 20) 23 3 (.int .i64 0) 8 rfl Try.underlying23 info3 rfl (by decide) (by omega) u7 x7_1 x10_1 [.int .i64 x10_1] (fun _ => True) (fun _ => False) rfl rfl ?aP (fun _ hk => hk.elim) ?aF ?aO ?aB ?aS ?aL ?_; (case aP => exact rfl); (case aB => exact (hB HB)); (case aF => exact (fun _ _ => trivial)); (case aO => exact (ra HO_7.out)); (case aS => exact (below_size (hB HB))); (case aL => have := LMc7.out; omega); intro v409 w9 ho hb hg hat; rw [← Ny408.out] at ho; have HO410 := Aside0.mk (ho); replace HB := Aside0.mk (hb); clear HO_7; clear ho hb hg hat))
   go_roundg k1
   case measure => have := HK1.out; omega
   case rel => exact ⟨(y408), (wrap64 (x10_1 + 1)), (by first | rfl | (simp; done) | (simp [*]; done)), H', ⟨by have := HK1.out; omega⟩, ⟨ra HO410.out⟩, ⟨hB HB⟩⟩

end Go.Proofs.Ytpohlcjkabojcaa.P
