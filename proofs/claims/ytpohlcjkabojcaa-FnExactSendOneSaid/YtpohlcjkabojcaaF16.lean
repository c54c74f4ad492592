import Derived.Test.YtpohlcjkabojcaaF0
import Derived.Test.YtpohlcjkabojcaaF1
import Derived.Test.YtpohlcjkabojcaaF11
namespace Go.Proofs.Ytpohlcjkabojcaa.P
open Go.RowKit Go.Proofs.YtpohlcjkabojcaaW.PrintWords Go.Proofs.YtpohlcjkabojcaaW.PrintLast Go.Proofs.YtpohlcjkabojcaaW.PrintMore
attribute [local go_sem] max2_int min2_int max_two min_two max_three min_three max_four min_four   -- for this text's walks alone
set_option linter.unusedVariables false
set_option linter.unusedSimpArgs false

def spec_l9Two.f (k : Nat) (a0 : Int) (l1 : List (S86)) (a2 : Int) (a3 : Int) : Option (Bool) := (spec_GoodEdges.f k a0 l1).bind fun t499 => (if t499 = true then ((spec_l1In.f a2 0 (wrap64 (a0 - 1))).bind fun t500 => (if t500 = true then ((spec_l1In.f a3 0 (wrap64 (a0 - 1))).bind fun t501 => (some t501)) else (some false))) else (some false))
theorem spec_l9Two.mono : ∀ a0 a1 a2 a3 k, LeO (spec_l9Two.f k a0 a1 a2 a3) (spec_l9Two.f (k + 1) a0 a1 a2 a3) := by
 intro a0 a1 a2 a3 k
 unfold spec_l9Two.f
 repeat' first
   | (with_reducible exact spec_GoodEdges.mono _ _ _)
   | with_reducible first | exact LeO.refl _ | exact LeO.none _ | refine LeO.ite ?_ ?_ | refine LeO.bind ?_ fun _ => ?_
set_option maxHeartbeats 8000000 in
set_option maxRecDepth 100000 in
theorem spec_l9Two.calls (k : Nat) (a0 : Int) (A1 : Option Addr) (c1 : Nat) (l1 : List (S86)) (a2 : Int) (a3 : Int) (r : Bool) (w : World) (hr1 : Kd.C k86 w A1 l1.length l1) (hc1 : l1.length ≤ c1) (h : spec_l9Two.f k a0 l1 a2 a3 = some r) :
  Calls Try.prog 103 #[.int .i64 a0, .slice A1 l1.length c1, .int .i64 a2, .int .i64 a3] w fun e w' => e = .returned (.bool r) ∧ Below w.heap.size w w' := by
 have HR1 := Aside0.mk hr1
 have HC1 := Aside0.mk hc1
 clear hr1 hc1
 have HB := Aside0.mk (Below.refl w.heap.size w)
 have H : ((spec_GoodEdges.f k a0 l1).bind fun t499 => (if t499 = true then ((spec_l1In.f a2 0 (wrap64 (a0 - 1))).bind fun t500 => (if t500 = true then ((spec_l1In.f a3 0 (wrap64 (a0 - 1))).bind fun t501 => (some t501)) else (some false))) else (some false))) = some r := h
 clear h
 replace H := Option.bind_eq_some_iff.mp H
 obtain ⟨t499, A50, H⟩ := H
 replace H : (if t499 = true then ((spec_l1In.f a2 0 (wrap64 (a0 - 1))).bind fun t500 => (if t500 = true then ((spec_l1In.f a3 0 (wrap64 (a0 - 1))).bind fun t501 => (some t501)) else (some false))) else (some false)) = some r := H
 have A5 := Aside0.mk A50
 clear A50
 by_cases c6 : t499 = true
 rotate_left
 ·replace c6 := Bool.eq_false_iff.mpr c6
  subst c6
  rw [if_neg (show ¬ (false = true) by decide)] at H
  obtain rfl := Option.some.inj H
  go_enter Try.func103, Try.ntmps103
  go_wp2_with (first | (refine goesL_ (some 11) rfl rfl Try.func68 (by kernel_rfl) rfl #[.int .i64 a0, .slice A1 l1.length c1] rfl tm_ ?_; (with_reducible refine (spec_GoodEdges.calls k a0 _ _ l1 false _ ?side1 ?side2 A5.out).mono ?_); (case side1 => exact ca HR1.out); (case side2 => exact HC1.out); rintro e w12 ⟨rfl, hb⟩; refine ⟨_, rfl, ?_⟩; replace HB := bst_ HB hb; clear hb))
  go_ret
  exact ⟨rt_, hB HB⟩
 subst c6
 rw [if_pos rfl] at H
 replace H := Option.bind_eq_some_iff.mp H
 obtain ⟨t500, A70, H⟩ := H
 replace H : (if t500 = true then ((spec_l1In.f a3 0 (wrap64 (a0 - 1))).bind fun t501 => (some t501)) else (some false)) = some r := H
 have A7 := Aside0.mk A70
 clear A70
 by_cases c8 : t500 = true
 rotate_left
 ·replace c8 := Bool.eq_false_iff.mpr c8
  subst c8
  rw [if_neg (show ¬ (false = true) by decide)] at H
  obtain rfl := Option.some.inj H
  go_enter Try.func103, Try.ntmps103
  go_wp2_with (first | (refine goesL_ (some 11) rfl rfl Try.func68 (by kernel_rfl) rfl #[.int .i64 a0, .slice A1 l1.length c1] rfl tm_ ?_; (with_reducible refine (spec_GoodEdges.calls k a0 _ _ l1 true _ ?side1 ?side2 A5.out).mono ?_); (case side1 => exact ca HR1.out); (case side2 => exact HC1.out); rintro e w11 ⟨rfl, hb⟩; refine ⟨_, rfl, ?_⟩; replace HB := bst_ HB hb; clear hb) | (go_at_call 109; (with_reducible refine (spec_l1In.calls a2 0 (wrap64 (a0 - 1)) false _ A7.out).mono ?_); rintro e w' ⟨rfl, ⟨nd, rfl⟩⟩))
  go_ret
  exact ⟨rt_, hB HB⟩
 subst c8
 rw [if_pos rfl] at H
 replace H := Option.bind_eq_some_iff.mp H
 obtain ⟨t501, A90, H⟩ := H
 replace H : (some t501) = some r := H
 have A9 := Aside0.mk A90
 clear A90
 obtain rfl := Option.some.inj H
 go_enter Try.func103, Try.ntmps103
 go_wp2_with (first | (refine goesL_ (some 11) rfl rfl Try.func68 (by kernel_rfl) rfl #[.int .i64 a0, .slice A1 l1.length c1] rfl tm_ ?_; (with_reducible refine (spec_GoodEdges.calls k a0 _ _ l1 true _ ?side1 ?side2 A5.out).mono ?_); (case side1 => exact ca HR1.out); (case side2 => exact HC1.out); rintro e w10 ⟨rfl, hb⟩; refine ⟨_, rfl, ?_⟩; replace HB := bst_ HB hb; clear hb) | (go_at_call 109; (with_reducible refine (spec_l1In.calls a2 0 (wrap64 (a0 - 1)) true _ A7.out).mono ?_); rintro e w' ⟨rfl, ⟨nd, rfl⟩⟩) | (go_at_call 109; (with_reducible refine (spec_l1In.calls a3 0 (wrap64 (a0 - 1)) t501 _ A9.out).mono ?_); rintro e w' ⟨rfl, ⟨nd, rfl⟩⟩))
 go_ret
 exact ⟨rt_, hB HB⟩

def spec_l9Relax.l0 : Nat → List Int → List Int → List (S86) → Int → Int → Option (List Int)
 | 0, _, _, _, _, _ => none
 | k + 1, x1, x5, x11, x12, x13 => if x13 < x12 then (if 0 ≤ x13 then (if x13 < (x11.length : Int) then (if 0 ≤ ((rd_T86 x11 x13).f0) then (if ((rd_T86 x11 x13).f0) < (x5.length : Int) then (if 0 ≤ ((rd_T86 x11 x13).f1) then (if ((rd_T86 x11 x13).f1) < (x1.length : Int) then ((spec_l1Least.f (rd x5 ((rd_T86 x11 x13).f0)) (wrap64 ((rd x1 ((rd_T86 x11 x13).f1)) + ((rd_T86 x11 x13).f2)))).bind fun t512 => ((some (x5.set (((rd_T86 x11 x13).f0) : Int).toNat t512 : List Int)).bind fun y513 => (if ((rd_T86 x11 x13).f1) < (x5.length : Int) then (if ((rd_T86 x11 x13).f0) < (x1.length : Int) then ((spec_l1Least.f (rd y513 ((rd_T86 x11 x13).f1)) (wrap64 ((rd x1 ((rd_T86 x11 x13).f0)) + ((rd_T86 x11 x13).f2)))).bind fun t516 => (spec_l9Relax.l0 k x1 (y513.set (((rd_T86 x11 x13).f1) : Int).toNat t516) x11 x12 (wrap64 (x13 + 1)))) else (none)) else (none)))) else (none)) else (none)) else (none)) else (none)) else (none)) else (none)) else (some x5)
def spec_l9Relax.f (k : Nat) (l0 : List (S86)) (l1 : List Int) : Option (List Int) := (some (([] : List Int) : List Int)).bind fun y502 => (if y502.length + l1.length < 17592186044416 then (spec_l9Relax.l0 k l1 (y502 ++ l1) l0 (l0.length : Int) 0) else (none))
theorem spec_l9Relax.mono_l : ∀ k, (∀ y0 y1 y2 y3 y4, LeO (spec_l9Relax.l0 k y0 y1 y2 y3 y4) (spec_l9Relax.l0 (k + 1) y0 y1 y2 y3 y4))
 | 0 => fun _ _ _ _ _ r h => by simp [spec_l9Relax.l0] at h
 | k + 1 => by
  have ih0 := spec_l9Relax.mono_l k
  ·intro y0 y1 y2 y3 y4
   unfold spec_l9Relax.l0
   repeat' first
   | (with_reducible exact ih0 _ _ _ _ _)
   | with_reducible first | exact LeO.refl _ | exact LeO.none _ | refine LeO.ite ?_ ?_ | refine LeO.bind ?_ fun _ => ?_
theorem spec_l9Relax.mono : ∀ a0 a1 k, LeO (spec_l9Relax.f k a0 a1) (spec_l9Relax.f (k + 1) a0 a1) := by
 intro a0 a1 k
 have ih0 := spec_l9Relax.mono_l k
 unfold spec_l9Relax.f
 repeat' first
   | (with_reducible exact ih0 _ _ _ _ _)
   | with_reducible first | exact LeO.refl _ | exact LeO.none _ | refine LeO.ite ?_ ?_ | refine LeO.bind ?_ fun _ => ?_
def spec_l9Relax.T5 : Bool × List (List Nat × List Nat) := (true, [([], []), ([], []), ([1], [1]), ([], []), ([], []), ([4], [4]), ([3, 5], [3, 5]), ([6], [6]), ([], []), ([], []), ([9], [9]), ([8, 10], [8, 10]), ([11], [11]), ([], []), ([13], [13]), ([12, 14], [12, 14]), ([7, 15], [7, 15]), ([0, 2, 0, 1, 2, 3, 4, 5, 6, 7, 8, 9, 10, 11, 12, 13, 14, 15, 16], [0, 2]), ([17, 16, 16, 0, 1, 2, 3, 4, 5, 6, 7, 8, 9, 10, 11, 12, 13, 14, 15, 16], [16, 17])])
def spec_l9Relax.B5 : List Nat := [0, 0, 2, 0, 0, 16, 56, 120, 0, 0, 512, 1792, 3840, 0, 8192, 32512, 65528, 131071, 262143]
theorem spec_l9Relax.tab5 : rtab .any (opsOf Try.f132 5) = spec_l9Relax.T5 := by kernel_rfl
theorem spec_l9Relax.bits5 : waitsOk spec_l9Relax.T5.2 spec_l9Relax.B5 = true := by kernel_rfl
def spec_l9Relax.T6 : Bool × List (List Nat × List Nat) := (true, [([], []), ([], []), ([1], [1]), ([], []), ([], []), ([4], [4]), ([3, 5], [3, 5]), ([6], [6]), ([], []), ([], []), ([9], [9]), ([8, 10], [8, 10]), ([11], [11]), ([], []), ([13], [13]), ([12, 14], [12, 14]), ([7, 15], [7, 15]), ([0, 2, 0, 1, 2, 3, 4, 5, 6, 7, 8, 9, 10, 11, 12, 13, 14, 15, 16], [0, 2]), ([17, 16, 16, 0, 1, 2, 3, 4, 5, 6, 7, 8, 9, 10, 11, 12, 13, 14, 15, 16], [16, 17])])
def spec_l9Relax.B6 : List Nat := [0, 0, 2, 0, 0, 16, 56, 120, 0, 0, 512, 1792, 3840, 0, 8192, 32512, 65528, 131071, 262143]
theorem spec_l9Relax.tab6 : rtab .any (opsOf Try.f132 6) = spec_l9Relax.T6 := by kernel_rfl
theorem spec_l9Relax.bits6 : waitsOk spec_l9Relax.T6.2 spec_l9Relax.B6 = true := by kernel_rfl
set_option maxHeartbeats 8000000 in
set_option maxRecDepth 100000 in
theorem spec_l9Relax.calls (k : Nat) (A0 : Option Addr) (c0 : Nat) (l0 : List (S86)) (A1 : Option Addr) (c1 : Nat) (l1 : List Int) (r : List Int) (w : World) (hr0 : Kd.C k86 w A0 l0.length l0) (hc0 : l0.length ≤ c0) (hr1 : Kd.C (Kd.int .i64) w A1 l1.length l1) (hc1 : l1.length ≤ c1) (h : spec_l9Relax.f k l0 l1 = some r) :
  Calls Try.prog 132 #[.slice A0 l0.length c0, .slice A1 l1.length c1] w fun e w' => ∃ v0_ : Value, e = .returned (v0_) ∧ Kd.R (Kd.int .i64) 3 w' w.heap.size (fun _ => True) v0_ r ∧ Below w.heap.size w w' := by
 have hu86 := Try.underlying86
 have HR0 := Aside0.mk hr0
 have HC0 := Aside0.mk hc0
 clear hr0 hc0
 have HR1 := Aside0.mk hr1
 have HC1 := Aside0.mk hc1
 clear hr1 hc1
 have HB := Aside0.mk (Below.refl w.heap.size w)
 have H : ((some (([] : List Int) : List Int)).bind fun y502 => (if y502.length + l1.length < 17592186044416 then (spec_l9Relax.l0 k l1 (y502 ++ l1) l0 (l0.length : Int) 0) else (none))) = some r := h
 clear h
 obtain ⟨y502, hy502⟩ : ∃ y_ : List Int, y_ = (([] : List Int)) := ⟨_, rfl⟩
 replace H : (if y502.length + l1.length < 17592186044416 then (spec_l9Relax.l0 k l1 (y502 ++ l1) l0 (l0.length : Int) 0) else (none)) = some r := by first | (rw [hy502]; with_reducible exact H) | (have H2_ := (Option.bind_some _ _).symm.trans H; rw [hy502]; with_reducible exact H2_) | (have H2_ := (Option.bind_some _ _).symm.trans H; with_reducible exact H2_) | with_reducible exact H | (rw [hy502]; exact H) | exact H
 have Ny502 := Aside0.mk hy502
 clear hy502
 by_cases c3 : y502.length + l1.length < 17592186044416
 rotate_left
 ·rw [if_neg c3] at H
  exact absurd H (by simp)
 rw [if_pos c3] at H
 have LMc3 := Aside0.mk c3
 clear c3
 obtain ⟨y505, hy505⟩ : ∃ y_ : List Int, y_ = (y502 ++ l1) := ⟨_, rfl⟩
 replace H : (spec_l9Relax.l0 k l1 y505 l0 (l0.length : Int) 0) = some r := by first | (rw [hy505]; with_reducible exact H) | (have H2_ := (Option.bind_some _ _).symm.trans H; rw [hy505]; with_reducible exact H2_) | (have H2_ := (Option.bind_some _ _).symm.trans H; with_reducible exact H2_) | with_reducible exact H | (rw [hy505]; exact H) | exact H
 have Ny505 := Aside0.mk hy505
 clear hy505
 have H' := Aside0.mk H
 clear H
 go_enter Try.func132, Try.ntmps132
 go_wp2_with (first | ((with_reducible refine gate_dst (N := 8) rfl ?_); refine Kd.R_lit (Kd.int .i64) _ 3 ?hg (N := 8) ?hd (xs := ([] : List Int)) (inner := []) (ok := fun _ => True) (okp := fun _ => True) ?hr ?hp (fun _ hk => hk) trivial (Below.refl _ _) (Nat.le_refl _) (by simp) ?_; (case hd => rfl); (case hg => rfl); (case hr => first | (go_simp; done) | (go_simp; rfl)); (case hp => exact (Reps.none _ _)); intro v503 w4 ho5 hb hg_ hnew_; clear hg_ hnew_; (first | rw [← Ny502.out] at ho5 | (simp only [Int.reduceToNat] at ho5; rw [← Ny502.out] at ho5)); have HO504 := Aside0.mk (Kd.R_lower ho5 (below_size (hB HB))); replace HB := bst_ HB hb; clear hb ho5) | ((with_reducible refine gate_builtin (b := .append) (xs := #[.tmp 8, .tmp 9]) rfl ?_); at_builtin; refine Kd.R_append_rows (Kd.int .i64) (w0 := w) w.heap.size rfl (.tmp 8) (.tmp 9) 23 3 (.int .i64 0) 8 rfl Try.underlying23 info3 rfl (by decide) (by omega) v503 y502 l1 _ _ _ (fun _ => True) (fun _ => False) rfl rfl ?aO ?aR (fun _ _ h => h) (fun _ h => h.elim) ?aF ?aB ?aS ?aL ?_; (case aR => exact cb_ HR1 HB); (case aB => exact (hB HB)); (case aF => exact (fun _ _ => trivial)); (case aO => exact (ra HO504.out)); (case aS => exact (below_size (hB HB))); (case aL => have := LMc3.out; omega); intro v506 w6 ho hb hg hat; rw [← Ny505.out] at ho; have HO507 := Aside0.mk (ho); replace HB := Aside0.mk (hb); clear HO504; clear ho hb hg hat))
 go_loopg [13] k (fun kq v13 w' => ∃ (x5_1 : List Int) (x13_1 : Int), v13 = .int .i64 x13_1 ∧ Aside0 (spec_l9Relax.l0 kq l1 x5_1 l0 (l0.length : Int) x13_1 = some r) ∧ Aside0 (kq ≤ k) ∧ Aside0 (Kd.R (Kd.int .i64) 3 w' w.heap.size (fun _ => True) v506 x5_1) ∧ Aside0 (Below w.heap.size w w'))
 case atStart => exact ⟨(y505), (0), (by first | rfl | (simp; done) | (simp [*]; done)), H', ⟨Nat.le_refl _⟩, ⟨ra HO507.out⟩, ⟨hB HB⟩⟩
 case round =>
  clear H'
  try clear c1
  try clear c3
  obtain ⟨x5_1, x13_1, rfl, HA, HK1, HO_5, HB⟩ := hrel
  cases gk with
  | zero => exact absurd HA.out (by simp [spec_l9Relax.l0])
  | succ k1 =>
   have H := HA.out
   clear HA
   simp only [spec_l9Relax.l0] at H
   by_cases c7 : x13_1 < (l0.length : Int)
   rotate_left
   ·rw [if_neg c7] at H
    have c7b0 : decide (x13_1 < (l0.length : Int)) = false := decide_eq_false c7
    clear c7
    obtain rfl := Option.some.inj H
    go_wp2
    go_ret
    exact ⟨_, rt_, ra HO_5.out, hB HB⟩
   rw [if_pos c7] at H
   have c7b0 : decide (x13_1 < (l0.length : Int)) = true := decide_eq_true c7
   clear c7
   by_cases c8 : 0 ≤ x13_1
   rotate_left
   ·rw [if_neg c8] at H
    exact absurd H (by simp)
   rw [if_pos c8] at H
   have c8b0 : decide (0 ≤ x13_1) = true := decide_eq_true c8
   clear c8
   by_cases c9 : x13_1 < (l0.length : Int)
   rotate_left
   ·rw [if_neg c9] at H
    exact absurd H (by simp)
   rw [if_pos c9] at H
   have c9b0 : decide (x13_1 < (l0.length : Int)) = true := decide_eq_true c9
   clear c9
   by_cases c10 : 0 ≤ ((rd_T86 l0 x13_1).f0)
   rotate_left
   ·rw [if_neg c10] at H
    exact absurd H (by simp)
   rw [if_pos c10] at H
   have c10b0 : decide (0 ≤ ((rd_T86 l0 x13_1).f0)) = true := decide_eq_true c10
   clear c10
   by_cases c11 : ((rd_T86 l0 x13_1).f0) < (x5_1.length : Int)
   rotate_left
   ·rw [if_neg c11] at H
    exact absurd H (by simp)
   rw [if_pos c11] at H
   have c11b0 : decide (((rd_T86 l0 x13_1).f0) < (x5_1.length : Int)) = true := decide_eq_true c11
   clear c11
   by_cases c12 : 0 ≤ ((rd_T86 l0 x13_1).f1)
   rotate_left
   ·rw [if_neg c12] at H
    exact absurd H (by simp)
   rw [if_pos c12] at H
   have c12b0 : decide (0 ≤ ((rd_T86 l0 x13_1).f1)) = true := decide_eq_true c12
   clear c12
   by_cases c13 : ((rd_T86 l0 x13_1).f1) < (l1.length : Int)
   rotate_left
   ·rw [if_neg c13] at H
    exact absurd H (by simp)
   rw [if_pos c13] at H
   have c13b0 : decide (((rd_T86 l0 x13_1).f1) < (l1.length : Int)) = true := decide_eq_true c13
   clear c13
   replace H := Option.bind_eq_some_iff.mp H
   obtain ⟨t512, A140, H⟩ := H
   replace H : ((some (x5_1.set (((rd_T86 l0 x13_1).f0) : Int).toNat t512 : List Int)).bind fun y513 => (if ((rd_T86 l0 x13_1).f1) < (x5_1.length : Int) then (if ((rd_T86 l0 x13_1).f0) < (l1.length : Int) then ((spec_l1Least.f (rd y513 ((rd_T86 l0 x13_1).f1)) (wrap64 ((rd l1 ((rd_T86 l0 x13_1).f0)) + ((rd_T86 l0 x13_1).f2)))).bind fun t516 => (spec_l9Relax.l0 k1 l1 (y513.set (((rd_T86 l0 x13_1).f1) : Int).toNat t516) l0 (l0.length : Int) (wrap64 (x13_1 + 1)))) else (none)) else (none))) = some r := H
   have A14 := Aside0.mk A140
   clear A140
   obtain ⟨y513, hy513⟩ : ∃ y_ : List Int, y_ = (x5_1.set (((rd_T86 l0 x13_1).f0) : Int).toNat t512) := ⟨_, rfl⟩
   replace H : (if ((rd_T86 l0 x13_1).f1) < (x5_1.length : Int) then (if ((rd_T86 l0 x13_1).f0) < (l1.length : Int) then ((spec_l1Least.f (rd y513 ((rd_T86 l0 x13_1).f1)) (wrap64 ((rd l1 ((rd_T86 l0 x13_1).f0)) + ((rd_T86 l0 x13_1).f2)))).bind fun t516 => (spec_l9Relax.l0 k1 l1 (y513.set (((rd_T86 l0 x13_1).f1) : Int).toNat t516) l0 (l0.length : Int) (wrap64 (x13_1 + 1)))) else (none)) else (none)) = some r := by first | (rw [hy513]; with_reducible exact H) | (have H2_ := (Option.bind_some _ _).symm.trans H; rw [hy513]; with_reducible exact H2_) | (have H2_ := (Option.bind_some _ _).symm.trans H; with_reducible exact H2_) | with_reducible exact H | (rw [hy513]; exact H) | exact H
   have Ny513 := Aside0.mk hy513
   clear hy513
   by_cases c16 : ((rd_T86 l0 x13_1).f1) < (x5_1.length : Int)
   rotate_left
   ·rw [if_neg c16] at H
    exact absurd H (by simp)
   rw [if_pos c16] at H
   have c16b0 : decide (((rd_T86 l0 x13_1).f1) < (x5_1.length : Int)) = true := decide_eq_true c16
   clear c16
   by_cases c17 : ((rd_T86 l0 x13_1).f0) < (l1.length : Int)
   rotate_left
   ·rw [if_neg c17] at H
    exact absurd H (by simp)
   rw [if_pos c17] at H
   have c17b0 : decide (((rd_T86 l0 x13_1).f0) < (l1.length : Int)) = true := decide_eq_true c17
   clear c17
   replace H := Option.bind_eq_some_iff.mp H
   obtain ⟨t516, A180, H⟩ := H
   replace H : (spec_l9Relax.l0 k1 l1 (y513.set (((rd_T86 l0 x13_1).f1) : Int).toNat t516) l0 (l0.length : Int) (wrap64 (x13_1 + 1))) = some r := H
   have A18 := Aside0.mk A180
   clear A180
   obtain ⟨y517, hy517⟩ : ∃ y_ : List Int, y_ = (y513.set (((rd_T86 l0 x13_1).f1) : Int).toNat t516) := ⟨_, rfl⟩
   replace H : (spec_l9Relax.l0 k1 l1 y517 l0 (l0.length : Int) (wrap64 (x13_1 + 1))) = some r := by first | (rw [hy517]; with_reducible exact H) | (have H2_ := (Option.bind_some _ _).symm.trans H; rw [hy517]; with_reducible exact H2_) | (have H2_ := (Option.bind_some _ _).symm.trans H; with_reducible exact H2_) | with_reducible exact H | (rw [hy517]; exact H) | exact H
   have Ny517 := Aside0.mk hy517
   clear hy517
   have H' := Aside0.mk H
   clear H
   have p508 : 0 ≤ (x13_1 : Int) := od_
   have q508 : x13_1 < (l0.length : Int) := od_
   obtain ⟨ad508, e508, hx508_0, hx508_1, hx508_2⟩ := at_T86 HR0.out x13_1 p508 q508
   cases e508
   replace hx508_0 := hc_ HB hx508_0
   replace hx508_1 := hc_ HB hx508_1
   replace hx508_2 := hc_ HB hx508_2
   replace p508 := eq_true p508
   replace q508 := eq_true q508
   try go_wp2_with (first | ((with_reducible refine gate_dst (N := 7) rfl ?_); refine box_event ?hg (N := 7) ?hd (cs := #[.int .i64 0, .int .i64 0, .int .i64 0]) (t := 86) ?hr ?_; (case hd => rfl); (case hg => rfl); (case hr => first | (go_simp; done) | (go_simp; rfl)); intro gb509 hg w20 hbox hb; have BK509 := Aside0.mk (hbox); have GW509 := gw_ hg HB; have GE509 := gw_ hg HB; replace HO_5 := rb_ HO_5 hb; replace HB := bst_ HB hb; clear hb hbox hg; obtain ⟨hcz21_0, hcz21_1, hcz21_2⟩ := bcs3_ BK509; have hfz21_0 := blk_frozen BK509.out 0; have hfz21_1 := blk_frozen BK509.out 1; have hfz21_2 := blk_frozen BK509.out 2))
   have n0_ : Aside0 (Kd.R (Kd.int .i64) 3 (((w20.setCell ⟨gb509, 0, none⟩ (.int .i64 ((rd_T86 l0 x13_1).f0))).setCell ⟨gb509, 1, none⟩ (.int .i64 ((rd_T86 l0 x13_1).f1))).setCell ⟨gb509, 2, none⟩ (.int .i64 ((rd_T86 l0 x13_1).f2))) w.heap.size (fun _ => True) v506 x5_1) := ⟨by (with_reducible repeat (first | apply Kd.R_alloc | apply Kd.R_drewN | apply Kd.R_drew)); exact Kd.R_mono (Kd.R_far (p := ⟨gb509, 2, none⟩) (Kd.R_far (p := ⟨gb509, 1, none⟩) (Kd.R_far (p := ⟨gb509, 0, none⟩) (Kd.R_types HO_5.out BK509.out (by decide)) (fun _ hk => hk.2) (.int .i64 ((rd_T86 l0 x13_1).f0))) (fun _ hk => hk.2) (.int .i64 ((rd_T86 l0 x13_1).f1))) (fun _ hk => hk.2) (.int .i64 ((rd_T86 l0 x13_1).f2))) (fun _ hk => trivial)⟩
   have n1_ : Aside0 ((((w20.setCell ⟨gb509, 0, none⟩ (.int .i64 ((rd_T86 l0 x13_1).f0))).setCell ⟨gb509, 1, none⟩ (.int .i64 ((rd_T86 l0 x13_1).f1))).setCell ⟨gb509, 2, none⟩ (.int .i64 ((rd_T86 l0 x13_1).f2))).heap[gb509]? = some (.cells #[.int .i64 ((rd_T86 l0 x13_1).f0), .int .i64 ((rd_T86 l0 x13_1).f1), .int .i64 ((rd_T86 l0 x13_1).f2)] 86 (0, 0))) := ⟨by (with_reducible repeat (first | refine blk_drewN ?_ _ | refine blk_drew ?_ | refine blk_alloc ?_ _)); refine blk_put (cs := #[.int .i64 ((rd_T86 l0 x13_1).f0), .int .i64 ((rd_T86 l0 x13_1).f1), .int .i64 0]) ?_ 2 _ rfl; (with_reducible repeat (first | refine blk_drewN ?_ _ | refine blk_drew ?_ | refine blk_alloc ?_ _)); refine blk_put (cs := #[.int .i64 ((rd_T86 l0 x13_1).f0), .int .i64 0, .int .i64 0]) ?_ 1 _ rfl; (with_reducible repeat (first | refine blk_drewN ?_ _ | refine blk_drew ?_ | refine blk_alloc ?_ _)); refine blk_put (cs := #[.int .i64 0, .int .i64 0, .int .i64 0]) ?_ 0 _ rfl; (with_reducible repeat (first | refine blk_drewN ?_ _ | refine blk_drew ?_ | refine blk_alloc ?_ _)); exact BK509.out⟩
   have n2_ : Aside0 (Below w.heap.size w (((w20.setCell ⟨gb509, 0, none⟩ (.int .i64 ((rd_T86 l0 x13_1).f0))).setCell ⟨gb509, 1, none⟩ (.int .i64 ((rd_T86 l0 x13_1).f1))).setCell ⟨gb509, 2, none⟩ (.int .i64 ((rd_T86 l0 x13_1).f2)))) := ⟨hB HB⟩
   (try clear HO_5)
   (try clear BK509)
   (try clear HB)
   generalize (((w20.setCell ⟨gb509, 0, none⟩ (.int .i64 ((rd_T86 l0 x13_1).f0))).setCell ⟨gb509, 1, none⟩ (.int .i64 ((rd_T86 l0 x13_1).f1))).setCell ⟨gb509, 2, none⟩ (.int .i64 ((rd_T86 l0 x13_1).f2))) = w22 at n0_ n1_ n2_ ⊢
   have HO_5 := n0_
   have BK509 := n1_
   have HB := n2_
   clear n0_ n1_ n2_
   replace HO_5 := rd_ HO_5
   replace BK509 := bd_ BK509
   replace HB := Aside0.mk (below_drew1 HB.out)
   obtain ⟨Ao24, co24, eo24⟩ := Kd.R_slice HO_5.out
   subst eo24
   have p510 : 0 ≤ (((rd_T86 l0 x13_1).f0) : Int) := od_
   have q510 : ((rd_T86 l0 x13_1).f0) < (x5_1.length : Int) := od_
   obtain ⟨ad510, e510, hx510_0⟩ := Kd.at_int (Kd.R_reads' HO_5.out).2.2 ((rd_T86 l0 x13_1).f0) p510 q510
   cases e510
   replace p510 := eq_true p510
   replace q510 := eq_true q510
   have p511 : 0 ≤ (((rd_T86 l0 x13_1).f1) : Int) := od_
   have q511 : ((rd_T86 l0 x13_1).f1) < (l1.length : Int) := od_
   obtain ⟨ad511, e511, hx511_0⟩ := Kd.at_int HR1.out ((rd_T86 l0 x13_1).f1) p511 q511
   have hw511_0 := hx511_0
   cases e511
   replace hx511_0 := hc_ HB hx511_0
   replace p511 := eq_true p511
   replace q511 := eq_true q511
   refine start_ (n := 19) (S := fun w' => w'.cell? ⟨gb509, 0, none⟩ = some (.int .i64 ((rd_T86 l0 x13_1).f0)) ∧ w'.cell? ⟨gb509, 1, none⟩ = some (.int .i64 ((rd_T86 l0 x13_1).f1)) ∧ w'.cell? ⟨gb509, 2, none⟩ = some (.int .i64 ((rd_T86 l0 x13_1).f2)) ∧ w'.cell? (ad510.add (((rd_T86 l0 x13_1).f0)).toNat) = some (.int .i64 (rd x5_1 ((rd_T86 l0 x13_1).f0))) ∧ w'.cell? (ad511.add (((rd_T86 l0 x13_1).f1)).toNat) = some (.int .i64 (rd l1 ((rd_T86 l0 x13_1).f1)))) (ds := [18]) (bs 19 0) (by kernel_rfl) rfl rfl ⟨bc_ BK509 0, bc_ BK509 1, bc_ BK509 2, hx510_0, ((HB.out.cell (World.block_lt_of_cell? w _ hw511_0)).trans hw511_0)⟩ (fun hHeld => ?_); refine with_tabW spec_l9Relax.tab5 spec_l9Relax.bits5 (fun HT_ HW_ => ?_)
   generalize w22.drew = w23 at HO_5 BK509 HB hx510_0 hx511_0 hHeld ⊢
   refine pu_ 0 17 (bs 19 1) HT_ ?_
   refine pu_ 1 18 (bs 19 3) HT_ ?_
   refine pu_ 3 20 (bs 19 11) HT_ ?_
   refine pu_ 4 21 (bs 19 27) HT_ ?_
   refine pu_ 8 25 (bs 19 283) HT_ ?_
   refine pu_ 9 26 (bs 19 795) HT_ ?_
   refine pu_ 13 30 (bs 19 8987) HT_ ?_
   refine tk_ 2 19 (bs 19 8991) HT_ HW_ hHeld ?_
   refine tk_ 5 22 (bs 19 9023) HT_ HW_ hHeld ?_
   refine pu_ 6 23 (bs 19 9087) HT_ ?_
   refine tk_ 7 24 (bs 19 9215) HT_ HW_ hHeld ?_
   refine tk_ 10 27 (bs 19 10239) HT_ HW_ hHeld ?_
   refine pu_ 11 28 (bs 19 12287) HT_ ?_
   refine tk_ 12 29 (bs 19 16383) HT_ HW_ hHeld ?_
   refine tk_ 14 31 (bs 19 32767) HT_ HW_ hHeld ?_
   refine pu_ 15 32 (bs 19 65535) HT_ ?_
   refine on_ 16 (some 33) (bs 19 131071) HT_ (fun K hK => ?_)
   refine goes_ Try.func102 (by kernel_rfl) rfl #[.int .i64 (rd x5_1 ((rd_T86 l0 x13_1).f0)), .int .i64 (wrap64 ((rd l1 ((rd_T86 l0 x13_1).f1)) + ((rd_T86 l0 x13_1).f2)))] (by rfl) rfl rfl tm_ ?_
   with_reducible refine (spec_l1Least.calls (rd x5_1 ((rd_T86 l0 x13_1).f0)) (wrap64 ((rd l1 ((rd_T86 l0 x13_1).f1)) + ((rd_T86 l0 x13_1).f2))) t512 _ A14.out).mono ?_
   rintro e w' ⟨rfl, ⟨nd, rfl⟩⟩
   refine ⟨_, rfl, ?_⟩
   generalize hq_ : World.drewN w23 nd = w23
   replace HO_5 := Aside0.mk (Kd.R_at hq_ HO_5.out)
   replace BK509 := Aside0.mk (blk_at hq_ BK509.out)
   replace HB := Aside0.mk (below_at hq_ HB.out)
   try replace hx510_0 := cell_at hq_ hx510_0
   try replace hx511_0 := cell_at hq_ hx511_0
   have HQ_ := Aside0.mk hq_
   clear hq_
   have p15 : 0 ≤ (((rd_T86 l0 x13_1).f0) : Int) := od_
   have q15 : (((rd_T86 l0 x13_1).f0) : Int) < ((x5_1.length : Int) : Int) := od_
   obtain ⟨go15, co15, eo15, gb15, gl15, cl15, HG15⟩ := Kd.R_form HO_5.out (by omega)
   (first | cases eo15 | (injection eo15 with ea_ en_ ec_; (first | subst ea_ | (injection ea_ with ea_; subst ea_)); subst ec_; clear en_))
   have GB15 := Aside0.mk gb15
   have GG15 := Aside0.mk HG15
   clear gb15 gl15 HG15
   (first | simp only [add_plain] at hx510_0 | skip)
   obtain ⟨hx15_0, hf15_0⟩ := Kd.R_celln 0 HO_5.out (((rd_T86 l0 x13_1).f0) : Int) p15 q15
   replace p15 := eq_true p15
   replace q15 := eq_true q15
   have HP25 := Kd.R_putn HO_5.out (((rd_T86 l0 x13_1).f0) : Int) t512
   rw [← Ny513.out] at HP25
   have HQ25 := Aside0.mk HP25
   clear HP25
   refine hK.out _ _ ⟨bc_ BK509 0, bc_ BK509 1, bc_ BK509 2, (cell_at HQ_.out hHeld.2.2.2.1), ((HB.out.cell (World.block_lt_of_cell? w _ hw511_0)).trans hw511_0)⟩ (fun hHeld => ?_)
   clear hK K
   refine nm_ 33 ?_
   refine pu_ 17 34 (bs 19 262143) HT_ ?_
   refine last_ (i := 18) (N := none) (bs 19 524287) rfl rfl (one_of HT_.out (by kernel_rfl)) (by decide) (fun K hK => ?_)
   refine skip_ (w1 := ?_) (by rfl) rfl ?_ ?_
   rotate_left
   ·go_simp
    rfl
   refine hK.out _ _ ?_
   clear hK K
   refine done_ (done_of HT_.out (by kernel_rfl)) ?_
   try go_wp2
   have n0_ : Aside0 (Kd.R (Kd.int .i64) 3 (w23.setCell ⟨go15, (((rd_T86 l0 x13_1).f0) : Int).toNat, none⟩ (.int .i64 t512)) w.heap.size (fun _ => True) (.slice (some ⟨go15, 0, none⟩) x5_1.length co24) y513) := ⟨ra HQ25.out⟩
   have n1_ : Aside0 ((w23.setCell ⟨go15, (((rd_T86 l0 x13_1).f0) : Int).toNat, none⟩ (.int .i64 t512)).heap[gb509]? = some (.cells #[.int .i64 ((rd_T86 l0 x13_1).f0), .int .i64 ((rd_T86 l0 x13_1).f1), .int .i64 ((rd_T86 l0 x13_1).f2)] 86 (0, 0))) := ⟨by (with_reducible repeat (first | refine blk_drewN ?_ _ | refine blk_drew ?_ | refine blk_alloc ?_ _)); refine blk_far ?_ (by have h_ := Kd.R_ne HO_5.out BK509.out (by decide); intro e_; exact h_ (by rw [e_]; rfl)) _; (with_reducible repeat (first | refine blk_drewN ?_ _ | refine blk_drew ?_ | refine blk_alloc ?_ _)); exact BK509.out⟩
   have n2_ : Aside0 (Below w.heap.size w (w23.setCell ⟨go15, (((rd_T86 l0 x13_1).f0) : Int).toNat, none⟩ (.int .i64 t512))) := ⟨hB HB⟩
   (try clear HO_5)
   (try clear BK509)
   (try clear HB)
   generalize (w23.setCell ⟨go15, (((rd_T86 l0 x13_1).f0) : Int).toNat, none⟩ (.int .i64 t512)) = w26 at n0_ n1_ n2_ ⊢
   have HO_5 := n0_
   have BK509 := n1_
   have HB := n2_
   clear n0_ n1_ n2_
   (try (rw [drewN_self w26]; generalize hq_ : World.drewN w26 _ = w26; have n0_ : Aside0 (Kd.R (Kd.int .i64) 3 w26 w.heap.size (fun _ => True) (.slice (some ⟨go15, 0, none⟩) x5_1.length co24) y513) := ⟨by rw [← hq_]; exact (ra HO_5.out)⟩; have n1_ : Aside0 (w26.heap[gb509]? = some (.cells #[.int .i64 ((rd_T86 l0 x13_1).f0), .int .i64 ((rd_T86 l0 x13_1).f1), .int .i64 ((rd_T86 l0 x13_1).f2)] 86 (0, 0))) := ⟨by rw [← hq_]; exact (ba BK509.out)⟩; have n2_ : Aside0 (Below w.heap.size w w26) := ⟨by rw [← hq_]; exact (hB HB)⟩; clear HO_5 BK509 HB hq_; have HO_5 := n0_; have BK509 := n1_; have HB := n2_; clear n0_ n1_ n2_))
   replace HO_5 := rd_ HO_5
   replace BK509 := bd_ BK509
   replace HB := Aside0.mk (below_drew1 HB.out)
   have p514 : 0 ≤ (((rd_T86 l0 x13_1).f1) : Int) := od_
   have q514 : ((rd_T86 l0 x13_1).f1) < (y513.length : Int) := (by have h_ : (((rd_T86 l0 x13_1).f1) : Int) < ((x5_1.length : Int) : Int) := od_; first | (have e_ := (Kd.R_reads' HO_5.out).1; omega) | simpa only [Ny513.out, List.length_set] using h_)
   have ql514 : ((((rd_T86 l0 x13_1).f1) : Int) < ((x5_1.length : Int) : Int)) = True := eq_true (od_)
   obtain ⟨ad514, e514, hx514_0⟩ := Kd.at_int (Kd.R_reads' HO_5.out).2.2 ((rd_T86 l0 x13_1).f1) p514 q514
   obtain rfl : (⟨go15, 0, none⟩ : Addr) = ad514 := (by injection e514)
   (first | simp only [add_plain] at hx514_0 | simp only [add_at] at hx514_0 | simp only [Addr.add, Nat.zero_add] at hx514_0 | skip)
   replace p514 := eq_true p514
   replace q514 := eq_true q514
   have p515 : 0 ≤ (((rd_T86 l0 x13_1).f0) : Int) := od_
   have q515 : ((rd_T86 l0 x13_1).f0) < (l1.length : Int) := od_
   obtain ⟨ad515, e515, hx515_0⟩ := Kd.at_int HR1.out ((rd_T86 l0 x13_1).f0) p515 q515
   have hw515_0 := hx515_0
   obtain rfl : ad511 = ad515 := (by injection e515)
   replace hx515_0 := hc_ HB hx515_0
   replace p515 := eq_true p515
   replace q515 := eq_true q515
   refine start_ (n := 19) (S := fun w' => w'.cell? ⟨gb509, 0, none⟩ = some (.int .i64 ((rd_T86 l0 x13_1).f0)) ∧ w'.cell? ⟨gb509, 1, none⟩ = some (.int .i64 ((rd_T86 l0 x13_1).f1)) ∧ w'.cell? ⟨gb509, 2, none⟩ = some (.int .i64 ((rd_T86 l0 x13_1).f2)) ∧ w'.cell? ⟨go15, (((rd_T86 l0 x13_1).f1)).toNat, none⟩ = some (.int .i64 (rd y513 ((rd_T86 l0 x13_1).f1))) ∧ w'.cell? (ad511.add (((rd_T86 l0 x13_1).f0)).toNat) = some (.int .i64 (rd l1 ((rd_T86 l0 x13_1).f0)))) (ds := [18]) (bs 19 0) (by kernel_rfl) rfl rfl ⟨bc_ BK509 0, bc_ BK509 1, bc_ BK509 2, hx514_0, ((HB.out.cell (World.block_lt_of_cell? w _ hw515_0)).trans hw515_0)⟩ (fun hHeld => ?_); refine with_tabW spec_l9Relax.tab6 spec_l9Relax.bits6 (fun HT_ HW_ => ?_)
   generalize w26.drew = w27 at HO_5 BK509 HB HQ25 hx514_0 hx515_0 hHeld ⊢
   refine pu_ 0 35 (bs 19 1) HT_ ?_
   refine pu_ 1 36 (bs 19 3) HT_ ?_
   refine pu_ 3 38 (bs 19 11) HT_ ?_
   refine pu_ 4 39 (bs 19 27) HT_ ?_
   refine pu_ 8 43 (bs 19 283) HT_ ?_
   refine pu_ 9 44 (bs 19 795) HT_ ?_
   refine pu_ 13 48 (bs 19 8987) HT_ ?_
   refine tk_ 2 37 (bs 19 8991) HT_ HW_ hHeld ?_
   refine tk_ 5 40 (bs 19 9023) HT_ HW_ hHeld ?_
   refine pu_ 6 41 (bs 19 9087) HT_ ?_
   refine tk_ 7 42 (bs 19 9215) HT_ HW_ hHeld ?_
   refine tk_ 10 45 (bs 19 10239) HT_ HW_ hHeld ?_
   refine pu_ 11 46 (bs 19 12287) HT_ ?_
   refine tk_ 12 47 (bs 19 16383) HT_ HW_ hHeld ?_
   refine tk_ 14 49 (bs 19 32767) HT_ HW_ hHeld ?_
   refine pu_ 15 50 (bs 19 65535) HT_ ?_
   refine on_ 16 (some 51) (bs 19 131071) HT_ (fun K hK => ?_)
   refine goes_ Try.func102 (by kernel_rfl) rfl #[.int .i64 (rd y513 ((rd_T86 l0 x13_1).f1)), .int .i64 (wrap64 ((rd l1 ((rd_T86 l0 x13_1).f0)) + ((rd_T86 l0 x13_1).f2)))] (by rfl) rfl rfl tm_ ?_
   with_reducible refine (spec_l1Least.calls (rd y513 ((rd_T86 l0 x13_1).f1)) (wrap64 ((rd l1 ((rd_T86 l0 x13_1).f0)) + ((rd_T86 l0 x13_1).f2))) t516 _ A18.out).mono ?_
   rintro e w' ⟨rfl, ⟨nd, rfl⟩⟩
   refine ⟨_, rfl, ?_⟩
   generalize hq_ : World.drewN w27 nd = w27
   replace HO_5 := Aside0.mk (Kd.R_at hq_ HO_5.out)
   replace BK509 := Aside0.mk (blk_at hq_ BK509.out)
   replace HB := Aside0.mk (below_at hq_ HB.out)
   try replace HQ25 := cell_at hq_ HQ25
   try replace hx514_0 := cell_at hq_ hx514_0
   try replace hx515_0 := cell_at hq_ hx515_0
   have HQ_ := Aside0.mk hq_
   clear hq_
   have p19 : 0 ≤ (((rd_T86 l0 x13_1).f1) : Int) := od_
   have q19 : (((rd_T86 l0 x13_1).f1) : Int) < ((x5_1.length : Int) : Int) := od_
   obtain ⟨hx19_0, hf19_0⟩ := Kd.R_celln 0 HO_5.out (((rd_T86 l0 x13_1).f1) : Int) p19 q19
   replace p19 := eq_true p19
   replace q19 := eq_true q19
   have HP28 := Kd.R_putn HO_5.out (((rd_T86 l0 x13_1).f1) : Int) t516
   rw [← Ny517.out] at HP28
   have HQ28 := Aside0.mk HP28
   clear HP28
   refine hK.out _ _ ⟨bc_ BK509 0, bc_ BK509 1, bc_ BK509 2, (cell_at HQ_.out hHeld.2.2.2.1), ((HB.out.cell (World.block_lt_of_cell? w _ hw515_0)).trans hw515_0)⟩ (fun hHeld => ?_)
   clear hK K
   refine nm_ 51 ?_
   refine pu_ 17 52 (bs 19 262143) HT_ ?_
   refine last_ (i := 18) (N := none) (bs 19 524287) rfl rfl (one_of HT_.out (by kernel_rfl)) (by decide) (fun K hK => ?_)
   refine skip_ (w1 := ?_) (by rfl) rfl ?_ ?_
   rotate_left
   ·go_simp
    rfl
   refine hK.out _ _ ?_
   clear hK K
   refine done_ (done_of HT_.out (by kernel_rfl)) ?_
   try go_wp2
   go_roundg k1
   case measure => have := HK1.out; omega
   case rel => exact ⟨(y517), (wrap64 (x13_1 + 1)), (by first | rfl | (simp; done) | (simp [*]; done)), H', ⟨by have := HK1.out; omega⟩, ⟨ra HQ28.out⟩, ⟨hB HB⟩⟩

mutual
def spec_l9Fars.l0 : Nat → Int → List (S86) → Int → List Int → Int → Option (List Int)
 | 0, _, _, _, _, _ => none
 | k + 1, x0, x1, x2, x7, x8 => if x8 < x0 then (if x7.length < 17592186044416 then (spec_l9Fars.l0 k x0 x1 x2 (x7 ++ [100000]) (wrap64 (x8 + 1))) else (none)) else (if 0 ≤ x2 then (if x2 < (x7.length : Int) then (spec_l9Fars.l1 k x0 x1 (x7.set (x2 : Int).toNat 0) 0) else (none)) else (none))
def spec_l9Fars.l1 : Nat → Int → List (S86) → List Int → Int → Option (List Int)
 | 0, _, _, _, _ => none
 | k + 1, x0, x1, x7, x9 => if x9 < x0 then ((spec_l9Relax.f k x1 x7).bind fun t522 => (spec_l9Fars.l1 k x0 x1 t522 (wrap64 (x9 + 1)))) else (some x7)
end
def spec_l9Fars.f (k : Nat) (a0 : Int) (l1 : List (S86)) (a2 : Int) : Option (List Int) := spec_l9Fars.l0 k a0 l1 a2 ([] : List Int) 0
theorem spec_l9Fars.mono_l : ∀ k, (∀ y0 y1 y2 y3 y4, LeO (spec_l9Fars.l0 k y0 y1 y2 y3 y4) (spec_l9Fars.l0 (k + 1) y0 y1 y2 y3 y4)) ∧ (∀ y0 y1 y2 y3, LeO (spec_l9Fars.l1 k y0 y1 y2 y3) (spec_l9Fars.l1 (k + 1) y0 y1 y2 y3))
 | 0 => ⟨fun _ _ _ _ _ r h => by simp [spec_l9Fars.l0] at h, fun _ _ _ _ r h => by simp [spec_l9Fars.l1] at h⟩
 | k + 1 => by
  obtain ⟨ih0, ih1⟩ := spec_l9Fars.mono_l k
  refine ⟨?_, ?_⟩
  ·intro y0 y1 y2 y3 y4
   unfold spec_l9Fars.l0
   repeat' first
   | (with_reducible exact ih0 _ _ _ _ _)
   | (with_reducible exact ih1 _ _ _ _)
   | (with_reducible exact spec_l9Relax.mono _ _ _)
   | with_reducible first | exact LeO.refl _ | exact LeO.none _ | refine LeO.ite ?_ ?_ | refine LeO.bind ?_ fun _ => ?_
  ·intro y0 y1 y2 y3
   unfold spec_l9Fars.l1
   repeat' first
   | (with_reducible exact ih0 _ _ _ _ _)
   | (with_reducible exact ih1 _ _ _ _)
   | (with_reducible exact spec_l9Relax.mono _ _ _)
   | with_reducible first | exact LeO.refl _ | exact LeO.none _ | refine LeO.ite ?_ ?_ | refine LeO.bind ?_ fun _ => ?_
theorem spec_l9Fars.mono : ∀ a0 a1 a2 k, LeO (spec_l9Fars.f k a0 a1 a2) (spec_l9Fars.f (k + 1) a0 a1 a2) := by
 intro a0 a1 a2 k
 obtain ⟨ih0, ih1⟩ := spec_l9Fars.mono_l k
 unfold spec_l9Fars.f
 repeat' first
   | (with_reducible exact ih0 _ _ _ _ _)
   | (with_reducible exact ih1 _ _ _ _)
   | (with_reducible exact spec_l9Relax.mono _ _ _)
   | with_reducible first | exact LeO.refl _ | exact LeO.none _ | refine LeO.ite ?_ ?_ | refine LeO.bind ?_ fun _ => ?_
set_option maxHeartbeats 8000000 in
set_option maxRecDepth 100000 in
theorem spec_l9Fars.calls (k : Nat) (a0 : Int) (A1 : Option Addr) (c1 : Nat) (l1 : List (S86)) (a2 : Int) (r : List Int) (w : World) (hr1 : Kd.C k86 w A1 l1.length l1) (hc1 : l1.length ≤ c1) (h : spec_l9Fars.f k a0 l1 a2 = some r) :
  Calls Try.prog 105 #[.int .i64 a0, .slice A1 l1.length c1, .int .i64 a2] w fun e w' => ∃ v0_ : Value, e = .returned (v0_) ∧ Kd.R (Kd.int .i64) 3 w' w.heap.size (fun _ => True) v0_ r ∧ Below w.heap.size w w' := by
 have HR1 := Aside0.mk hr1
 have HC1 := Aside0.mk hc1
 clear hr1 hc1
 have HB := Aside0.mk (Below.refl w.heap.size w)
 have H : (spec_l9Fars.l0 k a0 l1 a2 ([] : List Int) 0) = some r := h
 clear h
 have H' := Aside0.mk H
 clear H
 go_enter Try.func105, Try.ntmps105
 go_wp2
 go_loopg [7, 8] k (fun kq v7 v8 w' => ∃ (x7_1 : List Int) (x8_1 : Int), v8 = .int .i64 x8_1 ∧ Aside0 (spec_l9Fars.l0 kq a0 l1 a2 x7_1 x8_1 = some r) ∧ Aside0 (kq ≤ k) ∧ Aside0 (Kd.R (Kd.int .i64) 3 w' w.heap.size (fun _ => True) v7 x7_1) ∧ Aside0 (Below w.heap.size w w'))
 case atStart => exact ⟨(([] : List Int)), (0), (by first | rfl | (simp; done) | (simp [*]; done)), H', ⟨Nat.le_refl _⟩, ⟨by first | exact Kd.R_nil _ _ _ _ _ | exact Kd.N_nil _ _ _ _ _ | exact Kd.V_nil _ _ _ _ _ | exact Kd.Q_nil _ _ _ _ _ | exact Kd.S_nil _ _ _ _ _⟩, ⟨hB HB⟩⟩
 case round =>
  clear H'
  try clear c1
  obtain ⟨x7_1, x8_1, rfl, HA, HK1, HO_7, HB⟩ := hrel
  cases gk with
  | zero => exact absurd HA.out (by simp [spec_l9Fars.l0])
  | succ k1 =>
   have H := HA.out
   clear HA
   simp only [spec_l9Fars.l0] at H
   by_cases c4 : x8_1 < a0
   ·rw [if_pos c4] at H
    have c4b0 : decide (x8_1 < a0) = true := decide_eq_true c4
    clear c4
    by_cases c5 : x7_1.length < 17592186044416
    rotate_left
    ·rw [if_neg c5] at H
     exact absurd H (by simp)
    rw [if_pos c5] at H
    have LMc5 := Aside0.mk c5
    clear c5
    obtain ⟨y518, hy518⟩ : ∃ y_ : List Int, y_ = (x7_1 ++ [100000]) := ⟨_, rfl⟩
    replace H : (spec_l9Fars.l0 k1 a0 l1 a2 y518 (wrap64 (x8_1 + 1))) = some r := by first | (rw [hy518]; with_reducible exact H) | (have H2_ := (Option.bind_some _ _).symm.trans H; rw [hy518]; with_reducible exact H2_) | (have H2_ := (Option.bind_some _ _).symm.trans H; with_reducible exact H2_) | with_reducible exact H | (rw [hy518]; exact H) | exact H
    have Ny518 := Aside0.mk hy518
    clear hy518
    have H' := Aside0.mk H
    clear H
    go_wp2_with (first | ((with_reducible refine gate_builtin (b := .append) (xs := #[.tmp 15, .tmp 16]) rfl ?_); at_builtin; refine Kd.R_append (Kd.int .i64) (w0 := w) w.heap.size rfl (.tmp 15) (.tmp 16) 23 3 (.int .i64 0) 8 rfl Try.underlying23 info3 rfl (by decide) (by omega) u7 x7_1 100000 [.int .i64 100000] (fun _ => True) (fun _ => False) rfl rfl ?aP (fun _ hk => hk.elim) ?aF ?aO ?aB ?aS ?aL ?_; (case aP => exact rfl); (case aB => exact (hB HB)); (case aF => exact (fun _ _ => trivial)); (case aO => exact (ra HO_7.out)); (case aS => exact (below_size (hB HB))); (case aL => have := LMc5.out; omega); intro v519 w6 ho hb hg hat; rw [← Ny518.out] at ho; have HO520 := Aside0.mk (ho); replace HB := Aside0.mk (hb); clear HO_7; clear ho hb hg hat))
    go_roundg k1
    case measure => have := HK1.out; omega
    case rel => exact ⟨(y518), (wrap64 (x8_1 + 1)), (by first | rfl | (simp; done) | (simp [*]; done)), H', ⟨by have := HK1.out; omega⟩, ⟨ra HO520.out⟩, ⟨hB HB⟩⟩
   rw [if_neg c4] at H
   have c4b0 : decide (x8_1 < a0) = false := decide_eq_false c4
   clear c4
   by_cases c7 : 0 ≤ a2
   rotate_left
   ·rw [if_neg c7] at H
    exact absurd H (by simp)
   rw [if_pos c7] at H
   have c7b0 : decide (0 ≤ a2) = true := decide_eq_true c7
   clear c7
   by_cases c8 : a2 < (x7_1.length : Int)
   rotate_left
   ·rw [if_neg c8] at H
    exact absurd H (by simp)
   rw [if_pos c8] at H
   have c8b0 : decide (a2 < (x7_1.length : Int)) = true := decide_eq_true c8
   clear c8
   obtain ⟨y521, hy521⟩ : ∃ y_ : List Int, y_ = (x7_1.set (a2 : Int).toNat 0) := ⟨_, rfl⟩
   replace H : (spec_l9Fars.l1 k1 a0 l1 y521 0) = some r := by first | (rw [hy521]; with_reducible exact H) | (have H2_ := (Option.bind_some _ _).symm.trans H; rw [hy521]; with_reducible exact H2_) | (have H2_ := (Option.bind_some _ _).symm.trans H; with_reducible exact H2_) | with_reducible exact H | (rw [hy521]; exact H) | exact H
   have Ny521 := Aside0.mk hy521
   clear hy521
   have H' := Aside0.mk H
   clear H
   have p9 : 0 ≤ (a2 : Int) := od_
   have q9 : (a2 : Int) < ((x7_1.length : Int) : Int) := od_
   obtain ⟨go9, co9, eo9, gb9, gl9, cl9, HG9⟩ := Kd.R_form HO_7.out (by omega)
   (first | cases eo9 | (injection eo9 with ea_ en_ ec_; (first | subst ea_ | (injection ea_ with ea_; subst ea_)); subst ec_; clear en_))
   have GB9 := Aside0.mk gb9
   have GG9 := Aside0.mk HG9
   clear gb9 gl9 HG9
   obtain ⟨hx9_0, hf9_0⟩ := Kd.R_celln 0 HO_7.out (a2 : Int) p9 q9
   replace p9 := eq_true p9
   replace q9 := eq_true q9
   have HP10 := Kd.R_putg HO_7.out (a2 : Int) 0
   go_wp2_with (first | ((with_reducible refine gate_store (t := 3) (p := 20) rfl ?_); refine store_event (t := 3) (p := 20) (v := ?vo_w11) (w1 := (wr.setCell ⟨go9, (a2 : Int).toNat, none⟩ (.int .i64 0))) ?hg ?ho ?hn ?hr ?_; (case ho => rfl); (case hg => rfl); (case hn => rfl); (case hr => first | (go_simp; done) | (go_simp; rfl)); intro w11 hw; have hg : wr.grownBy w11 (some go9) := (by rw [hw]; exact HP10.2); have hp_ : Kd.R (Kd.int .i64) 3 w11 w.heap.size (fun _ => True) (.slice (some ⟨go9, 0, none⟩) x7_1.length co9) y521 := (by rw [hw, Ny521.out]; exact HP10.1); clear HP10; replace HO_7 := Aside0.mk (hp_); replace HB := Aside0.mk ((by rw [hw]; exact below_set (HB.out) GB9.out : Below w.heap.size w w11)); clear hg hw hp_))
   go_loopg [7, 9] k1 (fun kq v7 v9 w' => ∃ (x7_2 : List Int) (x9_2 : Int), v9 = .int .i64 x9_2 ∧ Aside0 (spec_l9Fars.l1 kq a0 l1 x7_2 x9_2 = some r) ∧ Aside0 (kq ≤ k1) ∧ Aside0 (Kd.R (Kd.int .i64) 3 w' w.heap.size (fun _ => True) v7 x7_2) ∧ Aside0 (Below w.heap.size w w'))
   case atStart => exact ⟨(y521), (0), (by first | rfl | (simp; done) | (simp [*]; done)), H', ⟨Nat.le_refl _⟩, ⟨ra HO_7.out⟩, ⟨hB HB⟩⟩
   case round =>
    clear H'
    try clear c1
    try clear c4
    try clear c4b0
    try clear c7
    try clear c7b0
    try clear c8
    try clear c8b0
    try clear p9
    try clear q9
    try clear hx9_0
    try clear p9
    try clear q9
    obtain ⟨x7_2, x9_2, rfl, HA, HK2, HO_7, HB⟩ := hrel
    cases gk with
    | zero => exact absurd HA.out (by simp [spec_l9Fars.l1])
    | succ k2 =>
     have H := HA.out
     clear HA
     simp only [spec_l9Fars.l1] at H
     by_cases c12 : x9_2 < a0
     rotate_left
     ·rw [if_neg c12] at H
      have c12b0 : decide (x9_2 < a0) = false := decide_eq_false c12
      clear c12
      obtain rfl := Option.some.inj H
      go_wp2
      go_ret
      exact ⟨_, rt_, ra HO_7.out, hB HB⟩
     rw [if_pos c12] at H
     have c12b0 : decide (x9_2 < a0) = true := decide_eq_true c12
     clear c12
     replace H := Option.bind_eq_some_iff.mp H
     obtain ⟨t522, A130, H⟩ := H
     replace H : (spec_l9Fars.l1 k2 a0 l1 t522 (wrap64 (x9_2 + 1))) = some r := H
     have A13 := Aside0.mk A130
     clear A130
     have H' := Aside0.mk H
     clear H
     obtain ⟨Ao14, co14, eo14⟩ := Kd.R_slice HO_7.out
     subst eo14
     go_wp2_with (first | (refine goesL_ (some 28) rfl rfl Try.func132 (by kernel_rfl) rfl #[.slice A1 l1.length c1, .slice Ao14 x7_2.length co14] rfl tm_ ?_; (with_reducible refine (spec_l9Relax.calls k2 _ _ l1 _ _ x7_2 t522 _ ?side1 ?side2 ?side3 ?side4 A13.out).mono ?_); (case side1 => exact cb_ HR1 HB); (case side2 => exact HC1.out); (case side3 => exact ca (Kd.R_reads' HO_7.out).2.2); (case side4 => exact (Kd.R_reads' HO_7.out).2.1); rintro e w15 ⟨v523, rfl, ho0, hb⟩; refine ⟨_, rfl, ?_⟩; have HO524 := Aside0.mk (Kd.R_lower (Kd.R_new' ho0 (rl_ HO_7)) (below_size (hB HB))); replace HO_7 := re_ HO_7 ho0 hb; replace HB := bst_ HB hb; clear hb ho0))
     go_roundg k2
     case measure => have := HK1.out; have := HK2.out; omega
     case rel => exact ⟨(t522), (wrap64 (x9_2 + 1)), (by first | rfl | (simp; done) | (simp [*]; done)), H', ⟨by have := HK1.out; have := HK2.out; omega⟩, rm_ HO524 (fun _ hk => trivial), ⟨hB HB⟩⟩

def spec_l1Put.l0 : Nat → List Int → Int → Int → Option (List Int)
 | 0, _, _, _ => none
 | k + 1, x0, x1, x5 => if x5 < (x0.length : Int) then (if 0 ≤ x5 then (if (rd x0 x5) < x1 then (spec_l1Put.l0 k x0 x1 (wrap64 (x5 + 1))) else (if (rd x0 x5) = x1 then (some x0) else ((some (([] : List Int) : List Int)).bind fun y527 => (if x5 ≤ (x0.length : Int) then ((some (x0.take (x5 : Int).toNat : List Int)).bind fun y530 => (if y527.length + y530.length < 17592186044416 then ((some (y527 ++ y530 : List Int)).bind fun y534 => (if y534.length < 17592186044416 then ((some (y534 ++ [x1] : List Int)).bind fun y537 => ((some (x0.drop (x5 : Int).toNat : List Int)).bind fun y540 => (if y537.length + y540.length < 17592186044416 then (some (y537 ++ y540)) else (none)))) else (none))) else (none))) else (none))))) else (none)) else ((some (([] : List Int) : List Int)).bind fun y547 => (if 0 ≤ x5 then (if x5 ≤ (x0.length : Int) then ((some (x0.take (x5 : Int).toNat : List Int)).bind fun y550 => (if y547.length + y550.length < 17592186044416 then ((some (y547 ++ y550 : List Int)).bind fun y554 => (if y554.length < 17592186044416 then ((some (y554 ++ [x1] : List Int)).bind fun y557 => ((some (x0.drop (x5 : Int).toNat : List Int)).bind fun y560 => (if y557.length + y560.length < 17592186044416 then (some (y557 ++ y560)) else (none)))) else (none))) else (none))) else (none)) else (none)))
def spec_l1Put.f (k : Nat) (l0 : List Int) (a1 : Int) : Option (List Int) := spec_l1Put.l0 k l0 a1 0
theorem spec_l1Put.mono_l : ∀ k, (∀ y0 y1 y2, LeO (spec_l1Put.l0 k y0 y1 y2) (spec_l1Put.l0 (k + 1) y0 y1 y2))
 | 0 => fun _ _ _ r h => by simp [spec_l1Put.l0] at h
 | k + 1 => by
  have ih0 := spec_l1Put.mono_l k
  ·intro y0 y1 y2
   unfold spec_l1Put.l0
   repeat' first
   | (with_reducible exact ih0 _ _ _)
   | with_reducible first | exact LeO.refl _ | exact LeO.none _ | refine LeO.ite ?_ ?_ | refine LeO.bind ?_ fun _ => ?_
theorem spec_l1Put.mono : ∀ a0 a1 k, LeO (spec_l1Put.f k a0 a1) (spec_l1Put.f (k + 1) a0 a1) := by
 intro a0 a1 k
 have ih0 := spec_l1Put.mono_l k
 unfold spec_l1Put.f
 repeat' first
   | (with_reducible exact ih0 _ _ _)
   | with_reducible first | exact LeO.refl _ | exact LeO.none _ | refine LeO.ite ?_ ?_ | refine LeO.bind ?_ fun _ => ?_
set_option maxHeartbeats 8000000 in
set_option maxRecDepth 100000 in
theorem spec_l1Put.calls (k : Nat) (P0_ : Nat → Prop) (u9000_ : Value) (l0 : List Int) (a1 : Int) (r : List Int) (w0 w : World) (hB : Below w0.heap.size w0 w) (ho0 : Kd.R (Kd.int .i64) 3 w w0.heap.size P0_ u9000_ l0) (h : spec_l1Put.f k l0 a1 = some r) :
  Calls Try.prog 120 #[u9000_, .int .i64 a1] w fun e w' => ∃ v0_ : Value, e = .returned (v0_) ∧ Kd.R (Kd.int .i64) 3 w' w0.heap.size (fun k_ => (P0_ k_ ∨ w.heap.size ≤ k_)) v0_ r ∧ Below w0.heap.size w0 w' ∧ Kept w w' (fun k_ => P0_ k_) := by
 have HO0 := Aside0.mk (show Kd.R (Kd.int .i64) 3 w w0.heap.size (fun k_ => (P0_ k_ ∨ w.heap.size ≤ k_)) u9000_ l0 from Kd.R_mono ho0 (fun k_ hk => (.inl hk)))
 have HK := Aside0.mk (Kept.refl w (fun k_ => P0_ k_))
 have HW0 := Aside0.mk hB.size
 have HB := Aside0.mk hB
 clear hB
 have H : (spec_l1Put.l0 k l0 a1 0) = some r := h
 clear h
 have H' := Aside0.mk H
 clear H
 go_enter Try.func120, Try.ntmps120
 go_wp2
 go_loopg [5] k (fun kq v5 w' => ∃ (x5_1 : Int), v5 = .int .i64 x5_1 ∧ Aside0 (spec_l1Put.l0 kq l0 a1 x5_1 = some r) ∧ Aside0 (kq ≤ k) ∧ Aside0 (Kd.R (Kd.int .i64) 3 w' w0.heap.size (fun k_ => (P0_ k_ ∨ w.heap.size ≤ k_)) u9000_ l0) ∧ Aside0 (Kept w w' (fun k_ => P0_ k_)) ∧ Aside0 (Below w0.heap.size w0 w'))
 case atStart => exact ⟨(0), (by first | rfl | (simp; done) | (simp [*]; done)), H', ⟨Nat.le_refl _⟩, ⟨ra HO0.out⟩, ⟨hk_ HK⟩, ⟨hB HB⟩⟩
 case round =>
  clear H'
  obtain ⟨x5_1, rfl, HA, HK1, HO_0, HK, HB⟩ := hrel
  cases gk with
  | zero => exact absurd HA.out (by simp [spec_l1Put.l0])
  | succ k1 =>
   have H := HA.out
   clear HA
   simp only [spec_l1Put.l0] at H
   by_cases c3 : x5_1 < (l0.length : Int)
   rotate_left
   ·rw [if_neg c3] at H
    have c3b0 : decide (x5_1 < (l0.length : Int)) = false := decide_eq_false c3
    clear c3
    obtain ⟨y547, hy547⟩ : ∃ y_ : List Int, y_ = (([] : List Int)) := ⟨_, rfl⟩
    replace H : (if 0 ≤ x5_1 then (if x5_1 ≤ (l0.length : Int) then ((some (l0.take (x5_1 : Int).toNat : List Int)).bind fun y550 => (if y547.length + y550.length < 17592186044416 then ((some (y547 ++ y550 : List Int)).bind fun y554 => (if y554.length < 17592186044416 then ((some (y554 ++ [a1] : List Int)).bind fun y557 => ((some (l0.drop (x5_1 : Int).toNat : List Int)).bind fun y560 => (if y557.length + y560.length < 17592186044416 then (some (y557 ++ y560)) else (none)))) else (none))) else (none))) else (none)) else (none)) = some r := by first | (rw [hy547]; with_reducible exact H) | (have H2_ := (Option.bind_some _ _).symm.trans H; rw [hy547]; with_reducible exact H2_) | (have H2_ := (Option.bind_some _ _).symm.trans H; with_reducible exact H2_) | with_reducible exact H | (rw [hy547]; exact H) | exact H
    have Ny547 := Aside0.mk hy547
    clear hy547
    by_cases c24 : 0 ≤ x5_1
    rotate_left
    ·rw [if_neg c24] at H
     exact absurd H (by simp)
    rw [if_pos c24] at H
    have c24b0 := eq_true c24
    have c24b1 : decide (0 ≤ x5_1) = true := decide_eq_true c24
    clear c24
    by_cases c25 : x5_1 ≤ (l0.length : Int)
    rotate_left
    ·rw [if_neg c25] at H
     exact absurd H (by simp)
    rw [if_pos c25] at H
    have c25b0 := eq_true c25
    have c25b1 : decide (x5_1 ≤ (l0.length : Int)) = true := decide_eq_true c25
    clear c25
    obtain ⟨y550, hy550⟩ : ∃ y_ : List Int, y_ = (l0.take (x5_1 : Int).toNat) := ⟨_, rfl⟩
    replace H : (if y547.length + y550.length < 17592186044416 then ((some (y547 ++ y550 : List Int)).bind fun y554 => (if y554.length < 17592186044416 then ((some (y554 ++ [a1] : List Int)).bind fun y557 => ((some (l0.drop (x5_1 : Int).toNat : List Int)).bind fun y560 => (if y557.length + y560.length < 17592186044416 then (some (y557 ++ y560)) else (none)))) else (none))) else (none)) = some r := by first | (rw [hy550]; with_reducible exact H) | (have H2_ := (Option.bind_some _ _).symm.trans H; rw [hy550]; with_reducible exact H2_) | (have H2_ := (Option.bind_some _ _).symm.trans H; with_reducible exact H2_) | with_reducible exact H | (rw [hy550]; exact H) | exact H
    have Ny550 := Aside0.mk hy550
    clear hy550
    by_cases c26 : y547.length + y550.length < 17592186044416
    rotate_left
    ·rw [if_neg c26] at H
     exact absurd H (by simp)
    rw [if_pos c26] at H
    have LMc26 := Aside0.mk c26
    clear c26
    obtain ⟨y554, hy554⟩ : ∃ y_ : List Int, y_ = (y547 ++ y550) := ⟨_, rfl⟩
    replace H : (if y554.length < 17592186044416 then ((some (y554 ++ [a1] : List Int)).bind fun y557 => ((some (l0.drop (x5_1 : Int).toNat : List Int)).bind fun y560 => (if y557.length + y560.length < 17592186044416 then (some (y557 ++ y560)) else (none)))) else (none)) = some r := by first | (rw [hy554]; with_reducible exact H) | (have H2_ := (Option.bind_some _ _).symm.trans H; rw [hy554]; with_reducible exact H2_) | (have H2_ := (Option.bind_some _ _).symm.trans H; with_reducible exact H2_) | with_reducible exact H | (rw [hy554]; exact H) | exact H
    have Ny554 := Aside0.mk hy554
    clear hy554
    by_cases c27 : y554.length < 17592186044416
    rotate_left
    ·rw [if_neg c27] at H
     exact absurd H (by simp)
    rw [if_pos c27] at H
    have LMc27 := Aside0.mk c27
    clear c27
    obtain ⟨y557, hy557⟩ : ∃ y_ : List Int, y_ = (y554 ++ [a1]) := ⟨_, rfl⟩
    replace H : ((some (l0.drop (x5_1 : Int).toNat : List Int)).bind fun y560 => (if y557.length + y560.length < 17592186044416 then (some (y557 ++ y560)) else (none))) = some r := by first | (rw [hy557]; with_reducible exact H) | (have H2_ := (Option.bind_some _ _).symm.trans H; rw [hy557]; with_reducible exact H2_) | (have H2_ := (Option.bind_some _ _).symm.trans H; with_reducible exact H2_) | with_reducible exact H | (rw [hy557]; exact H) | exact H
    have Ny557 := Aside0.mk hy557
    clear hy557
    have c28b0 := eq_true (od_ : 0 ≤ x5_1)
    have c29b0 := eq_true (od_ : x5_1 ≤ (l0.length : Int))
    obtain ⟨y560, hy560⟩ : ∃ y_ : List Int, y_ = (l0.drop (x5_1 : Int).toNat) := ⟨_, rfl⟩
    replace H : (if y557.length + y560.length < 17592186044416 then (some (y557 ++ y560)) else (none)) = some r := by first | (rw [hy560]; with_reducible exact H) | (have H2_ := (Option.bind_some _ _).symm.trans H; rw [hy560]; with_reducible exact H2_) | (have H2_ := (Option.bind_some _ _).symm.trans H; with_reducible exact H2_) | with_reducible exact H | (rw [hy560]; exact H) | exact H
    have Ny560 := Aside0.mk hy560
    clear hy560
    by_cases c30 : y557.length + y560.length < 17592186044416
    rotate_left
    ·rw [if_neg c30] at H
     exact absurd H (by simp)
    rw [if_pos c30] at H
    have LMc30 := Aside0.mk c30
    clear c30
    obtain ⟨y564, hy564⟩ : ∃ y_ : List Int, y_ = (y557 ++ y560) := ⟨_, rfl⟩
    replace H : (some y564) = some r := by first | (rw [hy564]; with_reducible exact H) | (have H2_ := (Option.bind_some _ _).symm.trans H; rw [hy564]; with_reducible exact H2_) | (have H2_ := (Option.bind_some _ _).symm.trans H; with_reducible exact H2_) | with_reducible exact H | (rw [hy564]; exact H) | exact H
    have Ny564 := Aside0.mk hy564
    clear hy564
    obtain rfl := Option.some.inj H
    obtain ⟨Ao31, co31, eo31⟩ := Kd.R_slice HO_0.out
    subst eo31
    go_wp2_with (first | ((with_reducible refine gate_dst (N := 34) rfl ?_); refine Kd.R_lit (Kd.int .i64) _ 3 ?hg (N := 34) ?hd (xs := ([] : List Int)) (inner := []) (ok := fun _ => True) (okp := fun _ => True) ?hr ?hp (fun _ hk => hk) trivial (Below.refl _ _) (Nat.le_refl _) (by simp) ?_; (case hd => rfl); (case hg => rfl); (case hr => first | (go_simp; done) | (go_simp; rfl)); (case hp => exact (Reps.none _ _)); intro v548 w32 ho33 hb hg_ hnew_; clear hg_ hnew_; (first | rw [← Ny547.out] at ho33 | (simp only [Int.reduceToNat] at ho33; rw [← Ny547.out] at ho33)); have HO549 := Aside0.mk (Kd.R_lower (Kd.R_new' (Kd.R_newM (M := fun k_ => (P0_ k_ ∨ w.heap.size ≤ k_)) ho33 (by first | exact HK.out.1 | exact (show Kept w _ (fun k_ => P0_ k_) from hk_ HK).1) (fun k_ h_ => .inr h_)) (rl_ HO_0)) (below_size (hB HB))); replace HO_0 := re_ HO_0 ho33 hb; replace HK := Aside0.mk (Kept.below (S := (fun k_ => P0_ k_)) (hk_ HK) hb); replace HB := bst_ HB hb; clear hb ho33; have q34 : (x5_1 : Int) ≤ ((l0.length : Int) : Int) := od_; obtain ⟨i034, hi034, _, hsz34, _⟩ := info_parts info3; have hroom34 : l0.length ≤ co31 := (Kd.R_reads' HO_0.out).2.1; have hC34 : Kd.C (Kd.int .i64) _ Ao31 l0.length l0 := (Kd.R_reads' HO_0.out).2.2; have hcut34 := cut_to (P := Try.prog) 23 3 .i64 Try.underlying23 hi034 Ao31 l0.length co31 x5_1 (od_) q34 hroom34; have hr34 := Kd.C_take (m := (x5_1 : Int).toNat) hC34 (by omega); have hy34 : y550.length = (x5_1 : Int).toNat := (by rw [Ny550.out, List.length_take]; omega); rw [← Ny550.out] at hr34; rw [← hy34] at hcut34; have HR553 := Aside0.mk hr34; have HC553 := Aside0.mk (show y550.length ≤ co31 from by omega); clear hr34 hC34 hroom34 hi034 hsz34; have KY34 := Aside0.mk hy34; clear hy34; have KL34 := Aside0.mk (show (x5_1 : Int).toNat ≤ l0.length from by omega); replace q34 := eq_true q34) | ((with_reducible refine gate_builtin (b := .append) (xs := #[.tmp 34, .tmp 37]) rfl ?_); at_builtin; refine Kd.R_append_rows (Kd.int .i64) (w0 := w0) w0.heap.size rfl (.tmp 34) (.tmp 37) 23 3 (.int .i64 0) 8 rfl Try.underlying23 info3 rfl (by decide) (by omega) v548 y547 y550 _ _ _ (fun k_ => (P0_ k_ ∨ w.heap.size ≤ k_) ∧ no_ (.slice Ao31 l0.length co31) k_) (fun _ => False) rfl rfl ?aO ?aR (fun _ _ h => h) (fun _ h => h.elim) ?aF ?aB ?aS ?aL ?_; (case aR => repeat (first | exact (by repeat (first | (with_reducible exact HR553.out) | (with_reducible refine Kd.C_alloc ?_ _) | (with_reducible refine Kd.C_drewN ?_ _) | (with_reducible refine Kd.C_drew ?_) | exact HR553.out)) | (with_reducible refine Kd.C_alloc ?_ _) | (with_reducible refine Kd.C_drewN ?_ _) | (with_reducible refine Kd.C_drew ?_))); (case aB => exact (hB HB)); (case aF => exact (fun k_ hk => ⟨(.inr (Nat.le_trans (by first | exact HK.out.1 | exact (show Kept w _ (fun k_ => P0_ k_) from hk_ HK).1) hk)), Kd.fresh' (rl_ HO_0) k_ hk⟩)); (case aO => exact (rm_ HO549 (fun _ hk => ⟨hk.1.1, hk.2⟩)).out); (case aS => exact (below_size (hB HB))); (case aL => have := LMc26.out; omega); intro v555 w35 ho hb hg hat; rw [← Ny554.out] at ho; have HO556 := Aside0.mk (ho); replace HB := Aside0.mk (hb); replace HK := Aside0.mk (Kept.of_grown (S := (fun k_ => P0_ k_)) hg (hk_ HK) (fun k_ e_ => (HO549.out.1 k_ e_).1.1)); replace HR553 := Aside0.mk ((show Kd.C (Kd.int .i64) w35 Ao31 y550.length y550 from by rw [Ny550.out]; exact Kd.C_take (m := (x5_1 : Int).toNat) ((Kd.R_reads' (Kd.R_after (ok := (fun k_ => (P0_ k_ ∨ w.heap.size ≤ k_))) (ra HO_0.out) hg hat)).2.2) KL34.out)); replace HO_0 := Aside0.mk (Kd.R_after (ok := (fun k_ => (P0_ k_ ∨ w.heap.size ≤ k_))) (ra HO_0.out) hg hat); clear HO549; clear ho hb hg hat) | ((with_reducible refine gate_builtin (b := .append) (xs := #[.tmp 39, .tmp 41]) rfl ?_); at_builtin; refine Kd.R_append (Kd.int .i64) (w0 := w0) w0.heap.size rfl (.tmp 39) (.tmp 41) 23 3 (.int .i64 0) 8 rfl Try.underlying23 info3 rfl (by decide) (by omega) v555 y554 a1 [.int .i64 a1] (fun k_ => (P0_ k_ ∨ w.heap.size ≤ k_) ∧ no_ (.slice Ao31 l0.length co31) k_) (fun _ => False) rfl rfl ?aP (fun _ hk => hk.elim) ?aF ?aO ?aB ?aS ?aL ?_; (case aP => exact rfl); (case aB => exact (hB HB)); (case aF => exact (fun k_ hk => ⟨(.inr (Nat.le_trans (by first | exact HK.out.1 | exact (show Kept w _ (fun k_ => P0_ k_) from hk_ HK).1) hk)), Kd.fresh' (rl_ HO_0) k_ hk⟩)); (case aO => exact (ra HO556.out)); (case aS => exact (below_size (hB HB))); (case aL => have := LMc27.out; omega); intro v558 w36 ho hb hg hat; rw [← Ny557.out] at ho; have HO559 := Aside0.mk (ho); replace HB := Aside0.mk (hb); replace HK := Aside0.mk (Kept.of_grown (S := (fun k_ => P0_ k_)) hg (hk_ HK) (fun k_ e_ => (HO556.out.1 k_ e_).1)); replace HR553 := Aside0.mk ((show Kd.C (Kd.int .i64) w36 Ao31 y550.length y550 from by rw [Ny550.out]; exact Kd.C_take (m := (x5_1 : Int).toNat) ((Kd.R_reads' (Kd.R_after (ok := (fun k_ => (P0_ k_ ∨ w.heap.size ≤ k_))) (ra HO_0.out) hg hat)).2.2) KL34.out)); replace HO_0 := Aside0.mk (Kd.R_after (ok := (fun k_ => (P0_ k_ ∨ w.heap.size ≤ k_))) (ra HO_0.out) hg hat); clear HO556; clear ho hb hg hat; have q37 : (x5_1 : Int) ≤ ((l0.length : Int) : Int) := od_; obtain ⟨i037, hi037, _, hsz37, _⟩ := info_parts info3; have hroom37 : l0.length ≤ co31 := (Kd.R_reads' HO_0.out).2.1; have hC37 : Kd.C (Kd.int .i64) _ Ao31 l0.length l0 := (Kd.R_reads' HO_0.out).2.2; have q037 : (0 : Int) ≤ (x5_1 : Int) := od_; have hcut37 := cut_from (P := Try.prog) 23 3 .i64 Try.underlying23 hi037 1 hsz37 Ao31 l0.length co31 x5_1 q037 q37; have hr37 := Kd.C_drop (m := (x5_1 : Int).toNat) (c := co31) hC37 (by omega) hroom37; obtain ⟨A37, hA37⟩ : ∃ A1, A1 = (if co31 = (x5_1 : Int).toNat then Ao31 else (Ao31 : Option Addr).map (·.add ((x5_1 : Int).toNat * 1))) := ⟨_, rfl⟩; obtain ⟨c37, hc37⟩ : ∃ c1, c1 = co31 - (x5_1 : Int).toNat := ⟨_, rfl⟩; have hy37 : y560.length = l0.length - (x5_1 : Int).toNat := (by rw [Ny560.out, List.length_drop] <;> omega); rw [show (l0).drop (x5_1 : Int).toNat = y560 from Ny560.out.symm] at hr37; replace hr37 : Kd.C (Kd.int .i64) _ A37 y560.length y560 := (by rw [hA37]; exact hr37); rw [← hy37, ← hA37, ← hc37] at hcut37; have HR563 := Aside0.mk hr37; have HC563 := Aside0.mk (show y560.length ≤ c37 from by rw [hy37, hc37]; exact Nat.sub_le_sub_right hroom37 _); clear hr37 hC37 hroom37 hi037 hsz37 hc37; have KY37 := Aside0.mk hy37; have KA37 := Aside0.mk hA37; clear hy37 hA37; have KL37 := Aside0.mk (show (x5_1 : Int).toNat ≤ l0.length from by omega); replace q37 := eq_true q37) | ((with_reducible refine gate_builtin (b := .append) (xs := #[.tmp 43, .tmp 46]) rfl ?_); at_builtin; refine Kd.R_append_rows (Kd.int .i64) (w0 := w0) w0.heap.size rfl (.tmp 43) (.tmp 46) 23 3 (.int .i64 0) 8 rfl Try.underlying23 info3 rfl (by decide) (by omega) v558 y557 y560 _ _ _ (fun k_ => (P0_ k_ ∨ w.heap.size ≤ k_) ∧ no_ (.slice Ao31 l0.length co31) k_) (fun _ => False) rfl rfl ?aO ?aR (fun _ _ h => h) (fun _ h => h.elim) ?aF ?aB ?aS ?aL ?_; (case aR => repeat (first | exact (by repeat (first | (with_reducible exact HR563.out) | (with_reducible refine Kd.C_alloc ?_ _) | (with_reducible refine Kd.C_drewN ?_ _) | (with_reducible refine Kd.C_drew ?_) | exact HR563.out)) | (with_reducible refine Kd.C_alloc ?_ _) | (with_reducible refine Kd.C_drewN ?_ _) | (with_reducible refine Kd.C_drew ?_))); (case aB => exact (hB HB)); (case aF => exact (fun k_ hk => ⟨(.inr (Nat.le_trans (by first | exact HK.out.1 | exact (show Kept w _ (fun k_ => P0_ k_) from hk_ HK).1) hk)), Kd.fresh' (rl_ HO_0) k_ hk⟩)); (case aO => exact (ra HO559.out)); (case aS => exact (below_size (hB HB))); (case aL => have := LMc30.out; omega); intro v565 w38 ho hb hg hat; rw [← Ny564.out] at ho; have HO566 := Aside0.mk (ho); replace HB := Aside0.mk (hb); replace HK := Aside0.mk (Kept.of_grown (S := (fun k_ => P0_ k_)) hg (hk_ HK) (fun k_ e_ => (HO559.out.1 k_ e_).1)); replace HR553 := Aside0.mk ((show Kd.C (Kd.int .i64) w38 Ao31 y550.length y550 from by rw [Ny550.out]; exact Kd.C_take (m := (x5_1 : Int).toNat) ((Kd.R_reads' (Kd.R_after (ok := (fun k_ => (P0_ k_ ∨ w.heap.size ≤ k_))) (ra HO_0.out) hg hat)).2.2) KL34.out)); replace HR563 := Aside0.mk ((show Kd.C (Kd.int .i64) w38 A37 y560.length y560 from by rw [Ny560.out, KA37.out]; exact Kd.C_drop (m := (x5_1 : Int).toNat) (c := co31) ((Kd.R_reads' (Kd.R_after (ok := (fun k_ => (P0_ k_ ∨ w.heap.size ≤ k_))) (ra HO_0.out) hg hat)).2.2) KL37.out ((Kd.R_reads' (Kd.R_after (ok := (fun k_ => (P0_ k_ ∨ w.heap.size ≤ k_))) (ra HO_0.out) hg hat)).2.1))); replace HO_0 := Aside0.mk (Kd.R_after (ok := (fun k_ => (P0_ k_ ∨ w.heap.size ≤ k_))) (ra HO_0.out) hg hat); clear HO559; clear ho hb hg hat))
    go_ret
    exact ⟨_, rt_, by (with_reducible repeat (first | apply Kd.R_alloc | apply Kd.R_drewN | apply Kd.R_drew)); exact Kd.R_mono HO566.out (fun _ hk => hk.1), hB HB, hk_ HK⟩
   rw [if_pos c3] at H
   have c3b0 : decide (x5_1 < (l0.length : Int)) = true := decide_eq_true c3
   clear c3
   by_cases c4 : 0 ≤ x5_1
   rotate_left
   ·rw [if_neg c4] at H
    exact absurd H (by simp)
   rw [if_pos c4] at H
   have c4b0 : decide (0 ≤ x5_1) = true := decide_eq_true c4
   clear c4
   by_cases c5 : (rd l0 x5_1) < a1
   ·rw [if_pos c5] at H
    have c5b0 : decide ((rd l0 x5_1) < a1) = true := decide_eq_true c5
    clear c5
    have H' := Aside0.mk H
    clear H
    obtain ⟨Ao6, co6, eo6⟩ := Kd.R_slice HO_0.out
    subst eo6
    have p525 : 0 ≤ (x5_1 : Int) := od_
    have q525 : x5_1 < (l0.length : Int) := od_
    obtain ⟨ad525, e525, hx525_0⟩ := Kd.at_int (Kd.R_reads' HO_0.out).2.2 x5_1 p525 q525
    cases e525
    replace p525 := eq_true p525
    replace q525 := eq_true q525
    go_wp2
    go_roundg k1
    case measure => have := HK1.out; omega
    case rel => exact ⟨(wrap64 (x5_1 + 1)), (by first | rfl | (simp; done) | (simp [*]; done)), H', ⟨by have := HK1.out; omega⟩, ⟨ra HO_0.out⟩, ⟨hk_ HK⟩, ⟨hB HB⟩⟩
   rw [if_neg c5] at H
   have c5b0 : decide ((rd l0 x5_1) < a1) = false := decide_eq_false c5
   clear c5
   by_cases c7 : (rd l0 x5_1) = a1
   ·rw [if_pos c7] at H
    have c7b0 : ((rd l0 x5_1) == a1) = true := beq_iff_eq.mpr c7
    have c7b1 : ((rd l0 x5_1) != a1) = false := bne_eq_false_iff_eq.mpr c7
    clear c7
    obtain rfl := Option.some.inj H
    obtain ⟨Ao8, co8, eo8⟩ := Kd.R_slice HO_0.out
    subst eo8
    have p525 : 0 ≤ (x5_1 : Int) := od_
    have q525 : x5_1 < (l0.length : Int) := od_
    obtain ⟨ad525, e525, hx525_0⟩ := Kd.at_int (Kd.R_reads' HO_0.out).2.2 x5_1 p525 q525
    cases e525
    replace p525 := eq_true p525
    replace q525 := eq_true q525
    have p526 : 0 ≤ (x5_1 : Int) := od_
    have q526 : x5_1 < (l0.length : Int) := od_
    obtain ⟨ad526, e526, hx526_0⟩ := Kd.at_int (Kd.R_reads' HO_0.out).2.2 x5_1 p526 q526
    obtain rfl : ad525 = ad526 := (by injection e526)
    replace p526 := eq_true p526
    replace q526 := eq_true q526
    go_wp2
    go_ret
    exact ⟨_, rt_, ra HO_0.out, hB HB, hk_ HK⟩
   rw [if_neg c7] at H
   have c7b0 : ((rd l0 x5_1) == a1) = false := beq_eq_false_iff_ne.mpr c7
   have c7b1 : ((rd l0 x5_1) != a1) = true := bne_iff_ne.mpr c7
   obtain ⟨y527, hy527⟩ : ∃ y_ : List Int, y_ = (([] : List Int)) := ⟨_, rfl⟩
   replace H : (if x5_1 ≤ (l0.length : Int) then ((some (l0.take (x5_1 : Int).toNat : List Int)).bind fun y530 => (if y527.length + y530.length < 17592186044416 then ((some (y527 ++ y530 : List Int)).bind fun y534 => (if y534.length < 17592186044416 then ((some (y534 ++ [a1] : List Int)).bind fun y537 => ((some (l0.drop (x5_1 : Int).toNat : List Int)).bind fun y540 => (if y537.length + y540.length < 17592186044416 then (some (y537 ++ y540)) else (none)))) else (none))) else (none))) else (none)) = some r := by first | (rw [hy527]; with_reducible exact H) | (have H2_ := (Option.bind_some _ _).symm.trans H; rw [hy527]; with_reducible exact H2_) | (have H2_ := (Option.bind_some _ _).symm.trans H; with_reducible exact H2_) | with_reducible exact H | (rw [hy527]; exact H) | exact H
   have Ny527 := Aside0.mk hy527
   clear hy527
   have c9b0 := eq_true (od_ : 0 ≤ x5_1)
   by_cases c10 : x5_1 ≤ (l0.length : Int)
   rotate_left
   ·rw [if_neg c10] at H
    exact absurd H (by simp)
   rw [if_pos c10] at H
   have c10b0 := eq_true c10
   have c10b1 : decide (x5_1 ≤ (l0.length : Int)) = true := decide_eq_true c10
   clear c10
   obtain ⟨y530, hy530⟩ : ∃ y_ : List Int, y_ = (l0.take (x5_1 : Int).toNat) := ⟨_, rfl⟩
   replace H : (if y527.length + y530.length < 17592186044416 then ((some (y527 ++ y530 : List Int)).bind fun y534 => (if y534.length < 17592186044416 then ((some (y534 ++ [a1] : List Int)).bind fun y537 => ((some (l0.drop (x5_1 : Int).toNat : List Int)).bind fun y540 => (if y537.length + y540.length < 17592186044416 then (some (y537 ++ y540)) else (none)))) else (none))) else (none)) = some r := by first | (rw [hy530]; with_reducible exact H) | (have H2_ := (Option.bind_some _ _).symm.trans H; rw [hy530]; with_reducible exact H2_) | (have H2_ := (Option.bind_some _ _).symm.trans H; with_reducible exact H2_) | with_reducible exact H | (rw [hy530]; exact H) | exact H
   have Ny530 := Aside0.mk hy530
   clear hy530
   by_cases c11 : y527.length + y530.length < 17592186044416
   rotate_left
   ·rw [if_neg c11] at H
    exact absurd H (by simp)
   rw [if_pos c11] at H
   have LMc11 := Aside0.mk c11
   clear c11
   obtain ⟨y534, hy534⟩ : ∃ y_ : List Int, y_ = (y527 ++ y530) := ⟨_, rfl⟩
   replace H : (if y534.length < 17592186044416 then ((some (y534 ++ [a1] : List Int)).bind fun y537 => ((some (l0.drop (x5_1 : Int).toNat : List Int)).bind fun y540 => (if y537.length + y540.length < 17592186044416 then (some (y537 ++ y540)) else (none)))) else (none)) = some r := by first | (rw [hy534]; with_reducible exact H) | (have H2_ := (Option.bind_some _ _).symm.trans H; rw [hy534]; with_reducible exact H2_) | (have H2_ := (Option.bind_some _ _).symm.trans H; with_reducible exact H2_) | with_reducible exact H | (rw [hy534]; exact H) | exact H
   have Ny534 := Aside0.mk hy534
   clear hy534
   by_cases c12 : y534.length < 17592186044416
   rotate_left
   ·rw [if_neg c12] at H
    exact absurd H (by simp)
   rw [if_pos c12] at H
   have LMc12 := Aside0.mk c12
   clear c12
   obtain ⟨y537, hy537⟩ : ∃ y_ : List Int, y_ = (y534 ++ [a1]) := ⟨_, rfl⟩
   replace H : ((some (l0.drop (x5_1 : Int).toNat : List Int)).bind fun y540 => (if y537.length + y540.length < 17592186044416 then (some (y537 ++ y540)) else (none))) = some r := by first | (rw [hy537]; with_reducible exact H) | (have H2_ := (Option.bind_some _ _).symm.trans H; rw [hy537]; with_reducible exact H2_) | (have H2_ := (Option.bind_some _ _).symm.trans H; with_reducible exact H2_) | with_reducible exact H | (rw [hy537]; exact H) | exact H
   have Ny537 := Aside0.mk hy537
   clear hy537
   have c13b0 := eq_true (od_ : 0 ≤ x5_1)
   have c14b0 := eq_true (od_ : x5_1 ≤ (l0.length : Int))
   obtain ⟨y540, hy540⟩ : ∃ y_ : List Int, y_ = (l0.drop (x5_1 : Int).toNat) := ⟨_, rfl⟩
   replace H : (if y537.length + y540.length < 17592186044416 then (some (y537 ++ y540)) else (none)) = some r := by first | (rw [hy540]; with_reducible exact H) | (have H2_ := (Option.bind_some _ _).symm.trans H; rw [hy540]; with_reducible exact H2_) | (have H2_ := (Option.bind_some _ _).symm.trans H; with_reducible exact H2_) | with_reducible exact H | (rw [hy540]; exact H) | exact H
   have Ny540 := Aside0.mk hy540
   clear hy540
   by_cases c15 : y537.length + y540.length < 17592186044416
   rotate_left
   ·rw [if_neg c15] at H
    exact absurd H (by simp)
   rw [if_pos c15] at H
   have LMc15 := Aside0.mk c15
   clear c15
   obtain ⟨y544, hy544⟩ : ∃ y_ : List Int, y_ = (y537 ++ y540) := ⟨_, rfl⟩
   replace H : (some y544) = some r := by first | (rw [hy544]; with_reducible exact H) | (have H2_ := (Option.bind_some _ _).symm.trans H; rw [hy544]; with_reducible exact H2_) | (have H2_ := (Option.bind_some _ _).symm.trans H; with_reducible exact H2_) | with_reducible exact H | (rw [hy544]; exact H) | exact H
   have Ny544 := Aside0.mk hy544
   clear hy544
   obtain rfl := Option.some.inj H
   obtain ⟨Ao16, co16, eo16⟩ := Kd.R_slice HO_0.out
   subst eo16
   have p525 : 0 ≤ (x5_1 : Int) := od_
   have q525 : x5_1 < (l0.length : Int) := od_
   obtain ⟨ad525, e525, hx525_0⟩ := Kd.at_int (Kd.R_reads' HO_0.out).2.2 x5_1 p525 q525
   cases e525
   replace p525 := eq_true p525
   replace q525 := eq_true q525
   have p526 : 0 ≤ (x5_1 : Int) := od_
   have q526 : x5_1 < (l0.length : Int) := od_
   obtain ⟨ad526, e526, hx526_0⟩ := Kd.at_int (Kd.R_reads' HO_0.out).2.2 x5_1 p526 q526
   obtain rfl : ad525 = ad526 := (by injection e526)
   replace p526 := eq_true p526
   replace q526 := eq_true q526
   go_wp2_with (first | ((with_reducible refine gate_dst (N := 34) rfl ?_); refine Kd.R_lit (Kd.int .i64) _ 3 ?hg (N := 34) ?hd (xs := ([] : List Int)) (inner := []) (ok := fun _ => True) (okp := fun _ => True) ?hr ?hp (fun _ hk => hk) trivial (Below.refl _ _) (Nat.le_refl _) (by simp) ?_; (case hd => rfl); (case hg => rfl); (case hr => first | (go_simp; done) | (go_simp; rfl)); (case hp => exact (Reps.none _ _)); intro v528 w17 ho18 hb hg_ hnew_; clear hg_ hnew_; (first | rw [← Ny527.out] at ho18 | (simp only [Int.reduceToNat] at ho18; rw [← Ny527.out] at ho18)); have HO529 := Aside0.mk (Kd.R_lower (Kd.R_new' (Kd.R_newM (M := fun k_ => (P0_ k_ ∨ w.heap.size ≤ k_)) ho18 (by first | exact HK.out.1 | exact (show Kept w _ (fun k_ => P0_ k_) from hk_ HK).1) (fun k_ h_ => .inr h_)) (rl_ HO_0)) (below_size (hB HB))); replace HO_0 := re_ HO_0 ho18 hb; replace HK := Aside0.mk (Kept.below (S := (fun k_ => P0_ k_)) (hk_ HK) hb); replace HB := bst_ HB hb; clear hb ho18; have q19 : (x5_1 : Int) ≤ ((l0.length : Int) : Int) := od_; obtain ⟨i019, hi019, _, hsz19, _⟩ := info_parts info3; have hroom19 : l0.length ≤ co16 := (Kd.R_reads' HO_0.out).2.1; have hC19 : Kd.C (Kd.int .i64) _ (some ad525) l0.length l0 := (Kd.R_reads' HO_0.out).2.2; have hcut19 := cut_to (P := Try.prog) 23 3 .i64 Try.underlying23 hi019 (some ad525) l0.length co16 x5_1 (od_) q19 hroom19; have hr19 := Kd.C_take (m := (x5_1 : Int).toNat) hC19 (by omega); have hy19 : y530.length = (x5_1 : Int).toNat := (by rw [Ny530.out, List.length_take]; omega); rw [← Ny530.out] at hr19; rw [← hy19] at hcut19; have HR533 := Aside0.mk hr19; have HC533 := Aside0.mk (show y530.length ≤ co16 from by omega); clear hr19 hC19 hroom19 hi019 hsz19; have KY19 := Aside0.mk hy19; clear hy19; have KL19 := Aside0.mk (show (x5_1 : Int).toNat ≤ l0.length from by omega); replace q19 := eq_true q19) | ((with_reducible refine gate_builtin (b := .append) (xs := #[.tmp 34, .tmp 37]) rfl ?_); at_builtin; refine Kd.R_append_rows (Kd.int .i64) (w0 := w0) w0.heap.size rfl (.tmp 34) (.tmp 37) 23 3 (.int .i64 0) 8 rfl Try.underlying23 info3 rfl (by decide) (by omega) v528 y527 y530 _ _ _ (fun k_ => (P0_ k_ ∨ w.heap.size ≤ k_) ∧ some k_ ≠ (.slice (some ad525) l0.length co16 : Value).ownBlock) (fun _ => False) rfl rfl ?aO ?aR (fun _ _ h => h) (fun _ h => h.elim) ?aF ?aB ?aS ?aL ?_; (case aR => repeat (first | exact (by repeat (first | (with_reducible exact HR533.out) | (with_reducible refine Kd.C_alloc ?_ _) | (with_reducible refine Kd.C_drewN ?_ _) | (with_reducible refine Kd.C_drew ?_) | exact HR533.out)) | (with_reducible refine Kd.C_alloc ?_ _) | (with_reducible refine Kd.C_drewN ?_ _) | (with_reducible refine Kd.C_drew ?_))); (case aB => exact (hB HB)); (case aF => exact (fun k_ hk => ⟨(.inr (Nat.le_trans (by first | exact HK.out.1 | exact (show Kept w _ (fun k_ => P0_ k_) from hk_ HK).1) hk)), Kd.fresh' (rl_ HO_0) k_ hk⟩)); (case aO => exact (rm_ HO529 (fun _ hk => ⟨hk.1.1, hk.2⟩)).out); (case aS => exact (below_size (hB HB))); (case aL => have := LMc11.out; omega); intro v535 w20 ho hb hg hat; rw [← Ny534.out] at ho; have HO536 := Aside0.mk (ho); replace HB := Aside0.mk (hb); replace HK := Aside0.mk (Kept.of_grown (S := (fun k_ => P0_ k_)) hg (hk_ HK) (fun k_ e_ => (HO529.out.1 k_ e_).1.1)); replace HR533 := Aside0.mk ((show Kd.C (Kd.int .i64) w20 (some ad525) y530.length y530 from by rw [Ny530.out]; exact Kd.C_take (m := (x5_1 : Int).toNat) ((Kd.R_reads' (Kd.R_after (ok := (fun k_ => (P0_ k_ ∨ w.heap.size ≤ k_))) (ra HO_0.out) hg hat)).2.2) KL19.out)); replace HO_0 := Aside0.mk (Kd.R_after (ok := (fun k_ => (P0_ k_ ∨ w.heap.size ≤ k_))) (ra HO_0.out) hg hat); clear HO529; clear ho hb hg hat) | ((with_reducible refine gate_builtin (b := .append) (xs := #[.tmp 39, .tmp 41]) rfl ?_); at_builtin; refine Kd.R_append (Kd.int .i64) (w0 := w0) w0.heap.size rfl (.tmp 39) (.tmp 41) 23 3 (.int .i64 0) 8 rfl Try.underlying23 info3 rfl (by decide) (by omega) v535 y534 a1 [.int .i64 a1] (fun k_ => (P0_ k_ ∨ w.heap.size ≤ k_) ∧ some k_ ≠ (.slice (some ad525) l0.length co16 : Value).ownBlock) (fun _ => False) rfl rfl ?aP (fun _ hk => hk.elim) ?aF ?aO ?aB ?aS ?aL ?_; (case aP => exact rfl); (case aB => exact (hB HB)); (case aF => exact (fun k_ hk => ⟨(.inr (Nat.le_trans (by first | exact HK.out.1 | exact (show Kept w _ (fun k_ => P0_ k_) from hk_ HK).1) hk)), Kd.fresh' (rl_ HO_0) k_ hk⟩)); (case aO => exact (ra HO536.out)); (case aS => exact (below_size (hB HB))); (case aL => have := LMc12.out; omega); intro v538 w21 ho hb hg hat; rw [← Ny537.out] at ho; have HO539 := Aside0.mk (ho); replace HB := Aside0.mk (hb); replace HK := Aside0.mk (Kept.of_grown (S := (fun k_ => P0_ k_)) hg (hk_ HK) (fun k_ e_ => (HO536.out.1 k_ e_).1)); replace HR533 := Aside0.mk ((show Kd.C (Kd.int .i64) w21 (some ad525) y530.length y530 from by rw [Ny530.out]; exact Kd.C_take (m := (x5_1 : Int).toNat) ((Kd.R_reads' (Kd.R_after (ok := (fun k_ => (P0_ k_ ∨ w.heap.size ≤ k_))) (ra HO_0.out) hg hat)).2.2) KL19.out)); replace HO_0 := Aside0.mk (Kd.R_after (ok := (fun k_ => (P0_ k_ ∨ w.heap.size ≤ k_))) (ra HO_0.out) hg hat); clear HO536; clear ho hb hg hat; have q22 : (x5_1 : Int) ≤ ((l0.length : Int) : Int) := od_; obtain ⟨i022, hi022, _, hsz22, _⟩ := info_parts info3; have hroom22 : l0.length ≤ co16 := (Kd.R_reads' HO_0.out).2.1; have hC22 : Kd.C (Kd.int .i64) _ (some ad525) l0.length l0 := (Kd.R_reads' HO_0.out).2.2; have q022 : (0 : Int) ≤ (x5_1 : Int) := od_; have hcut22 := cut_from (P := Try.prog) 23 3 .i64 Try.underlying23 hi022 1 hsz22 (some ad525) l0.length co16 x5_1 q022 q22; have hr22 := Kd.C_drop (m := (x5_1 : Int).toNat) (c := co16) hC22 (by omega) hroom22; obtain ⟨A22, hA22⟩ : ∃ A1, A1 = (if co16 = (x5_1 : Int).toNat then (some ad525) else ((some ad525) : Option Addr).map (·.add ((x5_1 : Int).toNat * 1))) := ⟨_, rfl⟩; obtain ⟨c22, hc22⟩ : ∃ c1, c1 = co16 - (x5_1 : Int).toNat := ⟨_, rfl⟩; have hy22 : y540.length = l0.length - (x5_1 : Int).toNat := (by rw [Ny540.out, List.length_drop] <;> omega); rw [show (l0).drop (x5_1 : Int).toNat = y540 from Ny540.out.symm] at hr22; replace hr22 : Kd.C (Kd.int .i64) _ A22 y540.length y540 := (by rw [hA22]; exact hr22); rw [← hy22, ← hA22, ← hc22] at hcut22; have HR543 := Aside0.mk hr22; have HC543 := Aside0.mk (show y540.length ≤ c22 from by rw [hy22, hc22]; exact Nat.sub_le_sub_right hroom22 _); clear hr22 hC22 hroom22 hi022 hsz22 hc22; have KY22 := Aside0.mk hy22; have KA22 := Aside0.mk hA22; clear hy22 hA22; have KL22 := Aside0.mk (show (x5_1 : Int).toNat ≤ l0.length from by omega); replace q22 := eq_true q22) | ((with_reducible refine gate_builtin (b := .append) (xs := #[.tmp 43, .tmp 46]) rfl ?_); at_builtin; refine Kd.R_append_rows (Kd.int .i64) (w0 := w0) w0.heap.size rfl (.tmp 43) (.tmp 46) 23 3 (.int .i64 0) 8 rfl Try.underlying23 info3 rfl (by decide) (by omega) v538 y537 y540 _ _ _ (fun k_ => (P0_ k_ ∨ w.heap.size ≤ k_) ∧ some k_ ≠ (.slice (some ad525) l0.length co16 : Value).ownBlock) (fun _ => False) rfl rfl ?aO ?aR (fun _ _ h => h) (fun _ h => h.elim) ?aF ?aB ?aS ?aL ?_; (case aR => repeat (first | exact (by repeat (first | (with_reducible exact HR543.out) | (with_reducible refine Kd.C_alloc ?_ _) | (with_reducible refine Kd.C_drewN ?_ _) | (with_reducible refine Kd.C_drew ?_) | exact HR543.out)) | (with_reducible refine Kd.C_alloc ?_ _) | (with_reducible refine Kd.C_drewN ?_ _) | (with_reducible refine Kd.C_drew ?_))); (case aB => exact (hB HB)); (case aF => exact (fun k_ hk => ⟨(.inr (Nat.le_trans (by first | exact HK.out.1 | exact (show Kept w _ (fun k_ => P0_ k_) from hk_ HK).1) hk)), Kd.fresh' (rl_ HO_0) k_ hk⟩)); (case aO => exact (ra HO539.out)); (case aS => exact (below_size (hB HB))); (case aL => have := LMc15.out; omega); intro v545 w23 ho hb hg hat; rw [← Ny544.out] at ho; have HO546 := Aside0.mk (ho); replace HB := Aside0.mk (hb); replace HK := Aside0.mk (Kept.of_grown (S := (fun k_ => P0_ k_)) hg (hk_ HK) (fun k_ e_ => (HO539.out.1 k_ e_).1)); replace HR533 := Aside0.mk ((show Kd.C (Kd.int .i64) w23 (some ad525) y530.length y530 from by rw [Ny530.out]; exact Kd.C_take (m := (x5_1 : Int).toNat) ((Kd.R_reads' (Kd.R_after (ok := (fun k_ => (P0_ k_ ∨ w.heap.size ≤ k_))) (ra HO_0.out) hg hat)).2.2) KL19.out)); replace HR543 := Aside0.mk ((show Kd.C (Kd.int .i64) w23 A22 y540.length y540 from by rw [Ny540.out, KA22.out]; exact Kd.C_drop (m := (x5_1 : Int).toNat) (c := co16) ((Kd.R_reads' (Kd.R_after (ok := (fun k_ => (P0_ k_ ∨ w.heap.size ≤ k_))) (ra HO_0.out) hg hat)).2.2) KL22.out ((Kd.R_reads' (Kd.R_after (ok := (fun k_ => (P0_ k_ ∨ w.heap.size ≤ k_))) (ra HO_0.out) hg hat)).2.1))); replace HO_0 := Aside0.mk (Kd.R_after (ok := (fun k_ => (P0_ k_ ∨ w.heap.size ≤ k_))) (ra HO_0.out) hg hat); clear HO539; clear ho hb hg hat))
   go_ret
   exact ⟨_, rt_, by (with_reducible repeat (first | apply Kd.R_alloc | apply Kd.R_drewN | apply Kd.R_drew)); exact Kd.R_mono HO546.out (fun _ hk => hk.1), hB HB, hk_ HK⟩

def spec_l8Near.l0 : Nat → Int → List Int → List (S86) → Int → Int → Option (List Int)
 | 0, _, _, _, _, _ => none
 | k + 1, x1, x5, x8, x9, x10 => if x10 < x9 then (if 0 ≤ x10 then (if x10 < (x8.length : Int) then (if ((rd_T86 x8 x10).f0) = x1 then ((spec_l1Put.f k x5 ((rd_T86 x8 x10).f1)).bind fun t569 => (if ((rd_T86 x8 x10).f1) = x1 then ((spec_l1Put.f k t569 ((rd_T86 x8 x10).f0)).bind fun t572 => (spec_l8Near.l0 k x1 t572 x8 x9 (wrap64 (x10 + 1)))) else (spec_l8Near.l0 k x1 t569 x8 x9 (wrap64 (x10 + 1))))) else (if ((rd_T86 x8 x10).f1) = x1 then ((spec_l1Put.f k x5 ((rd_T86 x8 x10).f0)).bind fun t575 => (spec_l8Near.l0 k x1 t575 x8 x9 (wrap64 (x10 + 1)))) else (spec_l8Near.l0 k x1 x5 x8 x9 (wrap64 (x10 + 1))))) else (none)) else (none)) else (some x5)
def spec_l8Near.f (k : Nat) (l0 : List (S86)) (a1 : Int) : Option (List Int) := spec_l8Near.l0 k a1 ([] : List Int) l0 (l0.length : Int) 0
theorem spec_l8Near.mono_l : ∀ k, (∀ y0 y1 y2 y3 y4, LeO (spec_l8Near.l0 k y0 y1 y2 y3 y4) (spec_l8Near.l0 (k + 1) y0 y1 y2 y3 y4))
 | 0 => fun _ _ _ _ _ r h => by simp [spec_l8Near.l0] at h
 | k + 1 => by
  have ih0 := spec_l8Near.mono_l k
  ·intro y0 y1 y2 y3 y4
   unfold spec_l8Near.l0
   repeat' first
   | (with_reducible exact ih0 _ _ _ _ _)
   | (with_reducible exact spec_l1Put.mono _ _ _)
   | with_reducible first | exact LeO.refl _ | exact LeO.none _ | refine LeO.ite ?_ ?_ | refine LeO.bind ?_ fun _ => ?_
theorem spec_l8Near.mono : ∀ a0 a1 k, LeO (spec_l8Near.f k a0 a1) (spec_l8Near.f (k + 1) a0 a1) := by
 intro a0 a1 k
 have ih0 := spec_l8Near.mono_l k
 unfold spec_l8Near.f
 repeat' first
   | (with_reducible exact ih0 _ _ _ _ _)
   | (with_reducible exact spec_l1Put.mono _ _ _)
   | with_reducible first | exact LeO.refl _ | exact LeO.none _ | refine LeO.ite ?_ ?_ | refine LeO.bind ?_ fun _ => ?_
set_option maxHeartbeats 8000000 in
set_option maxRecDepth 100000 in
theorem spec_l8Near.calls (k : Nat) (A0 : Option Addr) (c0 : Nat) (l0 : List (S86)) (a1 : Int) (r : List Int) (w : World) (hr0 : Kd.C k86 w A0 l0.length l0) (hc0 : l0.length ≤ c0) (h : spec_l8Near.f k l0 a1 = some r) :
  Calls Try.prog 110 #[.slice A0 l0.length c0, .int .i64 a1] w fun e w' => ∃ v0_ : Value, e = .returned (v0_) ∧ Kd.R (Kd.int .i64) 3 w' w.heap.size (fun _ => True) v0_ r ∧ Below w.heap.size w w' := by
 have hu86 := Try.underlying86
 have HR0 := Aside0.mk hr0
 have HC0 := Aside0.mk hc0
 clear hr0 hc0
 have HB := Aside0.mk (Below.refl w.heap.size w)
 have H : (spec_l8Near.l0 k a1 ([] : List Int) l0 (l0.length : Int) 0) = some r := h
 clear h
 have H' := Aside0.mk H
 clear H
 go_enter Try.func110, Try.ntmps110
 go_wp2
 go_loopg [5, 10] k (fun kq v5 v10 w' => ∃ (x5_1 : List Int) (x10_1 : Int), v10 = .int .i64 x10_1 ∧ Aside0 (spec_l8Near.l0 kq a1 x5_1 l0 (l0.length : Int) x10_1 = some r) ∧ Aside0 (kq ≤ k) ∧ Aside0 (Kd.R (Kd.int .i64) 3 w' w.heap.size (fun _ => True) v5 x5_1) ∧ Aside0 (Below w.heap.size w w'))
 case atStart => exact ⟨(([] : List Int)), (0), (by first | rfl | (simp; done) | (simp [*]; done)), H', ⟨Nat.le_refl _⟩, ⟨by first | exact Kd.R_nil _ _ _ _ _ | exact Kd.N_nil _ _ _ _ _ | exact Kd.V_nil _ _ _ _ _ | exact Kd.Q_nil _ _ _ _ _ | exact Kd.S_nil _ _ _ _ _⟩, ⟨hB HB⟩⟩
 case round =>
  clear H'
  obtain ⟨x5_1, x10_1, rfl, HA, HK1, HO_5, HB⟩ := hrel
  cases gk with
  | zero => exact absurd HA.out (by simp [spec_l8Near.l0])
  | succ k1 =>
   have H := HA.out
   clear HA
   simp only [spec_l8Near.l0] at H
   by_cases c3 : x10_1 < (l0.length : Int)
   rotate_left
   ·rw [if_neg c3] at H
    have c3b0 : decide (x10_1 < (l0.length : Int)) = false := decide_eq_false c3
    clear c3
    obtain rfl := Option.some.inj H
    go_wp2
    go_ret
    exact ⟨_, rt_, ra HO_5.out, hB HB⟩
   rw [if_pos c3] at H
   have c3b0 : decide (x10_1 < (l0.length : Int)) = true := decide_eq_true c3
   clear c3
   by_cases c4 : 0 ≤ x10_1
   rotate_left
   ·rw [if_neg c4] at H
    exact absurd H (by simp)
   rw [if_pos c4] at H
   have c4b0 : decide (0 ≤ x10_1) = true := decide_eq_true c4
   clear c4
   by_cases c5 : x10_1 < (l0.length : Int)
   rotate_left
   ·rw [if_neg c5] at H
    exact absurd H (by simp)
   rw [if_pos c5] at H
   have c5b0 : decide (x10_1 < (l0.length : Int)) = true := decide_eq_true c5
   clear c5
   by_cases c6 : ((rd_T86 l0 x10_1).f0) = a1
   rotate_left
   ·rw [if_neg c6] at H
    have c6b0 : (((rd_T86 l0 x10_1).f0) == a1) = false := beq_eq_false_iff_ne.mpr c6
    have c6b1 : (((rd_T86 l0 x10_1).f0) != a1) = true := bne_iff_ne.mpr c6
    by_cases c26 : ((rd_T86 l0 x10_1).f1) = a1
    rotate_left
    ·rw [if_neg c26] at H
     have c26b0 : (((rd_T86 l0 x10_1).f1) == a1) = false := beq_eq_false_iff_ne.mpr c26
     have c26b1 : (((rd_T86 l0 x10_1).f1) != a1) = true := bne_iff_ne.mpr c26
     have H' := Aside0.mk H
     clear H
     have p567 : 0 ≤ (x10_1 : Int) := od_
     have q567 : x10_1 < (l0.length : Int) := od_
     obtain ⟨ad567, e567, hx567_0, hx567_1, hx567_2⟩ := at_T86 HR0.out x10_1 p567 q567
     cases e567
     replace hx567_0 := hc_ HB hx567_0
     replace hx567_1 := hc_ HB hx567_1
     replace hx567_2 := hc_ HB hx567_2
     replace p567 := eq_true p567
     replace q567 := eq_true q567
     go_wp2_with (first | ((with_reducible refine gate_dst (N := 7) rfl ?_); refine box_event ?hg (N := 7) ?hd (cs := #[.int .i64 0, .int .i64 0, .int .i64 0]) (t := 86) ?hr ?_; (case hd => rfl); (case hg => rfl); (case hr => first | (go_simp; done) | (go_simp; rfl)); intro gb568 hg w34 hbox hb; have BK568 := Aside0.mk (hbox); have GW568 := gw_ hg HB; have GE568 := gw_ hg HB; replace HO_5 := rb_ HO_5 hb; replace HB := bst_ HB hb; clear hb hbox hg; obtain ⟨hcz35_0, hcz35_1, hcz35_2⟩ := bcs3_ BK568; have hfz35_0 := blk_frozen BK568.out 0; have hfz35_1 := blk_frozen BK568.out 1; have hfz35_2 := blk_frozen BK568.out 2))
     go_roundg k1
     case measure => have := HK1.out; omega
     case rel => exact ⟨(x5_1), (wrap64 (x10_1 + 1)), (by first | rfl | (simp; done) | (simp [*]; done)), H', ⟨by have := HK1.out; omega⟩, ⟨by (with_reducible repeat (first | apply Kd.R_alloc | apply Kd.R_drewN | apply Kd.R_drew)); exact Kd.R_mono (Kd.R_far (p := ⟨gb568, 2, none⟩) (Kd.R_far (p := ⟨gb568, 1, none⟩) (Kd.R_far (p := ⟨gb568, 0, none⟩) (Kd.R_types HO_5.out BK568.out (by decide)) (fun _ hk => hk.2) (.int .i64 ((rd_T86 l0 x10_1).f0))) (fun _ hk => hk.2) (.int .i64 ((rd_T86 l0 x10_1).f1))) (fun _ hk => hk.2) (.int .i64 ((rd_T86 l0 x10_1).f2))) (fun _ hk => trivial)⟩, ⟨hB HB⟩⟩
    rw [if_pos c26] at H
    have c26b0 : (((rd_T86 l0 x10_1).f1) == a1) = true := beq_iff_eq.mpr c26
    have c26b1 : (((rd_T86 l0 x10_1).f1) != a1) = false := bne_eq_false_iff_eq.mpr c26
    clear c26
    replace H := Option.bind_eq_some_iff.mp H
    obtain ⟨t575, A270, H⟩ := H
    replace H : (spec_l8Near.l0 k1 a1 t575 l0 (l0.length : Int) (wrap64 (x10_1 + 1))) = some r := H
    have A27 := Aside0.mk A270
    clear A270
    have H' := Aside0.mk H
    clear H
    have p567 : 0 ≤ (x10_1 : Int) := od_
    have q567 : x10_1 < (l0.length : Int) := od_
    obtain ⟨ad567, e567, hx567_0, hx567_1, hx567_2⟩ := at_T86 HR0.out x10_1 p567 q567
    cases e567
    replace hx567_0 := hc_ HB hx567_0
    replace hx567_1 := hc_ HB hx567_1
    replace hx567_2 := hc_ HB hx567_2
    replace p567 := eq_true p567
    replace q567 := eq_true q567
    go_wp2_with (first | ((with_reducible refine gate_dst (N := 7) rfl ?_); refine box_event ?hg (N := 7) ?hd (cs := #[.int .i64 0, .int .i64 0, .int .i64 0]) (t := 86) ?hr ?_; (case hd => rfl); (case hg => rfl); (case hr => first | (go_simp; done) | (go_simp; rfl)); intro gb568 hg w28 hbox hb; have BK568 := Aside0.mk (hbox); have GW568 := gw_ hg HB; have GE568 := gw_ hg HB; replace HO_5 := rb_ HO_5 hb; replace HB := bst_ HB hb; clear hb hbox hg; obtain ⟨hcz29_0, hcz29_1, hcz29_2⟩ := bcs3_ BK568; have hfz29_0 := blk_frozen BK568.out 0; have hfz29_1 := blk_frozen BK568.out 1; have hfz29_2 := blk_frozen BK568.out 2) | ((with_reducible refine gate_store (t := 86) (p := 7) rfl ?_); refine store_event (t := 86) (p := 7) (v := ?vo_w30) (w1 := (((w28.setCell ⟨gb568, 0, none⟩ (.int .i64 ((rd_T86 l0 x10_1).f0))).setCell ⟨gb568, 1, none⟩ (.int .i64 ((rd_T86 l0 x10_1).f1))).setCell ⟨gb568, 2, none⟩ (.int .i64 ((rd_T86 l0 x10_1).f2)))) ?hg ?ho ?hn ?hr ?_; (case ho => rfl); (case hg => rfl); (case hn => rfl); (case hr => first | (go_simp; done) | (go_simp; rfl)); intro w30 hw; have n0_ : Aside0 (Kd.R (Kd.int .i64) 3 w30 w.heap.size (fun _ => True) u5 x5_1) := ⟨(by rw [hw]; exact (ra (Kd.R_mono (Kd.R_far (p := ⟨gb568, 2, none⟩) (Kd.R_far (p := ⟨gb568, 1, none⟩) (Kd.R_far (p := ⟨gb568, 0, none⟩) (Kd.R_types HO_5.out BK568.out (by decide)) (fun _ hk => hk.2) (.int .i64 ((rd_T86 l0 x10_1).f0))) (fun _ hk => hk.2) (.int .i64 ((rd_T86 l0 x10_1).f1))) (fun _ hk => hk.2) (.int .i64 ((rd_T86 l0 x10_1).f2))) (fun _ hk => trivial))))⟩; have n1_ : Aside0 (w30.heap[gb568]? = some (.cells #[.int .i64 ((rd_T86 l0 x10_1).f0), .int .i64 ((rd_T86 l0 x10_1).f1), .int .i64 ((rd_T86 l0 x10_1).f2)] 86 (0, 0))) := ⟨(by rw [hw]; exact (by (with_reducible repeat (first | refine blk_drewN ?_ _ | refine blk_drew ?_ | refine blk_alloc ?_ _)); refine blk_put (cs := #[.int .i64 ((rd_T86 l0 x10_1).f0), .int .i64 ((rd_T86 l0 x10_1).f1), .int .i64 0]) ?_ 2 _ rfl; (with_reducible repeat (first | refine blk_drewN ?_ _ | refine blk_drew ?_ | refine blk_alloc ?_ _)); refine blk_put (cs := #[.int .i64 ((rd_T86 l0 x10_1).f0), .int .i64 0, .int .i64 0]) ?_ 1 _ rfl; (with_reducible repeat (first | refine blk_drewN ?_ _ | refine blk_drew ?_ | refine blk_alloc ?_ _)); refine blk_put (cs := #[.int .i64 0, .int .i64 0, .int .i64 0]) ?_ 0 _ rfl; (with_reducible repeat (first | refine blk_drewN ?_ _ | refine blk_drew ?_ | refine blk_alloc ?_ _)); exact BK568.out))⟩; have n2_ : Aside0 (Below w.heap.size w w30) := ⟨(by rw [hw]; exact (hB HB))⟩; clear hw; clear HO_5; clear BK568; clear HB; have HO_5 := n0_; have BK568 := n1_; have HB := n2_; clear n0_ n1_ n2_; obtain ⟨hcz31_0, hcz31_1, hcz31_2⟩ := bcs3_ BK568; have hfz31_0 := blk_frozen BK568.out 0; have hfz31_1 := blk_frozen BK568.out 1; have hfz31_2 := blk_frozen BK568.out 2; obtain ⟨Ao32, co32, eo32⟩ := Kd.R_slice HO_5.out; subst eo32) | (refine goesL_ (some 29) rfl rfl Try.func120 (by kernel_rfl) rfl #[.slice Ao32 x5_1.length co32, .int .i64 ((rd_T86 l0 x10_1).f0)] rfl tm_ ?_; (with_reducible refine (spec_l1Put.calls k1 (fun k_ => some k_ = (.slice Ao32 x5_1.length co32 : Value).ownBlock) (.slice Ao32 x5_1.length co32) x5_1 ((rd_T86 l0 x10_1).f0) t575 w _ ?side1 ?side2 A27.out).mono ?_); (case side1 => exact hB HB); (case side2 => exact Kd.R_tight rfl HO_5.out); rintro e w33 ⟨v576, rfl, ho0, hb, hkp⟩; refine ⟨_, rfl, ?_⟩; have HO577 := Aside0.mk (Kd.R_mono (ok' := fun k_ => True) ho0 (fun k_ hk_ => trivial)); replace BK568 := Aside0.mk (blk_kept (ba BK568.out) hkp (fun hs_ => (fun e_ => (Kd.R_ne HO_5.out BK568.out (by decide)) e_) hs_)); replace HB := Aside0.mk (hb); clear HO_5; clear hb ho0))
    go_roundg k1
    case measure => have := HK1.out; omega
    case rel => exact ⟨(t575), (wrap64 (x10_1 + 1)), (by first | rfl | (simp; done) | (simp [*]; done)), H', ⟨by have := HK1.out; omega⟩, ⟨ra HO577.out⟩, ⟨hB HB⟩⟩
   rw [if_pos c6] at H
   have c6b0 : (((rd_T86 l0 x10_1).f0) == a1) = true := beq_iff_eq.mpr c6
   have c6b1 : (((rd_T86 l0 x10_1).f0) != a1) = false := bne_eq_false_iff_eq.mpr c6
   clear c6
   replace H := Option.bind_eq_some_iff.mp H
   obtain ⟨t569, A70, H⟩ := H
   replace H : (if ((rd_T86 l0 x10_1).f1) = a1 then ((spec_l1Put.f k1 t569 ((rd_T86 l0 x10_1).f0)).bind fun t572 => (spec_l8Near.l0 k1 a1 t572 l0 (l0.length : Int) (wrap64 (x10_1 + 1)))) else (spec_l8Near.l0 k1 a1 t569 l0 (l0.length : Int) (wrap64 (x10_1 + 1)))) = some r := H
   have A7 := Aside0.mk A70
   clear A70
   by_cases c8 : ((rd_T86 l0 x10_1).f1) = a1
   rotate_left
   ·rw [if_neg c8] at H
    have c8b0 : (((rd_T86 l0 x10_1).f1) == a1) = false := beq_eq_false_iff_ne.mpr c8
    have c8b1 : (((rd_T86 l0 x10_1).f1) != a1) = true := bne_iff_ne.mpr c8
    have H' := Aside0.mk H
    clear H
    have p567 : 0 ≤ (x10_1 : Int) := od_
    have q567 : x10_1 < (l0.length : Int) := od_
    obtain ⟨ad567, e567, hx567_0, hx567_1, hx567_2⟩ := at_T86 HR0.out x10_1 p567 q567
    cases e567
    replace hx567_0 := hc_ HB hx567_0
    replace hx567_1 := hc_ HB hx567_1
    replace hx567_2 := hc_ HB hx567_2
    replace p567 := eq_true p567
    replace q567 := eq_true q567
    go_wp2_with (first | ((with_reducible refine gate_dst (N := 7) rfl ?_); refine box_event ?hg (N := 7) ?hd (cs := #[.int .i64 0, .int .i64 0, .int .i64 0]) (t := 86) ?hr ?_; (case hd => rfl); (case hg => rfl); (case hr => first | (go_simp; done) | (go_simp; rfl)); intro gb568 hg w19 hbox hb; have BK568 := Aside0.mk (hbox); have GW568 := gw_ hg HB; have GE568 := gw_ hg HB; replace HO_5 := rb_ HO_5 hb; replace HB := bst_ HB hb; clear hb hbox hg; obtain ⟨hcz20_0, hcz20_1, hcz20_2⟩ := bcs3_ BK568; have hfz20_0 := blk_frozen BK568.out 0; have hfz20_1 := blk_frozen BK568.out 1; have hfz20_2 := blk_frozen BK568.out 2) | ((with_reducible refine gate_store (t := 86) (p := 7) rfl ?_); refine store_event (t := 86) (p := 7) (v := ?vo_w21) (w1 := (((w19.setCell ⟨gb568, 0, none⟩ (.int .i64 ((rd_T86 l0 x10_1).f0))).setCell ⟨gb568, 1, none⟩ (.int .i64 ((rd_T86 l0 x10_1).f1))).setCell ⟨gb568, 2, none⟩ (.int .i64 ((rd_T86 l0 x10_1).f2)))) ?hg ?ho ?hn ?hr ?_; (case ho => rfl); (case hg => rfl); (case hn => rfl); (case hr => first | (go_simp; done) | (go_simp; rfl)); intro w21 hw; have n0_ : Aside0 (Kd.R (Kd.int .i64) 3 w21 w.heap.size (fun _ => True) u5 x5_1) := ⟨(by rw [hw]; exact (ra (Kd.R_mono (Kd.R_far (p := ⟨gb568, 2, none⟩) (Kd.R_far (p := ⟨gb568, 1, none⟩) (Kd.R_far (p := ⟨gb568, 0, none⟩) (Kd.R_types HO_5.out BK568.out (by decide)) (fun _ hk => hk.2) (.int .i64 ((rd_T86 l0 x10_1).f0))) (fun _ hk => hk.2) (.int .i64 ((rd_T86 l0 x10_1).f1))) (fun _ hk => hk.2) (.int .i64 ((rd_T86 l0 x10_1).f2))) (fun _ hk => trivial))))⟩; have n1_ : Aside0 (w21.heap[gb568]? = some (.cells #[.int .i64 ((rd_T86 l0 x10_1).f0), .int .i64 ((rd_T86 l0 x10_1).f1), .int .i64 ((rd_T86 l0 x10_1).f2)] 86 (0, 0))) := ⟨(by rw [hw]; exact (by (with_reducible repeat (first | refine blk_drewN ?_ _ | refine blk_drew ?_ | refine blk_alloc ?_ _)); refine blk_put (cs := #[.int .i64 ((rd_T86 l0 x10_1).f0), .int .i64 ((rd_T86 l0 x10_1).f1), .int .i64 0]) ?_ 2 _ rfl; (with_reducible repeat (first | refine blk_drewN ?_ _ | refine blk_drew ?_ | refine blk_alloc ?_ _)); refine blk_put (cs := #[.int .i64 ((rd_T86 l0 x10_1).f0), .int .i64 0, .int .i64 0]) ?_ 1 _ rfl; (with_reducible repeat (first | refine blk_drewN ?_ _ | refine blk_drew ?_ | refine blk_alloc ?_ _)); refine blk_put (cs := #[.int .i64 0, .int .i64 0, .int .i64 0]) ?_ 0 _ rfl; (with_reducible repeat (first | refine blk_drewN ?_ _ | refine blk_drew ?_ | refine blk_alloc ?_ _)); exact BK568.out))⟩; have n2_ : Aside0 (Below w.heap.size w w21) := ⟨(by rw [hw]; exact (hB HB))⟩; clear hw; clear HO_5; clear BK568; clear HB; have HO_5 := n0_; have BK568 := n1_; have HB := n2_; clear n0_ n1_ n2_; obtain ⟨hcz22_0, hcz22_1, hcz22_2⟩ := bcs3_ BK568; have hfz22_0 := blk_frozen BK568.out 0; have hfz22_1 := blk_frozen BK568.out 1; have hfz22_2 := blk_frozen BK568.out 2; obtain ⟨Ao23, co23, eo23⟩ := Kd.R_slice HO_5.out; subst eo23) | (refine goesL_ (some 21) rfl rfl Try.func120 (by kernel_rfl) rfl #[.slice Ao23 x5_1.length co23, .int .i64 ((rd_T86 l0 x10_1).f1)] rfl tm_ ?_; (with_reducible refine (spec_l1Put.calls k1 (fun k_ => some k_ = (.slice Ao23 x5_1.length co23 : Value).ownBlock) (.slice Ao23 x5_1.length co23) x5_1 ((rd_T86 l0 x10_1).f1) t569 w _ ?side1 ?side2 A7.out).mono ?_); (case side1 => exact hB HB); (case side2 => exact Kd.R_tight rfl HO_5.out); rintro e w24 ⟨v570, rfl, ho0, hb, hkp⟩; refine ⟨_, rfl, ?_⟩; have HO571 := Aside0.mk (Kd.R_mono (ok' := fun k_ => True) ho0 (fun k_ hk_ => trivial)); replace BK568 := Aside0.mk (blk_kept (ba BK568.out) hkp (fun hs_ => (fun e_ => (Kd.R_ne HO_5.out BK568.out (by decide)) e_) hs_)); replace HB := Aside0.mk (hb); clear HO_5; clear hb ho0; obtain ⟨hcz25_0, hcz25_1, hcz25_2⟩ := bcs3_ BK568; have hfz25_0 := blk_frozen BK568.out 0; have hfz25_1 := blk_frozen BK568.out 1; have hfz25_2 := blk_frozen BK568.out 2))
    go_roundg k1
    case measure => have := HK1.out; omega
    case rel => exact ⟨(t569), (wrap64 (x10_1 + 1)), (by first | rfl | (simp; done) | (simp [*]; done)), H', ⟨by have := HK1.out; omega⟩, ⟨ra HO571.out⟩, ⟨hB HB⟩⟩
   rw [if_pos c8] at H
   have c8b0 : (((rd_T86 l0 x10_1).f1) == a1) = true := beq_iff_eq.mpr c8
   have c8b1 : (((rd_T86 l0 x10_1).f1) != a1) = false := bne_eq_false_iff_eq.mpr c8
   clear c8
   replace H := Option.bind_eq_some_iff.mp H
   obtain ⟨t572, A90, H⟩ := H
   replace H : (spec_l8Near.l0 k1 a1 t572 l0 (l0.length : Int) (wrap64 (x10_1 + 1))) = some r := H
   have A9 := Aside0.mk A90
   clear A90
   have H' := Aside0.mk H
   clear H
   have p567 : 0 ≤ (x10_1 : Int) := od_
   have q567 : x10_1 < (l0.length : Int) := od_
   obtain ⟨ad567, e567, hx567_0, hx567_1, hx567_2⟩ := at_T86 HR0.out x10_1 p567 q567
   cases e567
   replace hx567_0 := hc_ HB hx567_0
   replace hx567_1 := hc_ HB hx567_1
   replace hx567_2 := hc_ HB hx567_2
   replace p567 := eq_true p567
   replace q567 := eq_true q567
   go_wp2_with (first | ((with_reducible refine gate_dst (N := 7) rfl ?_); refine box_event ?hg (N := 7) ?hd (cs := #[.int .i64 0, .int .i64 0, .int .i64 0]) (t := 86) ?hr ?_; (case hd => rfl); (case hg => rfl); (case hr => first | (go_simp; done) | (go_simp; rfl)); intro gb568 hg w10 hbox hb; have BK568 := Aside0.mk (hbox); have GW568 := gw_ hg HB; have GE568 := gw_ hg HB; replace HO_5 := rb_ HO_5 hb; replace HB := bst_ HB hb; clear hb hbox hg; obtain ⟨hcz11_0, hcz11_1, hcz11_2⟩ := bcs3_ BK568; have hfz11_0 := blk_frozen BK568.out 0; have hfz11_1 := blk_frozen BK568.out 1; have hfz11_2 := blk_frozen BK568.out 2) | ((with_reducible refine gate_store (t := 86) (p := 7) rfl ?_); refine store_event (t := 86) (p := 7) (v := ?vo_w12) (w1 := (((w10.setCell ⟨gb568, 0, none⟩ (.int .i64 ((rd_T86 l0 x10_1).f0))).setCell ⟨gb568, 1, none⟩ (.int .i64 ((rd_T86 l0 x10_1).f1))).setCell ⟨gb568, 2, none⟩ (.int .i64 ((rd_T86 l0 x10_1).f2)))) ?hg ?ho ?hn ?hr ?_; (case ho => rfl); (case hg => rfl); (case hn => rfl); (case hr => first | (go_simp; done) | (go_simp; rfl)); intro w12 hw; have n0_ : Aside0 (Kd.R (Kd.int .i64) 3 w12 w.heap.size (fun _ => True) u5 x5_1) := ⟨(by rw [hw]; exact (ra (Kd.R_mono (Kd.R_far (p := ⟨gb568, 2, none⟩) (Kd.R_far (p := ⟨gb568, 1, none⟩) (Kd.R_far (p := ⟨gb568, 0, none⟩) (Kd.R_types HO_5.out BK568.out (by decide)) (fun _ hk => hk.2) (.int .i64 ((rd_T86 l0 x10_1).f0))) (fun _ hk => hk.2) (.int .i64 ((rd_T86 l0 x10_1).f1))) (fun _ hk => hk.2) (.int .i64 ((rd_T86 l0 x10_1).f2))) (fun _ hk => trivial))))⟩; have n1_ : Aside0 (w12.heap[gb568]? = some (.cells #[.int .i64 ((rd_T86 l0 x10_1).f0), .int .i64 ((rd_T86 l0 x10_1).f1), .int .i64 ((rd_T86 l0 x10_1).f2)] 86 (0, 0))) := ⟨(by rw [hw]; exact (by (with_reducible repeat (first | refine blk_drewN ?_ _ | refine blk_drew ?_ | refine blk_alloc ?_ _)); refine blk_put (cs := #[.int .i64 ((rd_T86 l0 x10_1).f0), .int .i64 ((rd_T86 l0 x10_1).f1), .int .i64 0]) ?_ 2 _ rfl; (with_reducible repeat (first | refine blk_drewN ?_ _ | refine blk_drew ?_ | refine blk_alloc ?_ _)); refine blk_put (cs := #[.int .i64 ((rd_T86 l0 x10_1).f0), .int .i64 0, .int .i64 0]) ?_ 1 _ rfl; (with_reducible repeat (first | refine blk_drewN ?_ _ | refine blk_drew ?_ | refine blk_alloc ?_ _)); refine blk_put (cs := #[.int .i64 0, .int .i64 0, .int .i64 0]) ?_ 0 _ rfl; (with_reducible repeat (first | refine blk_drewN ?_ _ | refine blk_drew ?_ | refine blk_alloc ?_ _)); exact BK568.out))⟩; have n2_ : Aside0 (Below w.heap.size w w12) := ⟨(by rw [hw]; exact (hB HB))⟩; clear hw; clear HO_5; clear BK568; clear HB; have HO_5 := n0_; have BK568 := n1_; have HB := n2_; clear n0_ n1_ n2_; obtain ⟨hcz13_0, hcz13_1, hcz13_2⟩ := bcs3_ BK568; have hfz13_0 := blk_frozen BK568.out 0; have hfz13_1 := blk_frozen BK568.out 1; have hfz13_2 := blk_frozen BK568.out 2; obtain ⟨Ao14, co14, eo14⟩ := Kd.R_slice HO_5.out; subst eo14) | (refine goesL_ (some 21) rfl rfl Try.func120 (by kernel_rfl) rfl #[.slice Ao14 x5_1.length co14, .int .i64 ((rd_T86 l0 x10_1).f1)] rfl tm_ ?_; (with_reducible refine (spec_l1Put.calls k1 (fun k_ => some k_ = (.slice Ao14 x5_1.length co14 : Value).ownBlock) (.slice Ao14 x5_1.length co14) x5_1 ((rd_T86 l0 x10_1).f1) t569 w _ ?side1 ?side2 A7.out).mono ?_); (case side1 => exact hB HB); (case side2 => exact Kd.R_tight rfl HO_5.out); rintro e w15 ⟨v570, rfl, ho0, hb, hkp⟩; refine ⟨_, rfl, ?_⟩; have HO571 := Aside0.mk (Kd.R_mono (ok' := fun k_ => True) ho0 (fun k_ hk_ => trivial)); replace BK568 := Aside0.mk (blk_kept (ba BK568.out) hkp (fun hs_ => (fun e_ => (Kd.R_ne HO_5.out BK568.out (by decide)) e_) hs_)); replace HB := Aside0.mk (hb); clear HO_5; clear hb ho0; obtain ⟨hcz16_0, hcz16_1, hcz16_2⟩ := bcs3_ BK568; have hfz16_0 := blk_frozen BK568.out 0; have hfz16_1 := blk_frozen BK568.out 1; have hfz16_2 := blk_frozen BK568.out 2; obtain ⟨Ao17, co17, eo17⟩ := Kd.R_slice HO571.out; subst eo17) | (refine goesL_ (some 29) rfl rfl Try.func120 (by kernel_rfl) rfl #[.slice Ao17 t569.length co17, .int .i64 ((rd_T86 l0 x10_1).f0)] rfl tm_ ?_; (with_reducible refine (spec_l1Put.calls k1 (fun k_ => some k_ = (.slice Ao17 t569.length co17 : Value).ownBlock) (.slice Ao17 t569.length co17) t569 ((rd_T86 l0 x10_1).f0) t572 w _ ?side1 ?side2 A9.out).mono ?_); (case side1 => exact hB HB); (case side2 => exact Kd.R_tight rfl HO571.out); rintro e w18 ⟨v573, rfl, ho0, hb, hkp⟩; refine ⟨_, rfl, ?_⟩; have HO574 := Aside0.mk (Kd.R_mono (ok' := fun k_ => True) ho0 (fun k_ hk_ => trivial)); replace BK568 := Aside0.mk (blk_kept (ba BK568.out) hkp (fun hs_ => (fun e_ => (Kd.R_ne HO571.out BK568.out (by decide)) e_) hs_)); replace HB := Aside0.mk (hb); clear HO571; clear hb ho0))
   go_roundg k1
   case measure => have := HK1.out; omega
   case rel => exact ⟨(t572), (wrap64 (x10_1 + 1)), (by first | rfl | (simp; done) | (simp [*]; done)), H', ⟨by have := HK1.out; omega⟩, ⟨ra HO574.out⟩, ⟨hB HB⟩⟩

end Go.Proofs.Ytpohlcjkabojcaa.P
