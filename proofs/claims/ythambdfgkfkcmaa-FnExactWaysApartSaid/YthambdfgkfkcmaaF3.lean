import Derived.Test.YthambdfgkfkcmaaF0
import Derived.Test.YthambdfgkfkcmaaF2
namespace Go.Proofs.Ythambdfgkfkcmaa.P
open Go.RowKit Go.Proofs.YthambdfgkfkcmaaW.PrintWords Go.Proofs.YthambdfgkfkcmaaW.PrintLast Go.Proofs.YthambdfgkfkcmaaW.PrintMore
attribute [local go_sem] max2_int min2_int max_two min_two max_three min_three max_four min_four   -- for this text's walks alone
set_option linter.unusedVariables false
set_option linter.unusedSimpArgs false

mutual
def spec_l15Flow.l0 : Nat → Int → List (S47) → Int → Int → List Int → Option (List Int)
 | 0, _, _, _, _, _ => none
 | k + 1, x0, x1, x2, x3, x9 => (spec_l15Reach.f k x0 x1 x9 x2).bind fun t197 => (if 0 ≤ x3 then (if x3 < (t197.length : Int) then (if (rd t197 x3) = (-1) then (some x9) else (spec_l15Flow.l1 k x0 x1 x2 x3 x9 t197 x3)) else (none)) else (none))
def spec_l15Flow.l1 : Nat → Int → List (S47) → Int → Int → List Int → List Int → Int → Option (List Int)
 | 0, _, _, _, _, _, _, _ => none
 | k + 1, x0, x1, x2, x3, x9, x10, x11 => if x11 = x2 then (spec_l15Flow.l0 k x0 x1 x2 x3 x9) else (if 0 ≤ x11 then (if x11 < (x10.length : Int) then ((spec_l15Number.f k x1 (rd x10 x11) x11).bind fun t202 => (if 0 ≤ t202 then (if t202 < (x1.length : Int) then (if ((rd_T47 x1 t202).f0) = (rd x10 x11) then (if t202 < (x9.length : Int) then (spec_l15Flow.l1 k x0 x1 x2 x3 (x9.set (t202 : Int).toNat (wrap64 ((rd x9 t202) + 1))) x10 (rd x10 x11)) else (none)) else (if t202 < (x9.length : Int) then (spec_l15Flow.l1 k x0 x1 x2 x3 (x9.set (t202 : Int).toNat (wrap64 ((rd x9 t202) - 1))) x10 (rd x10 x11)) else (none))) else (none)) else (none))) else (none)) else (none))
end
def spec_l15Flow.f (k : Nat) (a0 : Int) (l1 : List (S47)) (a2 : Int) (a3 : Int) : Option (List Int) := if 0 ≤ (l1.length : Int) then (if ((l1.length : Int) : Int).toNat ≤ 35184372088832 then (spec_l15Flow.l0 k a0 l1 a2 a3 (List.replicate ((l1.length : Int) : Int).toNat 0)) else (none)) else (none)
theorem spec_l15Flow.mono_l : ∀ k, (∀ y0 y1 y2 y3 y4, LeO (spec_l15Flow.l0 k y0 y1 y2 y3 y4) (spec_l15Flow.l0 (k + 1) y0 y1 y2 y3 y4)) ∧ (∀ y0 y1 y2 y3 y4 y5 y6, LeO (spec_l15Flow.l1 k y0 y1 y2 y3 y4 y5 y6) (spec_l15Flow.l1 (k + 1) y0 y1 y2 y3 y4 y5 y6))
 | 0 => ⟨fun _ _ _ _ _ r h => by simp [spec_l15Flow.l0] at h, fun _ _ _ _ _ _ _ r h => by simp [spec_l15Flow.l1] at h⟩
 | k + 1 => by
  obtain ⟨ih0, ih1⟩ := spec_l15Flow.mono_l k
  refine ⟨?_, ?_⟩
  ·intro y0 y1 y2 y3 y4
   unfold spec_l15Flow.l0
   repeat' first
   | (with_reducible exact ih0 _ _ _ _ _)
   | (with_reducible exact ih1 _ _ _ _ _ _ _)
   | (with_reducible exact spec_l15Number.mono _ _ _ _)
   | (with_reducible exact spec_l15Reach.mono _ _ _ _ _)
   | with_reducible first | exact LeO.refl _ | exact LeO.none _ | refine LeO.ite ?_ ?_ | refine LeO.bind ?_ fun _ => ?_
  ·intro y0 y1 y2 y3 y4 y5 y6
   unfold spec_l15Flow.l1
   repeat' first
   | (with_reducible exact ih0 _ _ _ _ _)
   | (with_reducible exact ih1 _ _ _ _ _ _ _)
   | (with_reducible exact spec_l15Number.mono _ _ _ _)
   | (with_reducible exact spec_l15Reach.mono _ _ _ _ _)
   | with_reducible first | exact LeO.refl _ | exact LeO.none _ | refine LeO.ite ?_ ?_ | refine LeO.bind ?_ fun _ => ?_
theorem spec_l15Flow.mono : ∀ a0 a1 a2 a3 k, LeO (spec_l15Flow.f k a0 a1 a2 a3) (spec_l15Flow.f (k + 1) a0 a1 a2 a3) := by
 intro a0 a1 a2 a3 k
 obtain ⟨ih0, ih1⟩ := spec_l15Flow.mono_l k
 unfold spec_l15Flow.f
 repeat' first
   | (with_reducible exact ih0 _ _ _ _ _)
   | (with_reducible exact ih1 _ _ _ _ _ _ _)
   | (with_reducible exact spec_l15Number.mono _ _ _ _)
   | (with_reducible exact spec_l15Reach.mono _ _ _ _ _)
   | with_reducible first | exact LeO.refl _ | exact LeO.none _ | refine LeO.ite ?_ ?_ | refine LeO.bind ?_ fun _ => ?_
set_option maxHeartbeats 8000000 in
set_option maxRecDepth 100000 in
theorem spec_l15Flow.calls (k : Nat) (a0 : Int) (A1 : Option Addr) (c1 : Nat) (l1 : List (S47)) (a2 : Int) (a3 : Int) (r : List Int) (w : World) (hr1 : Kd.C k47 w A1 l1.length l1) (hc1 : l1.length ≤ c1) (h : spec_l15Flow.f k a0 l1 a2 a3 = some r) :
  Calls Try.prog 59 #[.int .i64 a0, .slice A1 l1.length c1, .int .i64 a2, .int .i64 a3] w fun e w' => ∃ v0_ : Value, e = .returned (v0_) ∧ Kd.R (Kd.int .i64) 3 w' w.heap.size (fun _ => True) v0_ r ∧ Below w.heap.size w w' := by
 have HR1 := Aside0.mk hr1
 have HC1 := Aside0.mk hc1
 clear hr1 hc1
 have HB := Aside0.mk (Below.refl w.heap.size w)
 have H : (if 0 ≤ (l1.length : Int) then (if ((l1.length : Int) : Int).toNat ≤ 35184372088832 then (spec_l15Flow.l0 k a0 l1 a2 a3 (List.replicate ((l1.length : Int) : Int).toNat 0)) else (none)) else (none)) = some r := h
 clear h
 by_cases c5 : 0 ≤ (l1.length : Int)
 rotate_left
 ·rw [if_neg c5] at H
  exact absurd H (by simp)
 rw [if_pos c5] at H
 have c5b0 := eq_true c5
 have c5b1 : decide (0 ≤ (l1.length : Int)) = true := decide_eq_true c5
 clear c5
 by_cases c6 : ((l1.length : Int) : Int).toNat ≤ 35184372088832
 rotate_left
 ·rw [if_neg c6] at H
  exact absurd H (by simp)
 rw [if_pos c6] at H
 have c6b0 := eq_true c6
 have c6b1 : decide (((l1.length : Int) : Int).toNat ≤ 35184372088832) = true := decide_eq_true c6
 clear c6
 obtain ⟨y194, hy194⟩ : ∃ y_ : List Int, y_ = (List.replicate ((l1.length : Int) : Int).toNat 0) := ⟨_, rfl⟩
 replace H : (spec_l15Flow.l0 k a0 l1 a2 a3 y194) = some r := by first | (rw [hy194]; with_reducible exact H) | (have H2_ := (Option.bind_some _ _).symm.trans H; rw [hy194]; with_reducible exact H2_) | (have H2_ := (Option.bind_some _ _).symm.trans H; with_reducible exact H2_) | with_reducible exact H | (rw [hy194]; exact H) | exact H
 have Ny194 := Aside0.mk hy194
 clear hy194
 have H' := Aside0.mk H
 clear H
 go_enter Try.func59, Try.ntmps59
 go_wp2_with (first | ((with_reducible refine gate_dst (N := 15) rfl ?_); refine Kd.R_make (Kd.int .i64) _ 3 rfl (N := 15) rfl 24 _ _ rfl (l1.length : Int) rfl rfl Try.underlying24 (.int .i64 0) 8 info3 rfl (by decide) (by omega) 0 (ok := fun _ => True) (okp := fun _ => True) rfl (fun _ hk => hk) trivial (od_) (Nat.le_trans (Nat.mul_le_mul_right _ (od_ : (l1.length : Int).toNat ≤ 35184372088832)) (by omega)) (Below.refl _ _) (Nat.le_refl _) ?_; intro v195 w7 ho8 hb hg_ hnew_; clear hg_ hnew_; (first | rw [← Ny194.out] at ho8 | (simp only [Int.reduceToNat] at ho8; rw [← Ny194.out] at ho8)); have HO196 := Aside0.mk (Kd.R_lower ho8 (below_size (hB HB))); replace HB := bst_ HB hb; clear hb ho8))
 repeat (go_quiet (first | ((with_reducible refine gate_dst (N := 15) rfl ?_); refine Kd.R_make (Kd.int .i64) _ 3 rfl (N := 15) rfl 24 _ _ rfl (l1.length : Int) rfl rfl Try.underlying24 (.int .i64 0) 8 info3 rfl (by decide) (by omega) 0 (ok := fun _ => True) (okp := fun _ => True) rfl (fun _ hk => hk) trivial (od_) (Nat.le_trans (Nat.mul_le_mul_right _ (od_ : (l1.length : Int).toNat ≤ 35184372088832)) (by omega)) (Below.refl _ _) (Nat.le_refl _) ?_; intro v195 w7 ho8 hb hg_ hnew_; clear hg_ hnew_; (first | rw [← Ny194.out] at ho8 | (simp only [Int.reduceToNat] at ho8; rw [← Ny194.out] at ho8)); have HO196 := Aside0.mk (Kd.R_lower ho8 (below_size (hB HB))); replace HB := bst_ HB hb; clear hb ho8)); try go_wp2_with (first | ((with_reducible refine gate_dst (N := 15) rfl ?_); refine Kd.R_make (Kd.int .i64) _ 3 rfl (N := 15) rfl 24 _ _ rfl (l1.length : Int) rfl rfl Try.underlying24 (.int .i64 0) 8 info3 rfl (by decide) (by omega) 0 (ok := fun _ => True) (okp := fun _ => True) rfl (fun _ hk => hk) trivial (od_) (Nat.le_trans (Nat.mul_le_mul_right _ (od_ : (l1.length : Int).toNat ≤ 35184372088832)) (by omega)) (Below.refl _ _) (Nat.le_refl _) ?_; intro v195 w7 ho8 hb hg_ hnew_; clear hg_ hnew_; (first | rw [← Ny194.out] at ho8 | (simp only [Int.reduceToNat] at ho8; rw [← Ny194.out] at ho8)); have HO196 := Aside0.mk (Kd.R_lower ho8 (below_size (hB HB))); replace HB := bst_ HB hb; clear hb ho8)))
 go_loopg [] k (fun kq w' => ∃ (x9_1 : List Int), Aside0 (spec_l15Flow.l0 kq a0 l1 a2 a3 x9_1 = some r) ∧ Aside0 (kq ≤ k) ∧ Aside0 (Kd.R (Kd.int .i64) 3 w' w.heap.size (fun _ => True) v195 x9_1) ∧ Aside0 (Below w.heap.size w w'))
 case atStart => exact ⟨(y194), H', ⟨Nat.le_refl _⟩, ⟨ra HO196.out⟩, ⟨hB HB⟩⟩
 case round =>
  clear H'
  try clear c1
  try clear c5
  try clear c5b0
  try clear c5b1
  try clear c6
  try clear c6b0
  try clear c6b1
  obtain ⟨x9_1, HA, HK1, HO_9, HB⟩ := hrel
  cases gk with
  | zero => exact absurd HA.out (by simp [spec_l15Flow.l0])
  | succ k1 =>
   have H := HA.out
   clear HA
   simp only [spec_l15Flow.l0] at H
   replace H := Option.bind_eq_some_iff.mp H
   obtain ⟨t197, A90, H⟩ := H
   replace H : (if 0 ≤ a3 then (if a3 < (t197.length : Int) then (if (rd t197 a3) = (-1) then (some x9_1) else (spec_l15Flow.l1 k1 a0 l1 a2 a3 x9_1 t197 a3)) else (none)) else (none)) = some r := H
   have A9 := Aside0.mk A90
   clear A90
   by_cases c10 : 0 ≤ a3
   rotate_left
   ·rw [if_neg c10] at H
    exact absurd H (by simp)
   rw [if_pos c10] at H
   have c10b0 : decide (0 ≤ a3) = true := decide_eq_true c10
   clear c10
   by_cases c11 : a3 < (t197.length : Int)
   rotate_left
   ·rw [if_neg c11] at H
    exact absurd H (by simp)
   rw [if_pos c11] at H
   have c11b0 : decide (a3 < (t197.length : Int)) = true := decide_eq_true c11
   clear c11
   by_cases c12 : (rd t197 a3) = (-1)
   ·rw [if_pos c12] at H
    have c12b0 : ((rd t197 a3) == (-1)) = true := beq_iff_eq.mpr c12
    have c12b1 : ((rd t197 a3) != (-1)) = false := bne_eq_false_iff_eq.mpr c12
    clear c12
    obtain rfl := Option.some.inj H
    obtain ⟨Ao13, co13, eo13⟩ := Kd.R_slice HO_9.out
    subst eo13
    go_wp2_with (first | (go_at_call 58; (with_reducible refine (spec_l15Reach.calls k1 a0 _ _ l1 _ _ x9_1 a2 t197 _ ?side1 ?side2 ?side3 ?side4 A9.out).mono ?_); (case side1 => exact cb_ HR1 HB); (case side2 => exact HC1.out); (case side3 => exact ca (Kd.R_reads' HO_9.out).2.2); (case side4 => exact (Kd.R_reads' HO_9.out).2.1); rintro e w14 ⟨v198, rfl, ho0, hb⟩; have HO199 := Aside0.mk (Kd.R_lower (Kd.R_new' ho0 (rl_ HO_9)) (below_size (hB HB))); replace HO_9 := re_ HO_9 ho0 hb; replace HB := bst_ HB hb; clear hb ho0; obtain ⟨Ao15, co15, eo15⟩ := Kd.R_slice HO199.out; subst eo15; have p200 : 0 ≤ (a3 : Int) := od_; have q200 : a3 < (t197.length : Int) := od_; obtain ⟨ad200, e200, hx200_0⟩ := Kd.at_int (Kd.R_reads' HO199.out).2.2 a3 p200 q200; cases e200; replace p200 := eq_true p200; replace q200 := eq_true q200))
    repeat (go_quiet (first | (go_at_call 58; (with_reducible refine (spec_l15Reach.calls k1 a0 _ _ l1 _ _ x9_1 a2 t197 _ ?side1 ?side2 ?side3 ?side4 A9.out).mono ?_); (case side1 => exact cb_ HR1 HB); (case side2 => exact HC1.out); (case side3 => exact ca (Kd.R_reads' HO_9.out).2.2); (case side4 => exact (Kd.R_reads' HO_9.out).2.1); rintro e w14 ⟨v198, rfl, ho0, hb⟩; have HO199 := Aside0.mk (Kd.R_lower (Kd.R_new' ho0 (rl_ HO_9)) (below_size (hB HB))); replace HO_9 := re_ HO_9 ho0 hb; replace HB := bst_ HB hb; clear hb ho0; obtain ⟨Ao15, co15, eo15⟩ := Kd.R_slice HO199.out; subst eo15; have p200 : 0 ≤ (a3 : Int) := od_; have q200 : a3 < (t197.length : Int) := od_; obtain ⟨ad200, e200, hx200_0⟩ := Kd.at_int (Kd.R_reads' HO199.out).2.2 a3 p200 q200; cases e200; replace p200 := eq_true p200; replace q200 := eq_true q200)); try go_wp2_with (first | (go_at_call 58; (with_reducible refine (spec_l15Reach.calls k1 a0 _ _ l1 _ _ x9_1 a2 t197 _ ?side1 ?side2 ?side3 ?side4 A9.out).mono ?_); (case side1 => exact cb_ HR1 HB); (case side2 => exact HC1.out); (case side3 => exact ca (Kd.R_reads' HO_9.out).2.2); (case side4 => exact (Kd.R_reads' HO_9.out).2.1); rintro e w14 ⟨v198, rfl, ho0, hb⟩; have HO199 := Aside0.mk (Kd.R_lower (Kd.R_new' ho0 (rl_ HO_9)) (below_size (hB HB))); replace HO_9 := re_ HO_9 ho0 hb; replace HB := bst_ HB hb; clear hb ho0; obtain ⟨Ao15, co15, eo15⟩ := Kd.R_slice HO199.out; subst eo15; have p200 : 0 ≤ (a3 : Int) := od_; have q200 : a3 < (t197.length : Int) := od_; obtain ⟨ad200, e200, hx200_0⟩ := Kd.at_int (Kd.R_reads' HO199.out).2.2 a3 p200 q200; cases e200; replace p200 := eq_true p200; replace q200 := eq_true q200)))
    go_ret
    exact ⟨_, rt_, by (with_reducible repeat (first | apply Kd.R_alloc | apply Kd.R_drewN | apply Kd.R_drew)); exact Kd.R_mono HO_9.out (fun _ hk => trivial), hB HB⟩
   rw [if_neg c12] at H
   have c12b0 : ((rd t197 a3) == (-1)) = false := beq_eq_false_iff_ne.mpr c12
   have c12b1 : ((rd t197 a3) != (-1)) = true := bne_iff_ne.mpr c12
   have H' := Aside0.mk H
   clear H
   obtain ⟨Ao16, co16, eo16⟩ := Kd.R_slice HO_9.out
   subst eo16
   go_wp2_with (first | (go_at_call 58; (with_reducible refine (spec_l15Reach.calls k1 a0 _ _ l1 _ _ x9_1 a2 t197 _ ?side1 ?side2 ?side3 ?side4 A9.out).mono ?_); (case side1 => exact cb_ HR1 HB); (case side2 => exact HC1.out); (case side3 => exact ca (Kd.R_reads' HO_9.out).2.2); (case side4 => exact (Kd.R_reads' HO_9.out).2.1); rintro e w17 ⟨v198, rfl, ho0, hb⟩; have HO199 := Aside0.mk (Kd.R_lower (Kd.R_new' ho0 (rl_ HO_9)) (below_size (hB HB))); replace HO_9 := re_ HO_9 ho0 hb; replace HB := bst_ HB hb; clear hb ho0; obtain ⟨Ao18, co18, eo18⟩ := Kd.R_slice HO199.out; subst eo18; have p200 : 0 ≤ (a3 : Int) := od_; have q200 : a3 < (t197.length : Int) := od_; obtain ⟨ad200, e200, hx200_0⟩ := Kd.at_int (Kd.R_reads' HO199.out).2.2 a3 p200 q200; cases e200; replace p200 := eq_true p200; replace q200 := eq_true q200))
   repeat (go_quiet (first | (go_at_call 58; (with_reducible refine (spec_l15Reach.calls k1 a0 _ _ l1 _ _ x9_1 a2 t197 _ ?side1 ?side2 ?side3 ?side4 A9.out).mono ?_); (case side1 => exact cb_ HR1 HB); (case side2 => exact HC1.out); (case side3 => exact ca (Kd.R_reads' HO_9.out).2.2); (case side4 => exact (Kd.R_reads' HO_9.out).2.1); rintro e w17 ⟨v198, rfl, ho0, hb⟩; have HO199 := Aside0.mk (Kd.R_lower (Kd.R_new' ho0 (rl_ HO_9)) (below_size (hB HB))); replace HO_9 := re_ HO_9 ho0 hb; replace HB := bst_ HB hb; clear hb ho0; obtain ⟨Ao18, co18, eo18⟩ := Kd.R_slice HO199.out; subst eo18; have p200 : 0 ≤ (a3 : Int) := od_; have q200 : a3 < (t197.length : Int) := od_; obtain ⟨ad200, e200, hx200_0⟩ := Kd.at_int (Kd.R_reads' HO199.out).2.2 a3 p200 q200; cases e200; replace p200 := eq_true p200; replace q200 := eq_true q200)); try go_wp2_with (first | (go_at_call 58; (with_reducible refine (spec_l15Reach.calls k1 a0 _ _ l1 _ _ x9_1 a2 t197 _ ?side1 ?side2 ?side3 ?side4 A9.out).mono ?_); (case side1 => exact cb_ HR1 HB); (case side2 => exact HC1.out); (case side3 => exact ca (Kd.R_reads' HO_9.out).2.2); (case side4 => exact (Kd.R_reads' HO_9.out).2.1); rintro e w17 ⟨v198, rfl, ho0, hb⟩; have HO199 := Aside0.mk (Kd.R_lower (Kd.R_new' ho0 (rl_ HO_9)) (below_size (hB HB))); replace HO_9 := re_ HO_9 ho0 hb; replace HB := bst_ HB hb; clear hb ho0; obtain ⟨Ao18, co18, eo18⟩ := Kd.R_slice HO199.out; subst eo18; have p200 : 0 ≤ (a3 : Int) := od_; have q200 : a3 < (t197.length : Int) := od_; obtain ⟨ad200, e200, hx200_0⟩ := Kd.at_int (Kd.R_reads' HO199.out).2.2 a3 p200 q200; cases e200; replace p200 := eq_true p200; replace q200 := eq_true q200)))
   go_loopg [11] k1 (fun kq v11 w' => ∃ (x9_2 : List Int) (x11_2 : Int), v11 = .int .i64 x11_2 ∧ Aside0 (spec_l15Flow.l1 kq a0 l1 a2 a3 x9_2 t197 x11_2 = some r) ∧ Aside0 (kq ≤ k1) ∧ Aside0 (Kd.R (Kd.int .i64) 3 w' w.heap.size (fun k_ => some k_ ≠ ((.slice (some ad200) t197.length co18) : Value).ownBlock) (.slice Ao16 x9_1.length co16) x9_2) ∧ Aside0 (Kd.R (Kd.int .i64) 3 w' w.heap.size (fun k_ => no_ (.slice Ao16 x9_1.length co16) k_) (.slice (some ad200) t197.length co18) t197) ∧ Aside0 (Below w.heap.size w w'))
   case atStart => exact ⟨(x9_1), (a3), (by first | rfl | (simp; done) | (simp [*]; done)), H', ⟨Nat.le_refl _⟩, rm_ HO_9 (fun _ hk => hk.2), rm_ HO199 (fun _ hk => hk.2), ⟨hB HB⟩⟩
   case round =>
    clear H'
    try clear c1
    try clear c5
    try clear c5b0
    try clear c5b1
    try clear c6
    try clear c6b0
    try clear c6b1
    try clear c10
    try clear c10b0
    try clear c11
    try clear c11b0
    try clear c12
    try clear c12b0
    try clear c12b1
    try clear hx200_0
    try clear p200
    try clear q200
    obtain ⟨x9_2, x11_2, rfl, HA, HK2, HO_9, HO_10, HB⟩ := hrel
    have hl9_2 := (Kd.R_reads' HO_9.out).1
    rw [hl9_2] at HO_9
    (try simp only [hl9_2])
    (try simp only [hl9_2] at HO_10)
    cases gk with
    | zero => exact absurd HA.out (by simp [spec_l15Flow.l1])
    | succ k2 =>
     have H := HA.out
     clear HA
     simp only [spec_l15Flow.l1] at H
     by_cases c19 : x11_2 = a2
     ·rw [if_pos c19] at H
      have c19b0 : (x11_2 == a2) = true := beq_iff_eq.mpr c19
      have c19b1 : (x11_2 != a2) = false := bne_eq_false_iff_eq.mpr c19
      clear c19
      have H' := Aside0.mk H
      clear H
      go_wp2
      repeat (go_quiet (fail); try go_wp2)
      (try simp only [← hl9_2])
      go_roundg k2
      case measure => have := HK1.out; have := HK2.out; omega
      case rel => exact ⟨(x9_2), H', ⟨by have := HK1.out; have := HK2.out; omega⟩, ⟨by (try simp only [hl9_2]); (with_reducible repeat (first | apply Kd.R_alloc | apply Kd.R_drewN | apply Kd.R_drew)); exact Kd.R_mono HO_9.out (fun _ hk => trivial)⟩, ⟨hB HB⟩⟩
     rw [if_neg c19] at H
     have c19b0 : (x11_2 == a2) = false := beq_eq_false_iff_ne.mpr c19
     have c19b1 : (x11_2 != a2) = true := bne_iff_ne.mpr c19
     by_cases c20 : 0 ≤ x11_2
     rotate_left
     ·rw [if_neg c20] at H
      exact absurd H (by simp)
     rw [if_pos c20] at H
     have c20b0 : decide (0 ≤ x11_2) = true := decide_eq_true c20
     clear c20
     by_cases c21 : x11_2 < (t197.length : Int)
     rotate_left
     ·rw [if_neg c21] at H
      exact absurd H (by simp)
     rw [if_pos c21] at H
     have c21b0 : decide (x11_2 < (t197.length : Int)) = true := decide_eq_true c21
     clear c21
     replace H := Option.bind_eq_some_iff.mp H
     obtain ⟨t202, A220, H⟩ := H
     replace H : (if 0 ≤ t202 then (if t202 < (l1.length : Int) then (if ((rd_T47 l1 t202).f0) = (rd t197 x11_2) then (if t202 < (x9_2.length : Int) then (spec_l15Flow.l1 k2 a0 l1 a2 a3 (x9_2.set (t202 : Int).toNat (wrap64 ((rd x9_2 t202) + 1))) t197 (rd t197 x11_2)) else (none)) else (if t202 < (x9_2.length : Int) then (spec_l15Flow.l1 k2 a0 l1 a2 a3 (x9_2.set (t202 : Int).toNat (wrap64 ((rd x9_2 t202) - 1))) t197 (rd t197 x11_2)) else (none))) else (none)) else (none)) = some r := H
     have A22 := Aside0.mk A220
     clear A220
     by_cases c23 : 0 ≤ t202
     rotate_left
     ·rw [if_neg c23] at H
      exact absurd H (by simp)
     rw [if_pos c23] at H
     have c23b0 : decide (0 ≤ t202) = true := decide_eq_true c23
     clear c23
     by_cases c24 : t202 < (l1.length : Int)
     rotate_left
     ·rw [if_neg c24] at H
      exact absurd H (by simp)
     rw [if_pos c24] at H
     have c24b0 : decide (t202 < (l1.length : Int)) = true := decide_eq_true c24
     clear c24
     by_cases c25 : ((rd_T47 l1 t202).f0) = (rd t197 x11_2)
     rotate_left
     ·rw [if_neg c25] at H
      have c25b0 : (((rd_T47 l1 t202).f0) == (rd t197 x11_2)) = false := beq_eq_false_iff_ne.mpr c25
      have c25b1 : (((rd_T47 l1 t202).f0) != (rd t197 x11_2)) = true := bne_iff_ne.mpr c25
      by_cases c31 : t202 < (x9_2.length : Int)
      rotate_left
      ·rw [if_neg c31] at H
       exact absurd H (by simp)
      rw [if_pos c31] at H
      have c31b0 : decide (t202 < (x9_2.length : Int)) = true := decide_eq_true c31
      clear c31
      obtain ⟨y209, hy209⟩ : ∃ y_ : List Int, y_ = (x9_2.set (t202 : Int).toNat (wrap64 ((rd x9_2 t202) - 1))) := ⟨_, rfl⟩
      replace H : (spec_l15Flow.l1 k2 a0 l1 a2 a3 y209 t197 (rd t197 x11_2)) = some r := by first | (rw [hy209]; with_reducible exact H) | (have H2_ := (Option.bind_some _ _).symm.trans H; rw [hy209]; with_reducible exact H2_) | (have H2_ := (Option.bind_some _ _).symm.trans H; with_reducible exact H2_) | with_reducible exact H | (rw [hy209]; exact H) | exact H
      have Ny209 := Aside0.mk hy209
      clear hy209
      have H' := Aside0.mk H
      clear H
      have p201 : 0 ≤ (x11_2 : Int) := od_
      have q201 : x11_2 < (t197.length : Int) := od_
      obtain ⟨ad201, e201, hx201_0⟩ := Kd.at_int (Kd.R_reads' HO_10.out).2.2 x11_2 p201 q201
      obtain rfl : ad200 = ad201 := (by injection e201)
      replace p201 := eq_true p201
      replace q201 := eq_true q201
      go_wp2_with (first | (go_at_call 90; (with_reducible refine (spec_l15Number.calls k2 _ _ l1 (rd t197 x11_2) x11_2 t202 _ ?side1 ?side2 A22.out).mono ?_); (case side1 => exact cb_ HR1 HB); (case side2 => exact HC1.out); rintro e w33 ⟨rfl, hb⟩; replace HO_9 := rb_ HO_9 hb; replace HO_10 := rb_ HO_10 hb; replace HB := bst_ HB hb; clear hb; have p203 : 0 ≤ (t202 : Int) := od_; have q203 : t202 < (l1.length : Int) := od_; obtain ⟨ad203, e203, hx203_0, hx203_1, hx203_2⟩ := at_T47 HR1.out t202 p203 q203; cases e203; replace hx203_0 := hc_ HB hx203_0; replace hx203_1 := hc_ HB hx203_1; replace hx203_2 := hc_ HB hx203_2; replace p203 := eq_true p203; replace q203 := eq_true q203; have p204 : 0 ≤ (x11_2 : Int) := od_; have q204 : x11_2 < (t197.length : Int) := od_; obtain ⟨ad204, e204, hx204_0⟩ := Kd.at_int (Kd.R_reads' HO_10.out).2.2 x11_2 p204 q204; obtain rfl : ad200 = ad204 := (by injection e204); replace p204 := eq_true p204; replace q204 := eq_true q204; have p208 : 0 ≤ (t202 : Int) := od_; have q208 : t202 < (x9_2.length : Int) := od_; obtain ⟨ad208, e208, hx208_0⟩ := Kd.at_int (Kd.R_reads' HO_9.out).2.2 t202 p208 q208; cases e208; replace p208 := eq_true p208; replace q208 := eq_true q208; have p32 : 0 ≤ (t202 : Int) := od_; have q32 : (t202 : Int) < ((x9_2.length : Int) : Int) := od_; obtain ⟨go32, co32, eo32, gb32, gl32, cl32, HG32⟩ := Kd.R_form HO_9.out (by omega); (first | cases eo32 | (injection eo32 with ea_ en_ ec_; (first | subst ea_ | (injection ea_ with ea_; subst ea_)); subst ec_; clear en_)); have GB32 := Aside0.mk gb32; have GG32 := Aside0.mk HG32; clear gb32 gl32 HG32; (first | simp only [add_plain] at hx208_0 | skip); obtain ⟨hx32_0, hf32_0⟩ := Kd.R_celln 0 HO_9.out (t202 : Int) p32 q32; replace p32 := eq_true p32; replace q32 := eq_true q32; obtain ⟨hy34_, hz34_⟩ := Kd.R_celln 0 HO_9.out (t202 : Int) (od_) (od_); have HP34 := Kd.R_putg HO_9.out (t202 : Int) (wrap64 ((rd x9_2 t202) - 1))) | ((with_reducible refine gate_store (t := 3) (p := 63) rfl ?_); (try (rw [drewN_self w33]; generalize hq_ : World.drewN w33 _ = w33; replace HO_9 := Aside0.mk (Kd.R_at hq_ HO_9.out); replace HO_10 := Aside0.mk (Kd.R_at hq_ HO_10.out); replace HB := Aside0.mk (below_at hq_ HB.out); clear hq_; (try (obtain ⟨hy34_, hz34_⟩ := Kd.R_celln 0 HO_9.out (t202 : Int) (od_) (od_))); (try (have HP34 := Kd.R_putg HO_9.out (t202 : Int) (wrap64 ((rd x9_2 t202) - 1)))))); refine store_event (t := 3) (p := 63) (v := ?vo_w35) (w1 := (w33.setCell ⟨go32, (t202 : Int).toNat, none⟩ (.int .i64 (wrap64 ((rd x9_2 t202) - 1))))) ?hg ?ho ?hn ?hr ?_; (case ho => rfl); (case hg => rfl); (case hn => rfl); (case hr => first | (go_simp; done) | (go_simp; rfl)); intro w35 hw; have hg : w33.grownBy w35 (some go32) := (by rw [hw]; exact HP34.2); have hp_ : Kd.R (Kd.int .i64) 3 w35 w.heap.size (fun k_ => some k_ ≠ (.slice (some ad200) t197.length co18 : Value).ownBlock) (.slice (some ⟨go32, 0, none⟩) x9_2.length co16) y209 := (by rw [hw, Ny209.out]; exact HP34.1); clear HP34; replace HO_9 := Aside0.mk (hp_); replace HO_10 := Aside0.mk (Kd.R_after (v := (.slice (some ⟨go32, 0, none⟩) x9_2.length co16)) (v1 := (.slice (some ⟨go32, 0, none⟩) x9_2.length co16)) (ok := (fun _ => True)) (rm_ HO_10 (fun _ hk => ⟨trivial, hk⟩)).out hg (.inl rfl)); replace HB := Aside0.mk ((by rw [hw]; exact below_set (HB.out) GB32.out : Below w.heap.size w w35)); clear hg hw hp_; have p210 : 0 ≤ (x11_2 : Int) := od_; have q210 : x11_2 < (t197.length : Int) := od_; obtain ⟨ad210, e210, hx210_0⟩ := Kd.at_int (Kd.R_reads' HO_10.out).2.2 x11_2 p210 q210; obtain rfl : ad200 = ad210 := (by injection e210); replace p210 := eq_true p210; replace q210 := eq_true q210))
      repeat (go_quiet (first | (go_at_call 90; (with_reducible refine (spec_l15Number.calls k2 _ _ l1 (rd t197 x11_2) x11_2 t202 _ ?side1 ?side2 A22.out).mono ?_); (case side1 => exact cb_ HR1 HB); (case side2 => exact HC1.out); rintro e w33 ⟨rfl, hb⟩; replace HO_9 := rb_ HO_9 hb; replace HO_10 := rb_ HO_10 hb; replace HB := bst_ HB hb; clear hb; have p203 : 0 ≤ (t202 : Int) := od_; have q203 : t202 < (l1.length : Int) := od_; obtain ⟨ad203, e203, hx203_0, hx203_1, hx203_2⟩ := at_T47 HR1.out t202 p203 q203; cases e203; replace hx203_0 := hc_ HB hx203_0; replace hx203_1 := hc_ HB hx203_1; replace hx203_2 := hc_ HB hx203_2; replace p203 := eq_true p203; replace q203 := eq_true q203; have p204 : 0 ≤ (x11_2 : Int) := od_; have q204 : x11_2 < (t197.length : Int) := od_; obtain ⟨ad204, e204, hx204_0⟩ := Kd.at_int (Kd.R_reads' HO_10.out).2.2 x11_2 p204 q204; obtain rfl : ad200 = ad204 := (by injection e204); replace p204 := eq_true p204; replace q204 := eq_true q204; have p208 : 0 ≤ (t202 : Int) := od_; have q208 : t202 < (x9_2.length : Int) := od_; obtain ⟨ad208, e208, hx208_0⟩ := Kd.at_int (Kd.R_reads' HO_9.out).2.2 t202 p208 q208; cases e208; replace p208 := eq_true p208; replace q208 := eq_true q208; have p32 : 0 ≤ (t202 : Int) := od_; have q32 : (t202 : Int) < ((x9_2.length : Int) : Int) := od_; obtain ⟨go32, co32, eo32, gb32, gl32, cl32, HG32⟩ := Kd.R_form HO_9.out (by omega); (first | cases eo32 | (injection eo32 with ea_ en_ ec_; (first | subst ea_ | (injection ea_ with ea_; subst ea_)); subst ec_; clear en_)); have GB32 := Aside0.mk gb32; have GG32 := Aside0.mk HG32; clear gb32 gl32 HG32; (first | simp only [add_plain] at hx208_0 | skip); obtain ⟨hx32_0, hf32_0⟩ := Kd.R_celln 0 HO_9.out (t202 : Int) p32 q32; replace p32 := eq_true p32; replace q32 := eq_true q32; obtain ⟨hy34_, hz34_⟩ := Kd.R_celln 0 HO_9.out (t202 : Int) (od_) (od_); have HP34 := Kd.R_putg HO_9.out (t202 : Int) (wrap64 ((rd x9_2 t202) - 1))) | ((with_reducible refine gate_store (t := 3) (p := 63) rfl ?_); (try (rw [drewN_self w33]; generalize hq_ : World.drewN w33 _ = w33; replace HO_9 := Aside0.mk (Kd.R_at hq_ HO_9.out); replace HO_10 := Aside0.mk (Kd.R_at hq_ HO_10.out); replace HB := Aside0.mk (below_at hq_ HB.out); clear hq_; (try (obtain ⟨hy34_, hz34_⟩ := Kd.R_celln 0 HO_9.out (t202 : Int) (od_) (od_))); (try (have HP34 := Kd.R_putg HO_9.out (t202 : Int) (wrap64 ((rd x9_2 t202) - 1)))))); refine store_event (t := 3) (p := 63) (v := ?vo_w35) (w1 := (w33.setCell ⟨go32, (t202 : Int).toNat, none⟩ (.int .i64 (wrap64 ((rd x9_2 t202) - 1))))) ?hg ?ho ?hn ?hr ?_; (case ho => rfl); (case hg => rfl); (case hn => rfl); (case hr => first | (go_simp; done) | (go_simp; rfl)); intro w35 hw; have hg : w33.grownBy w35 (some go32) := (by rw [hw]; exact HP34.2); have hp_ : Kd.R (Kd.int .i64) 3 w35 w.heap.size (fun k_ => some k_ ≠ (.slice (some ad200) t197.length co18 : Value).ownBlock) (.slice (some ⟨go32, 0, none⟩) x9_2.length co16) y209 := (by rw [hw, Ny209.out]; exact HP34.1); clear HP34; replace HO_9 := Aside0.mk (hp_); replace HO_10 := Aside0.mk (Kd.R_after (v := (.slice (some ⟨go32, 0, none⟩) x9_2.length co16)) (v1 := (.slice (some ⟨go32, 0, none⟩) x9_2.length co16)) (ok := (fun _ => True)) (rm_ HO_10 (fun _ hk => ⟨trivial, hk⟩)).out hg (.inl rfl)); replace HB := Aside0.mk ((by rw [hw]; exact below_set (HB.out) GB32.out : Below w.heap.size w w35)); clear hg hw hp_; have p210 : 0 ≤ (x11_2 : Int) := od_; have q210 : x11_2 < (t197.length : Int) := od_; obtain ⟨ad210, e210, hx210_0⟩ := Kd.at_int (Kd.R_reads' HO_10.out).2.2 x11_2 p210 q210; obtain rfl : ad200 = ad210 := (by injection e210); replace p210 := eq_true p210; replace q210 := eq_true q210)); try go_wp2_with (first | (go_at_call 90; (with_reducible refine (spec_l15Number.calls k2 _ _ l1 (rd t197 x11_2) x11_2 t202 _ ?side1 ?side2 A22.out).mono ?_); (case side1 => exact cb_ HR1 HB); (case side2 => exact HC1.out); rintro e w33 ⟨rfl, hb⟩; replace HO_9 := rb_ HO_9 hb; replace HO_10 := rb_ HO_10 hb; replace HB := bst_ HB hb; clear hb; have p203 : 0 ≤ (t202 : Int) := od_; have q203 : t202 < (l1.length : Int) := od_; obtain ⟨ad203, e203, hx203_0, hx203_1, hx203_2⟩ := at_T47 HR1.out t202 p203 q203; cases e203; replace hx203_0 := hc_ HB hx203_0; replace hx203_1 := hc_ HB hx203_1; replace hx203_2 := hc_ HB hx203_2; replace p203 := eq_true p203; replace q203 := eq_true q203; have p204 : 0 ≤ (x11_2 : Int) := od_; have q204 : x11_2 < (t197.length : Int) := od_; obtain ⟨ad204, e204, hx204_0⟩ := Kd.at_int (Kd.R_reads' HO_10.out).2.2 x11_2 p204 q204; obtain rfl : ad200 = ad204 := (by injection e204); replace p204 := eq_true p204; replace q204 := eq_true q204; have p208 : 0 ≤ (t202 : Int) := od_; have q208 : t202 < (x9_2.length : Int) := od_; obtain ⟨ad208, e208, hx208_0⟩ := Kd.at_int (Kd.R_reads' HO_9.out).2.2 t202 p208 q208; cases e208; replace p208 := eq_true p208; replace q208 := eq_true q208; have p32 : 0 ≤ (t202 : Int) := od_; have q32 : (t202 : Int) < ((x9_2.length : Int) : Int) := od_; obtain ⟨go32, co32, eo32, gb32, gl32, cl32, HG32⟩ := Kd.R_form HO_9.out (by omega); (first | cases eo32 | (injection eo32 with ea_ en_ ec_; (first | subst ea_ | (injection ea_ with ea_; subst ea_)); subst ec_; clear en_)); have GB32 := Aside0.mk gb32; have GG32 := Aside0.mk HG32; clear gb32 gl32 HG32; (first | simp only [add_plain] at hx208_0 | skip); obtain ⟨hx32_0, hf32_0⟩ := Kd.R_celln 0 HO_9.out (t202 : Int) p32 q32; replace p32 := eq_true p32; replace q32 := eq_true q32; obtain ⟨hy34_, hz34_⟩ := Kd.R_celln 0 HO_9.out (t202 : Int) (od_) (od_); have HP34 := Kd.R_putg HO_9.out (t202 : Int) (wrap64 ((rd x9_2 t202) - 1))) | ((with_reducible refine gate_store (t := 3) (p := 63) rfl ?_); (try (rw [drewN_self w33]; generalize hq_ : World.drewN w33 _ = w33; replace HO_9 := Aside0.mk (Kd.R_at hq_ HO_9.out); replace HO_10 := Aside0.mk (Kd.R_at hq_ HO_10.out); replace HB := Aside0.mk (below_at hq_ HB.out); clear hq_; (try (obtain ⟨hy34_, hz34_⟩ := Kd.R_celln 0 HO_9.out (t202 : Int) (od_) (od_))); (try (have HP34 := Kd.R_putg HO_9.out (t202 : Int) (wrap64 ((rd x9_2 t202) - 1)))))); refine store_event (t := 3) (p := 63) (v := ?vo_w35) (w1 := (w33.setCell ⟨go32, (t202 : Int).toNat, none⟩ (.int .i64 (wrap64 ((rd x9_2 t202) - 1))))) ?hg ?ho ?hn ?hr ?_; (case ho => rfl); (case hg => rfl); (case hn => rfl); (case hr => first | (go_simp; done) | (go_simp; rfl)); intro w35 hw; have hg : w33.grownBy w35 (some go32) := (by rw [hw]; exact HP34.2); have hp_ : Kd.R (Kd.int .i64) 3 w35 w.heap.size (fun k_ => some k_ ≠ (.slice (some ad200) t197.length co18 : Value).ownBlock) (.slice (some ⟨go32, 0, none⟩) x9_2.length co16) y209 := (by rw [hw, Ny209.out]; exact HP34.1); clear HP34; replace HO_9 := Aside0.mk (hp_); replace HO_10 := Aside0.mk (Kd.R_after (v := (.slice (some ⟨go32, 0, none⟩) x9_2.length co16)) (v1 := (.slice (some ⟨go32, 0, none⟩) x9_2.length co16)) (ok := (fun _ => True)) (rm_ HO_10 (fun _ hk => ⟨trivial, hk⟩)).out hg (.inl rfl)); replace HB := Aside0.mk ((by rw [hw]; exact below_set (HB.out) GB32.out : Below w.heap.size w w35)); clear hg hw hp_; have p210 : 0 ≤ (x11_2 : Int) := od_; have q210 : x11_2 < (t197.length : Int) := od_; obtain ⟨ad210, e210, hx210_0⟩ := Kd.at_int (Kd.R_reads' HO_10.out).2.2 x11_2 p210 q210; obtain rfl : ad200 = ad210 := (by injection e210); replace p210 := eq_true p210; replace q210 := eq_true q210)))
      (try simp only [← hl9_2])
      go_roundg k2
      case measure => have := HK1.out; have := HK2.out; omega
      case rel => exact ⟨(y209), (rd t197 x11_2), (by first | rfl | (simp; done) | (simp [*]; done)), H', ⟨by have := HK1.out; have := HK2.out; omega⟩, ⟨by (try simp only [hl9_2]); (with_reducible repeat (first | apply Kd.R_alloc | apply Kd.R_drewN | apply Kd.R_drew)); exact HO_9.out⟩, ⟨by (try simp only [hl9_2]); (with_reducible repeat (first | apply Kd.R_alloc | apply Kd.R_drewN | apply Kd.R_drew)); exact Kd.R_mono HO_10.out (fun _ hk => hk.2)⟩, ⟨hB HB⟩⟩
     rw [if_pos c25] at H
     have c25b0 : (((rd_T47 l1 t202).f0) == (rd t197 x11_2)) = true := beq_iff_eq.mpr c25
     have c25b1 : (((rd_T47 l1 t202).f0) != (rd t197 x11_2)) = false := bne_eq_false_iff_eq.mpr c25
     clear c25
     by_cases c26 : t202 < (x9_2.length : Int)
     rotate_left
     ·rw [if_neg c26] at H
      exact absurd H (by simp)
     rw [if_pos c26] at H
     have c26b0 : decide (t202 < (x9_2.length : Int)) = true := decide_eq_true c26
     clear c26
     obtain ⟨y206, hy206⟩ : ∃ y_ : List Int, y_ = (x9_2.set (t202 : Int).toNat (wrap64 ((rd x9_2 t202) + 1))) := ⟨_, rfl⟩
     replace H : (spec_l15Flow.l1 k2 a0 l1 a2 a3 y206 t197 (rd t197 x11_2)) = some r := by first | (rw [hy206]; with_reducible exact H) | (have H2_ := (Option.bind_some _ _).symm.trans H; rw [hy206]; with_reducible exact H2_) | (have H2_ := (Option.bind_some _ _).symm.trans H; with_reducible exact H2_) | with_reducible exact H | (rw [hy206]; exact H) | exact H
     have Ny206 := Aside0.mk hy206
     clear hy206
     have H' := Aside0.mk H
     clear H
     have p201 : 0 ≤ (x11_2 : Int) := od_
     have q201 : x11_2 < (t197.length : Int) := od_
     obtain ⟨ad201, e201, hx201_0⟩ := Kd.at_int (Kd.R_reads' HO_10.out).2.2 x11_2 p201 q201
     obtain rfl : ad200 = ad201 := (by injection e201)
     replace p201 := eq_true p201
     replace q201 := eq_true q201
     go_wp2_with (first | (go_at_call 90; (with_reducible refine (spec_l15Number.calls k2 _ _ l1 (rd t197 x11_2) x11_2 t202 _ ?side1 ?side2 A22.out).mono ?_); (case side1 => exact cb_ HR1 HB); (case side2 => exact HC1.out); rintro e w28 ⟨rfl, hb⟩; replace HO_9 := rb_ HO_9 hb; replace HO_10 := rb_ HO_10 hb; replace HB := bst_ HB hb; clear hb; have p203 : 0 ≤ (t202 : Int) := od_; have q203 : t202 < (l1.length : Int) := od_; obtain ⟨ad203, e203, hx203_0, hx203_1, hx203_2⟩ := at_T47 HR1.out t202 p203 q203; cases e203; replace hx203_0 := hc_ HB hx203_0; replace hx203_1 := hc_ HB hx203_1; replace hx203_2 := hc_ HB hx203_2; replace p203 := eq_true p203; replace q203 := eq_true q203; have p204 : 0 ≤ (x11_2 : Int) := od_; have q204 : x11_2 < (t197.length : Int) := od_; obtain ⟨ad204, e204, hx204_0⟩ := Kd.at_int (Kd.R_reads' HO_10.out).2.2 x11_2 p204 q204; obtain rfl : ad200 = ad204 := (by injection e204); replace p204 := eq_true p204; replace q204 := eq_true q204; have p205 : 0 ≤ (t202 : Int) := od_; have q205 : t202 < (x9_2.length : Int) := od_; obtain ⟨ad205, e205, hx205_0⟩ := Kd.at_int (Kd.R_reads' HO_9.out).2.2 t202 p205 q205; cases e205; replace p205 := eq_true p205; replace q205 := eq_true q205; have p27 : 0 ≤ (t202 : Int) := od_; have q27 : (t202 : Int) < ((x9_2.length : Int) : Int) := od_; obtain ⟨go27, co27, eo27, gb27, gl27, cl27, HG27⟩ := Kd.R_form HO_9.out (by omega); (first | cases eo27 | (injection eo27 with ea_ en_ ec_; (first | subst ea_ | (injection ea_ with ea_; subst ea_)); subst ec_; clear en_)); have GB27 := Aside0.mk gb27; have GG27 := Aside0.mk HG27; clear gb27 gl27 HG27; (first | simp only [add_plain] at hx205_0 | skip); obtain ⟨hx27_0, hf27_0⟩ := Kd.R_celln 0 HO_9.out (t202 : Int) p27 q27; replace p27 := eq_true p27; replace q27 := eq_true q27; obtain ⟨hy29_, hz29_⟩ := Kd.R_celln 0 HO_9.out (t202 : Int) (od_) (od_); have HP29 := Kd.R_putg HO_9.out (t202 : Int) (wrap64 ((rd x9_2 t202) + 1))) | ((with_reducible refine gate_store (t := 3) (p := 57) rfl ?_); (try (rw [drewN_self w28]; generalize hq_ : World.drewN w28 _ = w28; replace HO_9 := Aside0.mk (Kd.R_at hq_ HO_9.out); replace HO_10 := Aside0.mk (Kd.R_at hq_ HO_10.out); replace HB := Aside0.mk (below_at hq_ HB.out); clear hq_; (try (obtain ⟨hy29_, hz29_⟩ := Kd.R_celln 0 HO_9.out (t202 : Int) (od_) (od_))); (try (have HP29 := Kd.R_putg HO_9.out (t202 : Int) (wrap64 ((rd x9_2 t202) + 1)))))); refine store_event (t := 3) (p := 57) (v := ?vo_w30) (w1 := (w28.setCell ⟨go27, (t202 : Int).toNat, none⟩ (.int .i64 (wrap64 ((rd x9_2 t202) + 1))))) ?hg ?ho ?hn ?hr ?_; (case ho => rfl); (case hg => rfl); (case hn => rfl); (case hr => first | (go_simp; done) | (go_simp; rfl)); intro w30 hw; have hg : w28.grownBy w30 (some go27) := (by rw [hw]; exact HP29.2); have hp_ : Kd.R (Kd.int .i64) 3 w30 w.heap.size (fun k_ => some k_ ≠ (.slice (some ad200) t197.length co18 : Value).ownBlock) (.slice (some ⟨go27, 0, none⟩) x9_2.length co16) y206 := (by rw [hw, Ny206.out]; exact HP29.1); clear HP29; replace HO_9 := Aside0.mk (hp_); replace HO_10 := Aside0.mk (Kd.R_after (v := (.slice (some ⟨go27, 0, none⟩) x9_2.length co16)) (v1 := (.slice (some ⟨go27, 0, none⟩) x9_2.length co16)) (ok := (fun _ => True)) (rm_ HO_10 (fun _ hk => ⟨trivial, hk⟩)).out hg (.inl rfl)); replace HB := Aside0.mk ((by rw [hw]; exact below_set (HB.out) GB27.out : Below w.heap.size w w30)); clear hg hw hp_; have p207 : 0 ≤ (x11_2 : Int) := od_; have q207 : x11_2 < (t197.length : Int) := od_; obtain ⟨ad207, e207, hx207_0⟩ := Kd.at_int (Kd.R_reads' HO_10.out).2.2 x11_2 p207 q207; obtain rfl : ad200 = ad207 := (by injection e207); replace p207 := eq_true p207; replace q207 := eq_true q207))
     repeat (go_quiet (first | (go_at_call 90; (with_reducible refine (spec_l15Number.calls k2 _ _ l1 (rd t197 x11_2) x11_2 t202 _ ?side1 ?side2 A22.out).mono ?_); (case side1 => exact cb_ HR1 HB); (case side2 => exact HC1.out); rintro e w28 ⟨rfl, hb⟩; replace HO_9 := rb_ HO_9 hb; replace HO_10 := rb_ HO_10 hb; replace HB := bst_ HB hb; clear hb; have p203 : 0 ≤ (t202 : Int) := od_; have q203 : t202 < (l1.length : Int) := od_; obtain ⟨ad203, e203, hx203_0, hx203_1, hx203_2⟩ := at_T47 HR1.out t202 p203 q203; cases e203; replace hx203_0 := hc_ HB hx203_0; replace hx203_1 := hc_ HB hx203_1; replace hx203_2 := hc_ HB hx203_2; replace p203 := eq_true p203; replace q203 := eq_true q203; have p204 : 0 ≤ (x11_2 : Int) := od_; have q204 : x11_2 < (t197.length : Int) := od_; obtain ⟨ad204, e204, hx204_0⟩ := Kd.at_int (Kd.R_reads' HO_10.out).2.2 x11_2 p204 q204; obtain rfl : ad200 = ad204 := (by injection e204); replace p204 := eq_true p204; replace q204 := eq_true q204; have p205 : 0 ≤ (t202 : Int) := od_; have q205 : t202 < (x9_2.length : Int) := od_; obtain ⟨ad205, e205, hx205_0⟩ := Kd.at_int (Kd.R_reads' HO_9.out).2.2 t202 p205 q205; cases e205; replace p205 := eq_true p205; replace q205 := eq_true q205; have p27 : 0 ≤ (t202 : Int) := od_; have q27 : (t202 : Int) < ((x9_2.length : Int) : Int) := od_; obtain ⟨go27, co27, eo27, gb27, gl27, cl27, HG27⟩ := Kd.R_form HO_9.out (by omega); (first | cases eo27 | (injection eo27 with ea_ en_ ec_; (first | subst ea_ | (injection ea_ with ea_; subst ea_)); subst ec_; clear en_)); have GB27 := Aside0.mk gb27; have GG27 := Aside0.mk HG27; clear gb27 gl27 HG27; (first | simp only [add_plain] at hx205_0 | skip); obtain ⟨hx27_0, hf27_0⟩ := Kd.R_celln 0 HO_9.out (t202 : Int) p27 q27; replace p27 := eq_true p27; replace q27 := eq_true q27; obtain ⟨hy29_, hz29_⟩ := Kd.R_celln 0 HO_9.out (t202 : Int) (od_) (od_); have HP29 := Kd.R_putg HO_9.out (t202 : Int) (wrap64 ((rd x9_2 t202) + 1))) | ((with_reducible refine gate_store (t := 3) (p := 57) rfl ?_); (try (rw [drewN_self w28]; generalize hq_ : World.drewN w28 _ = w28; replace HO_9 := Aside0.mk (Kd.R_at hq_ HO_9.out); replace HO_10 := Aside0.mk (Kd.R_at hq_ HO_10.out); replace HB := Aside0.mk (below_at hq_ HB.out); clear hq_; (try (obtain ⟨hy29_, hz29_⟩ := Kd.R_celln 0 HO_9.out (t202 : Int) (od_) (od_))); (try (have HP29 := Kd.R_putg HO_9.out (t202 : Int) (wrap64 ((rd x9_2 t202) + 1)))))); refine store_event (t := 3) (p := 57) (v := ?vo_w30) (w1 := (w28.setCell ⟨go27, (t202 : Int).toNat, none⟩ (.int .i64 (wrap64 ((rd x9_2 t202) + 1))))) ?hg ?ho ?hn ?hr ?_; (case ho => rfl); (case hg => rfl); (case hn => rfl); (case hr => first | (go_simp; done) | (go_simp; rfl)); intro w30 hw; have hg : w28.grownBy w30 (some go27) := (by rw [hw]; exact HP29.2); have hp_ : Kd.R (Kd.int .i64) 3 w30 w.heap.size (fun k_ => some k_ ≠ (.slice (some ad200) t197.length co18 : Value).ownBlock) (.slice (some ⟨go27, 0, none⟩) x9_2.length co16) y206 := (by rw [hw, Ny206.out]; exact HP29.1); clear HP29; replace HO_9 := Aside0.mk (hp_); replace HO_10 := Aside0.mk (Kd.R_after (v := (.slice (some ⟨go27, 0, none⟩) x9_2.length co16)) (v1 := (.slice (some ⟨go27, 0, none⟩) x9_2.length co16)) (ok := (fun _ => True)) (rm_ HO_10 (fun _ hk => ⟨trivial, hk⟩)).out hg (.inl rfl)); replace HB := Aside0.mk ((by rw [hw]; exact below_set (HB.out) GB27.out : Below w.heap.size w w30)); clear hg hw hp_; have p207 : 0 ≤ (x11_2 : Int) := od_; have q207 : x11_2 < (t197.length : Int) := od_; obtain ⟨ad207, e207, hx207_0⟩ := Kd.at_int (Kd.R_reads' HO_10.out).2.2 x11_2 p207 q207; obtain rfl : ad200 = ad207 := (by injection e207); replace p207 := eq_true p207; replace q207 := eq_true q207)); try go_wp2_with (first | (go_at_call 90; (with_reducible refine (spec_l15Number.calls k2 _ _ l1 (rd t197 x11_2) x11_2 t202 _ ?side1 ?side2 A22.out).mono ?_); (case side1 => exact cb_ HR1 HB); (case side2 => exact HC1.out); rintro e w28 ⟨rfl, hb⟩; replace HO_9 := rb_ HO_9 hb; replace HO_10 := rb_ HO_10 hb; replace HB := bst_ HB hb; clear hb; have p203 : 0 ≤ (t202 : Int) := od_; have q203 : t202 < (l1.length : Int) := od_; obtain ⟨ad203, e203, hx203_0, hx203_1, hx203_2⟩ := at_T47 HR1.out t202 p203 q203; cases e203; replace hx203_0 := hc_ HB hx203_0; replace hx203_1 := hc_ HB hx203_1; replace hx203_2 := hc_ HB hx203_2; replace p203 := eq_true p203; replace q203 := eq_true q203; have p204 : 0 ≤ (x11_2 : Int) := od_; have q204 : x11_2 < (t197.length : Int) := od_; obtain ⟨ad204, e204, hx204_0⟩ := Kd.at_int (Kd.R_reads' HO_10.out).2.2 x11_2 p204 q204; obtain rfl : ad200 = ad204 := (by injection e204); replace p204 := eq_true p204; replace q204 := eq_true q204; have p205 : 0 ≤ (t202 : Int) := od_; have q205 : t202 < (x9_2.length : Int) := od_; obtain ⟨ad205, e205, hx205_0⟩ := Kd.at_int (Kd.R_reads' HO_9.out).2.2 t202 p205 q205; cases e205; replace p205 := eq_true p205; replace q205 := eq_true q205; have p27 : 0 ≤ (t202 : Int) := od_; have q27 : (t202 : Int) < ((x9_2.length : Int) : Int) := od_; obtain ⟨go27, co27, eo27, gb27, gl27, cl27, HG27⟩ := Kd.R_form HO_9.out (by omega); (first | cases eo27 | (injection eo27 with ea_ en_ ec_; (first | subst ea_ | (injection ea_ with ea_; subst ea_)); subst ec_; clear en_)); have GB27 := Aside0.mk gb27; have GG27 := Aside0.mk HG27; clear gb27 gl27 HG27; (first | simp only [add_plain] at hx205_0 | skip); obtain ⟨hx27_0, hf27_0⟩ := Kd.R_celln 0 HO_9.out (t202 : Int) p27 q27; replace p27 := eq_true p27; replace q27 := eq_true q27; obtain ⟨hy29_, hz29_⟩ := Kd.R_celln 0 HO_9.out (t202 : Int) (od_) (od_); have HP29 := Kd.R_putg HO_9.out (t202 : Int) (wrap64 ((rd x9_2 t202) + 1))) | ((with_reducible refine gate_store (t := 3) (p := 57) rfl ?_); (try (rw [drewN_self w28]; generalize hq_ : World.drewN w28 _ = w28; replace HO_9 := Aside0.mk (Kd.R_at hq_ HO_9.out); replace HO_10 := Aside0.mk (Kd.R_at hq_ HO_10.out); replace HB := Aside0.mk (below_at hq_ HB.out); clear hq_; (try (obtain ⟨hy29_, hz29_⟩ := Kd.R_celln 0 HO_9.out (t202 : Int) (od_) (od_))); (try (have HP29 := Kd.R_putg HO_9.out (t202 : Int) (wrap64 ((rd x9_2 t202) + 1)))))); refine store_event (t := 3) (p := 57) (v := ?vo_w30) (w1 := (w28.setCell ⟨go27, (t202 : Int).toNat, none⟩ (.int .i64 (wrap64 ((rd x9_2 t202) + 1))))) ?hg ?ho ?hn ?hr ?_; (case ho => rfl); (case hg => rfl); (case hn => rfl); (case hr => first | (go_simp; done) | (go_simp; rfl)); intro w30 hw; have hg : w28.grownBy w30 (some go27) := (by rw [hw]; exact HP29.2); have hp_ : Kd.R (Kd.int .i64) 3 w30 w.heap.size (fun k_ => some k_ ≠ (.slice (some ad200) t197.length co18 : Value).ownBlock) (.slice (some ⟨go27, 0, none⟩) x9_2.length co16) y206 := (by rw [hw, Ny206.out]; exact HP29.1); clear HP29; replace HO_9 := Aside0.mk (hp_); replace HO_10 := Aside0.mk (Kd.R_after (v := (.slice (some ⟨go27, 0, none⟩) x9_2.length co16)) (v1 := (.slice (some ⟨go27, 0, none⟩) x9_2.length co16)) (ok := (fun _ => True)) (rm_ HO_10 (fun _ hk => ⟨trivial, hk⟩)).out hg (.inl rfl)); replace HB := Aside0.mk ((by rw [hw]; exact below_set (HB.out) GB27.out : Below w.heap.size w w30)); clear hg hw hp_; have p207 : 0 ≤ (x11_2 : Int) := od_; have q207 : x11_2 < (t197.length : Int) := od_; obtain ⟨ad207, e207, hx207_0⟩ := Kd.at_int (Kd.R_reads' HO_10.out).2.2 x11_2 p207 q207; obtain rfl : ad200 = ad207 := (by injection e207); replace p207 := eq_true p207; replace q207 := eq_true q207)))
     (try simp only [← hl9_2])
     go_roundg k2
     case measure => have := HK1.out; have := HK2.out; omega
     case rel => exact ⟨(y206), (rd t197 x11_2), (by first | rfl | (simp; done) | (simp [*]; done)), H', ⟨by have := HK1.out; have := HK2.out; omega⟩, ⟨by (try simp only [hl9_2]); (with_reducible repeat (first | apply Kd.R_alloc | apply Kd.R_drewN | apply Kd.R_drew)); exact HO_9.out⟩, ⟨by (try simp only [hl9_2]); (with_reducible repeat (first | apply Kd.R_alloc | apply Kd.R_drewN | apply Kd.R_drew)); exact Kd.R_mono HO_10.out (fun _ hk => hk.2)⟩, ⟨hB HB⟩⟩

def laws_toEdge.f (a0_0 : Int) (a0_1 : Int) (a0_2 : Int) : Option (Int × Int × Int) := some (a0_0, a0_1, a0_2)
set_option maxHeartbeats 8000000 in
set_option maxRecDepth 100000 in
theorem laws_toEdge.calls (a0_0 : Int) (a0_1 : Int) (a0_2 : Int) (r1 : Int) (r2 : Int) (r3 : Int) (w : World) (h : laws_toEdge.f a0_0 a0_1 a0_2 = some (r1, r2, r3)) :
  Calls Try.prog 60 #[.agg #[.int .i64 a0_0, .int .i64 a0_1, .int .i64 a0_2]] w fun e w' => e = .returned (.agg #[.int .i64 r1, .int .i64 r2, .int .i64 r3]) ∧ Below w.heap.size w w' := by
 have hu69 := Try.underlying69
 have hu47 := Try.underlying47
 have HB := Aside0.mk (Below.refl w.heap.size w)
 have H : (some (a0_0, a0_1, a0_2)) = some (r1, r2, r3) := h
 clear h
 simp only [Option.some.injEq, Prod.mk.injEq] at H
 obtain ⟨rfl, rfl, rfl⟩ := H
 go_enter Try.func60, Try.ntmps60
 go_wp2_with (first | ((with_reducible refine gate_dst (N := 1) rfl ?_); refine box_event ?hg (N := 1) ?hd (cs := #[.int .i64 a0_0, .int .i64 a0_1, .int .i64 a0_2]) (t := 69) ?hr ?_; (case hd => rfl); (case hg => rfl); (case hr => first | (go_simp; done) | (go_simp; rfl)); intro gb225 hg w2 hbox hb; have BK225 := Aside0.mk (hbox); have GW225 := gw_ hg HB; have GE225 := gw_ hg HB; replace HB := bst_ HB hb; clear hb hbox hg) | ((with_reducible refine gate_dst (N := 2) rfl ?_); refine box_event ?hg (N := 2) ?hd (cs := #[.int .i64 0, .int .i64 0, .int .i64 0]) (t := 47) ?hr ?_; (case hd => rfl); (case hg => rfl); (case hr => first | (go_simp; done) | (go_simp; rfl)); intro gb226 hg w3 hbox hb; have BK226 := Aside0.mk (hbox); have GW226 := gw_ hg HB; have GE226 := gw_ hg HB; have NB225_226 := nl_ hg BK225; have NB226_225 := ng_ hg BK225; replace BK225 := bb_ BK225 hb; replace HB := bst_ HB hb; clear hb hbox hg) | ((with_reducible refine gate_dst (N := 3) rfl ?_); refine box_event ?hg (N := 3) ?hd (cs := #[.int .i64 0, .int .i64 0, .int .i64 0]) (t := 47) ?hr ?_; (case hd => rfl); (case hg => rfl); (case hr => first | (go_simp; done) | (go_simp; rfl)); intro gb227 hg w4 hbox hb; have BK227 := Aside0.mk (hbox); have GW227 := gw_ hg HB; have GE227 := gw_ hg HB; have NB225_227 := nl_ hg BK225; have NB227_225 := ng_ hg BK225; have NB226_227 := nl_ hg BK226; have NB227_226 := ng_ hg BK226; replace BK225 := bb_ BK225 hb; replace BK226 := bb_ BK226 hb; replace HB := bst_ HB hb; clear hb hbox hg; have hnb5 := NB225_226.out; have hnc5 := NB226_225.out; have hnb6 := NB225_227.out; have hnc6 := NB227_225.out; obtain ⟨hcz7_0, hcz7_1, hcz7_2⟩ := bcs3_ BK225; have hnb8 := NB227_226.out; have hnc8 := NB226_227.out; obtain ⟨hcz9_0, hcz9_1, hcz9_2⟩ := bcs3_ BK227; have hfz9_0 := blk_frozen BK227.out 0; have hfz9_1 := blk_frozen BK227.out 1; have hfz9_2 := blk_frozen BK227.out 2; obtain ⟨hcz10_0, hcz10_1, hcz10_2⟩ := bcs3_ BK226; have hfz10_0 := blk_frozen BK226.out 0; have hfz10_1 := blk_frozen BK226.out 1; have hfz10_2 := blk_frozen BK226.out 2))
 refine bodyPost_ret (results_cell_row rfl _ _ gb226 47 #[.int .i64 a0_0, .int .i64 a0_1, .int .i64 a0_2] (0, 0) _ rfl (by (with_reducible repeat (first | refine blk_drewN ?_ _ | refine blk_drew ?_ | refine blk_alloc ?_ _)); refine blk_put (cs := #[.int .i64 a0_0, .int .i64 a0_1, .int .i64 0]) ?_ 2 _ rfl; (with_reducible repeat (first | refine blk_drewN ?_ _ | refine blk_drew ?_ | refine blk_alloc ?_ _)); refine blk_put (cs := #[.int .i64 a0_0, .int .i64 0, .int .i64 0]) ?_ 1 _ rfl; (with_reducible repeat (first | refine blk_drewN ?_ _ | refine blk_drew ?_ | refine blk_alloc ?_ _)); refine blk_put (cs := #[.int .i64 0, .int .i64 0, .int .i64 0]) ?_ 0 _ rfl; (with_reducible repeat (first | refine blk_drewN ?_ _ | refine blk_drew ?_ | refine blk_alloc ?_ _)); refine blk_far ?_ NB226_227.out _; (with_reducible repeat (first | refine blk_drewN ?_ _ | refine blk_drew ?_ | refine blk_alloc ?_ _)); refine blk_far ?_ NB226_227.out _; (with_reducible repeat (first | refine blk_drewN ?_ _ | refine blk_drew ?_ | refine blk_alloc ?_ _)); refine blk_far ?_ NB226_227.out _; (with_reducible repeat (first | refine blk_drewN ?_ _ | refine blk_drew ?_ | refine blk_alloc ?_ _)); exact BK226.out) Try.underlying47 rfl (by kernel_rfl)) rfl ?_
 exact ⟨rt_, hB HB⟩

def laws_toEdgeS.l0 : Nat → List (S69) → List (S47) → Int → Option ((List (S47)))
 | 0, _, _, _ => none
 | k + 1, x0, x3, x4 => if x4 < (x0.length : Int) then (if 0 ≤ x4 then ((laws_toEdge.f ((rd_T69 x0 x4).f0) ((rd_T69 x0 x4).f1) ((rd_T69 x0 x4).f2)).bind fun bt232 => (if x4 < (x3.length : Int) then (laws_toEdgeS.l0 k x0 (x3.set (x4 : Int).toNat (⟨bt232.1, bt232.2.1, bt232.2.2⟩ : S47)) (wrap64 (x4 + 1))) else (none))) else (none)) else (some x3)
def laws_toEdgeS.f (k : Nat) (l0 : List (S69)) : Option ((List (S47))) := if 0 ≤ (l0.length : Int) then (if ((l0.length : Int) : Int).toNat ≤ 11728124029610 then (laws_toEdgeS.l0 k l0 (List.replicate ((l0.length : Int) : Int).toNat z47) 0) else (none)) else (none)
theorem laws_toEdgeS.mono_l : ∀ k, (∀ y0 y1 y2, LeO (laws_toEdgeS.l0 k y0 y1 y2) (laws_toEdgeS.l0 (k + 1) y0 y1 y2))
 | 0 => fun _ _ _ r h => by simp [laws_toEdgeS.l0] at h
 | k + 1 => by
  have ih0 := laws_toEdgeS.mono_l k
  ·intro y0 y1 y2
   unfold laws_toEdgeS.l0
   repeat' first
   | (with_reducible exact ih0 _ _ _)
   | with_reducible first | exact LeO.refl _ | exact LeO.none _ | refine LeO.ite ?_ ?_ | refine LeO.bind ?_ fun _ => ?_
theorem laws_toEdgeS.mono : ∀ a0 k, LeO (laws_toEdgeS.f k a0) (laws_toEdgeS.f (k + 1) a0) := by
 intro a0 k
 have ih0 := laws_toEdgeS.mono_l k
 unfold laws_toEdgeS.f
 repeat' first
   | (with_reducible exact ih0 _ _ _)
   | with_reducible first | exact LeO.refl _ | exact LeO.none _ | refine LeO.ite ?_ ?_ | refine LeO.bind ?_ fun _ => ?_
set_option maxHeartbeats 8000000 in
set_option maxRecDepth 100000 in
theorem laws_toEdgeS.calls (k : Nat) (A0 : Option Addr) (c0 : Nat) (l0 : List (S69)) (r : List (S47)) (w : World) (hr0 : Kd.C k69 w A0 l0.length l0) (hc0 : l0.length ≤ c0) (h : laws_toEdgeS.f k l0 = some r) :
  Calls Try.prog 11 #[.slice A0 l0.length c0] w fun e w' => ∃ v0_ : Value, e = .returned (v0_) ∧ Kd.R k47 47 w' w.heap.size (fun _ => True) v0_ r ∧ Below w.heap.size w w' := by
 have hu69 := Try.underlying69
 have hu47 := Try.underlying47
 have HR0 := Aside0.mk hr0
 have HC0 := Aside0.mk hc0
 clear hr0 hc0
 have HB := Aside0.mk (Below.refl w.heap.size w)
 have H : (if 0 ≤ (l0.length : Int) then (if ((l0.length : Int) : Int).toNat ≤ 11728124029610 then (laws_toEdgeS.l0 k l0 (List.replicate ((l0.length : Int) : Int).toNat z47) 0) else (none)) else (none)) = some r := h
 clear h
 by_cases c2 : 0 ≤ (l0.length : Int)
 rotate_left
 ·rw [if_neg c2] at H
  exact absurd H (by simp)
 rw [if_pos c2] at H
 have c2b0 := eq_true c2
 have c2b1 : decide (0 ≤ (l0.length : Int)) = true := decide_eq_true c2
 clear c2
 by_cases c3 : ((l0.length : Int) : Int).toNat ≤ 11728124029610
 rotate_left
 ·rw [if_neg c3] at H
  exact absurd H (by simp)
 rw [if_pos c3] at H
 have c3b0 := eq_true c3
 have c3b1 : decide (((l0.length : Int) : Int).toNat ≤ 11728124029610) = true := decide_eq_true c3
 clear c3
 obtain ⟨y228, hy228⟩ : ∃ y_ : List (S47), y_ = (List.replicate ((l0.length : Int) : Int).toNat z47) := ⟨_, rfl⟩
 replace H : (laws_toEdgeS.l0 k l0 y228 0) = some r := by first | (rw [hy228]; with_reducible exact H) | (rw [hy228]; with_reducible exact (Option.bind_some _ _).symm.trans H) | (with_reducible exact (Option.bind_some _ _).symm.trans H) | exact H
 have Ny228 := Aside0.mk hy228
 clear hy228
 have H' := Aside0.mk H
 clear H
 go_enter Try.func11, Try.ntmps11
 go_wp2_with (first | ((with_reducible refine gate_dst (N := 7) rfl ?_); refine Kd.R_make k47 _ 47 rfl (N := 7) rfl 27 _ _ rfl (l0.length : Int) rfl rfl Try.underlying27 (.agg #[(.int .i64 0), (.int .i64 0), (.int .i64 0)]) 24 info47 rfl (by decide) (by omega) z47 (ok := fun _ => True) (okp := fun _ => True) (k47_mkM _ _ _ z47 ) (fun _ hk => hk) trivial (od_) (Nat.le_trans (Nat.mul_le_mul_right _ (od_ : (l0.length : Int).toNat ≤ 11728124029610)) (by omega)) (Below.refl _ _) (Nat.le_refl _) ?_; intro v229 w4 ho5 hb hg_ hnew_; clear hg_ hnew_; (first | rw [← Ny228.out] at ho5 | (simp only [Int.reduceToNat] at ho5; rw [← Ny228.out] at ho5)); have HO230 := Aside0.mk (Kd.R_lower ho5 (below_size (hB HB))); replace HB := bst_ HB hb; clear hb ho5))
 go_loopg [4] k (fun kq v4 w' => ∃ (x3_1 : List (S47)) (x4_1 : Int), v4 = .int .i64 x4_1 ∧ Aside0 (laws_toEdgeS.l0 kq l0 x3_1 x4_1 = some r) ∧ Aside0 (kq ≤ k) ∧ Aside0 (Kd.R k47 47 w' w.heap.size (fun _ => True) v229 x3_1) ∧ Aside0 (Below w.heap.size w w'))
 case atStart => exact ⟨(y228), (0), (by first | rfl | (simp; done) | (simp [*]; done)), H', ⟨Nat.le_refl _⟩, ⟨ra HO230.out⟩, ⟨hB HB⟩⟩
 case round =>
  clear H'
  try clear c2
  try clear c2b0
  try clear c2b1
  try clear c3
  try clear c3b0
  try clear c3b1
  obtain ⟨x3_1, x4_1, rfl, HA, HK1, HO_3, HB⟩ := hrel
  cases gk with
  | zero => exact absurd HA.out (by simp [laws_toEdgeS.l0])
  | succ k1 =>
   have H := HA.out
   clear HA
   simp only [laws_toEdgeS.l0] at H
   by_cases c6 : x4_1 < (l0.length : Int)
   rotate_left
   ·rw [if_neg c6] at H
    have c6b0 : decide (x4_1 < (l0.length : Int)) = false := decide_eq_false c6
    clear c6
    obtain rfl := Option.some.inj H
    go_wp2
    go_ret
    exact ⟨_, rt_, ra HO_3.out, hB HB⟩
   rw [if_pos c6] at H
   have c6b0 : decide (x4_1 < (l0.length : Int)) = true := decide_eq_true c6
   clear c6
   by_cases c7 : 0 ≤ x4_1
   rotate_left
   ·rw [if_neg c7] at H
    exact absurd H (by simp)
   rw [if_pos c7] at H
   have c7b0 : decide (0 ≤ x4_1) = true := decide_eq_true c7
   clear c7
   replace H := Option.bind_eq_some_iff.mp H
   obtain ⟨⟨t232, t233, t234⟩, A80, H⟩ := H
   replace H : (if x4_1 < (x3_1.length : Int) then (laws_toEdgeS.l0 k1 l0 (x3_1.set (x4_1 : Int).toNat (⟨t232, t233, t234⟩ : S47)) (wrap64 (x4_1 + 1))) else (none)) = some r := H
   have A8 := Aside0.mk A80
   clear A80
   by_cases c9 : x4_1 < (x3_1.length : Int)
   rotate_left
   ·rw [if_neg c9] at H
    exact absurd H (by simp)
   rw [if_pos c9] at H
   have c9b0 : decide (x4_1 < (x3_1.length : Int)) = true := decide_eq_true c9
   clear c9
   obtain ⟨y235, hy235⟩ : ∃ y_ : List (S47), y_ = (x3_1.set (x4_1 : Int).toNat (⟨t232, t233, t234⟩ : S47)) := ⟨_, rfl⟩
   replace H : (laws_toEdgeS.l0 k1 l0 y235 (wrap64 (x4_1 + 1))) = some r := by first | (rw [hy235]; with_reducible exact H) | (rw [hy235]; with_reducible exact (Option.bind_some _ _).symm.trans H) | (with_reducible exact (Option.bind_some _ _).symm.trans H) | exact H
   have Ny235 := Aside0.mk hy235
   clear hy235
   have H' := Aside0.mk H
   clear H
   have p231 : 0 ≤ (x4_1 : Int) := od_
   have q231 : x4_1 < (l0.length : Int) := od_
   obtain ⟨ad231, e231, hx231_0, hx231_1, hx231_2⟩ := at_T69 HR0.out x4_1 p231 q231
   cases e231
   replace hx231_0 := hc_ HB hx231_0
   replace hx231_1 := hc_ HB hx231_1
   replace hx231_2 := hc_ HB hx231_2
   replace p231 := eq_true p231
   replace q231 := eq_true q231
   go_wp2_with (first | (refine goesL_ (some 20) rfl rfl Try.func60 (by kernel_rfl) rfl #[.agg #[.int .i64 ((rd_T69 l0 x4_1).f0), .int .i64 ((rd_T69 l0 x4_1).f1), .int .i64 ((rd_T69 l0 x4_1).f2)]] rfl tm_ ?_; (with_reducible refine (laws_toEdge.calls ((rd_T69 l0 x4_1).f0) ((rd_T69 l0 x4_1).f1) ((rd_T69 l0 x4_1).f2) t232 t233 t234 _ A8.out).mono ?_); rintro e w11 ⟨rfl, hb⟩; refine ⟨_, rfl, ?_⟩; replace HO_3 := rb_ HO_3 hb; replace HB := bst_ HB hb; clear hb; have p10 : 0 ≤ (x4_1 : Int) := od_; have q10 : (x4_1 : Int) < ((x3_1.length : Int) : Int) := od_; obtain ⟨go10, co10, eo10, gb10, gl10, cl10, HG10⟩ := Kd.R_form HO_3.out (by omega); (first | cases eo10 | (injection eo10 with ea_ en_ ec_; (first | subst ea_ | (injection ea_ with ea_; subst ea_)); subst ec_; clear en_)); have GB10 := Aside0.mk gb10; have GG10 := Aside0.mk HG10; clear gb10 gl10 HG10; obtain ⟨ce10, hcl10, hM10, hcc10, hfr10⟩ := Kd.R_elem HO_3.out z47 (x4_1 : Int) p10 q10; obtain rfl := k47_openM hM10; have hx10_0 : w11.cell? ⟨go10, (x4_1 : Int).toNat * 3, none⟩ = some (.int .i64 ((rd_T47 x3_1 x4_1).f0)) := hcc10 0 _ rfl; have hx10_1 : w11.cell? ⟨go10, (x4_1 : Int).toNat * 3 + 1, none⟩ = some (.int .i64 ((rd_T47 x3_1 x4_1).f1)) := hcc10 1 _ rfl; have hx10_2 : w11.cell? ⟨go10, (x4_1 : Int).toNat * 3 + 2, none⟩ = some (.int .i64 ((rd_T47 x3_1 x4_1).f2)) := hcc10 2 _ rfl; have hf10_0 : w11.frozen? ⟨go10, (x4_1 : Int).toNat * 3, none⟩ = false := hfr10 0; have hf10_1 : w11.frozen? ⟨go10, (x4_1 : Int).toNat * 3 + 1, none⟩ = false := hfr10 1; have hf10_2 : w11.frozen? ⟨go10, (x4_1 : Int).toNat * 3 + 2, none⟩ = false := hfr10 2; clear hcl10 hcc10 hfr10 hM10; replace p10 := eq_true p10; replace q10 := eq_true q10; have HX12 := Aside0.mk (show Kd.R k47 47 w11 w.heap.size (fun _ => True) (.slice (some ⟨go10, 0, none⟩) x3_1.length co10) x3_1 from (ra HO_3.out)); obtain ⟨ce12, hcl12, hM12, hcc12, hfr12⟩ := Kd.R_elem HX12.out z47 (x4_1 : Int) (od_) (by have h_ : (x4_1 : Int) < ((x3_1.length : Int) : Int) := od_; first | exact h_ | (have e_ := (Kd.R_reads' HO_3.out).1; omega) | simpa using h_); obtain rfl := k47_openM hM12; have HP12 := Kd.R_seg HX12.out (x4_1 : Int) (od_) (by have h_ : (x4_1 : Int) < ((x3_1.length : Int) : Int) := od_; first | exact h_ | (have e_ := (Kd.R_reads' HO_3.out).1; omega) | simpa using h_) (seg := [.int .i64 t232, .int .i64 t233, .int .i64 t234]) (j := 0) hcl12 hcc12 (show 3 ≤ 3 from by decide) (x' := (⟨t232, t233, t234⟩ : S47)) (k47_mkM _ _ _ (⟨t232, t233, t234⟩ : S47) ) (fun _ hk => hk); have hx12_0 := hcc12 0 _ rfl; (try simp only [show (k47).sz = 3 from rfl, Nat.mul_one, Nat.add_zero] at hx12_0); have hf12_0 := hfr12 0; (try simp only [show (k47).sz = 3 from rfl, Nat.mul_one, Nat.add_zero] at hf12_0); have hx12_1 := hcc12 1 _ rfl; (try simp only [show (k47).sz = 3 from rfl, Nat.mul_one, Nat.add_zero] at hx12_1); have hf12_1 := hfr12 1; (try simp only [show (k47).sz = 3 from rfl, Nat.mul_one, Nat.add_zero] at hf12_1); have hx12_2 := hcc12 2 _ rfl; (try simp only [show (k47).sz = 3 from rfl, Nat.mul_one, Nat.add_zero] at hx12_2); have hf12_2 := hfr12 2; (try simp only [show (k47).sz = 3 from rfl, Nat.mul_one, Nat.add_zero] at hf12_2); clear hcl12 hcc12 hfr12 hM12) | ((with_reducible refine gate_store (t := 47) (p := 21) rfl ?_); refine store_event (t := 47) (p := 21) (v := ?vo_w13) (w1 := (((w11.setCell ⟨go10, (x4_1 : Int).toNat * 3, none⟩ (.int .i64 t232)).setCell ⟨go10, (x4_1 : Int).toNat * 3 + 1, none⟩ (.int .i64 t233)).setCell ⟨go10, (x4_1 : Int).toNat * 3 + 2, none⟩ (.int .i64 t234))) ?hg ?ho ?hn ?hr ?_; (case ho => rfl); (case hg => rfl); (case hn => rfl); (case hr => first | (go_simp; done) | (go_simp; rfl)); intro w13 hw; have hg : w11.grownBy w13 (some go10) := (by rw [hw]; exact HP12.2); have hp_ : Kd.R k47 47 w13 w.heap.size (fun _ => True) (.slice (some ⟨go10, 0, none⟩) x3_1.length co10) y235 := (by rw [hw, Ny235.out]; exact HP12.1); clear HP12; replace HO_3 := Aside0.mk (hp_); replace HB := Aside0.mk ((by rw [hw]; exact below_set (below_set (below_set (HB.out) GB10.out) GB10.out) GB10.out : Below w.heap.size w w13)); clear hg hw hp_))
   go_roundg k1
   case measure => have := HK1.out; omega
   case rel => exact ⟨(y235), (wrap64 (x4_1 + 1)), (by first | rfl | (simp; done) | (simp [*]; done)), H', ⟨by have := HK1.out; omega⟩, ⟨ra HO_3.out⟩, ⟨hB HB⟩⟩

def impl_in.f (a0 : Int) (a1 : Int) (a2 : Int) : Option (Bool) := if a0 ≥ a1 then (some (decide (a0 ≤ a2))) else (some false)
set_option maxHeartbeats 8000000 in
set_option maxRecDepth 100000 in
theorem impl_in.calls (a0 : Int) (a1 : Int) (a2 : Int) (r : Bool) (w : World) (h : impl_in.f a0 a1 a2 = some r) :
  Calls Try.prog 99 #[.int .i64 a0, .int .i64 a1, .int .i64 a2] w fun e w' => e = .returned (.bool r) ∧ Drawn0 w w' := by
 have H : (if a0 ≥ a1 then (some (decide (a0 ≤ a2))) else (some false)) = some r := h
 clear h
 by_cases c4 : a0 ≥ a1
 ·rw [if_pos c4] at H
  have c4b0 : decide (a1 ≤ a0) = true := decide_eq_true c4
  clear c4
  obtain rfl := Option.some.inj H
  go_enter Try.func99, Try.ntmps99
  go_wp2
  go_ret
  exact ⟨by first | rfl | (simp; done) | (simp [*]; done), by repeat (first | exact Drawn0.refl _ | apply Drawn0.step)⟩
 rw [if_neg c4] at H
 have c4b0 : decide (a1 ≤ a0) = false := decide_eq_false c4
 clear c4
 obtain rfl := Option.some.inj H
 go_enter Try.func99, Try.ntmps99
 go_wp2
 go_ret
 exact ⟨by first | rfl | (simp; done) | (simp [*]; done), by repeat (first | exact Drawn0.refl _ | apply Drawn0.step)⟩

def impl_byEnds.f (a0_0 : Int) (a0_1 : Int) (a0_2 : Int) (a1_0 : Int) (a1_1 : Int) (a1_2 : Int) : Option (Int) := if a0_0 = a1_0 then (some (wrap64 (a0_1 - a1_1))) else (some (wrap64 (a0_0 - a1_0)))
set_option maxHeartbeats 8000000 in
set_option maxRecDepth 100000 in
theorem impl_byEnds.calls (a0_0 : Int) (a0_1 : Int) (a0_2 : Int) (a1_0 : Int) (a1_1 : Int) (a1_2 : Int) (r : Int) (w : World) (h : impl_byEnds.f a0_0 a0_1 a0_2 a1_0 a1_1 a1_2 = some r) :
  Calls Try.prog 110 #[.agg #[.int .i64 a0_0, .int .i64 a0_1, .int .i64 a0_2], .agg #[.int .i64 a1_0, .int .i64 a1_1, .int .i64 a1_2]] w fun e w' => e = .returned (.int .i64 r) ∧ Below w.heap.size w w' := by
 have hu47 := Try.underlying47
 have HB := Aside0.mk (Below.refl w.heap.size w)
 have H : (if a0_0 = a1_0 then (some (wrap64 (a0_1 - a1_1))) else (some (wrap64 (a0_0 - a1_0)))) = some r := h
 clear h
 by_cases c3 : a0_0 = a1_0
 ·rw [if_pos c3] at H
  have c3b0 : (a0_0 == a1_0) = true := beq_iff_eq.mpr c3
  have c3b1 : (a0_0 != a1_0) = false := bne_eq_false_iff_eq.mpr c3
  clear c3
  obtain rfl := Option.some.inj H
  go_enter Try.func110, Try.ntmps110
  go_wp2_with (first | ((with_reducible refine gate_dst (N := 2) rfl ?_); refine box_event ?hg (N := 2) ?hd (cs := #[.int .i64 a0_0, .int .i64 a0_1, .int .i64 a0_2]) (t := 47) ?hr ?_; (case hd => rfl); (case hg => rfl); (case hr => first | (go_simp; done) | (go_simp; rfl)); intro gb236 hg w4 hbox hb; have BK236 := Aside0.mk (hbox); have GW236 := gw_ hg HB; have GE236 := gw_ hg HB; replace HB := bst_ HB hb; clear hb hbox hg) | ((with_reducible refine gate_dst (N := 3) rfl ?_); refine box_event ?hg (N := 3) ?hd (cs := #[.int .i64 a1_0, .int .i64 a1_1, .int .i64 a1_2]) (t := 47) ?hr ?_; (case hd => rfl); (case hg => rfl); (case hr => first | (go_simp; done) | (go_simp; rfl)); intro gb237 hg w5 hbox hb; have BK237 := Aside0.mk (hbox); have GW237 := gw_ hg HB; have GE237 := gw_ hg HB; have NB236_237 := nl_ hg BK236; have NB237_236 := ng_ hg BK236; replace BK236 := bb_ BK236 hb; replace HB := bst_ HB hb; clear hb hbox hg; have hnb6 := NB236_237.out; have hnc6 := NB237_236.out; obtain ⟨hcz7_0, hcz7_1, hcz7_2⟩ := bcs3_ BK236; obtain ⟨hcz8_0, hcz8_1, hcz8_2⟩ := bcs3_ BK237))
  go_ret
  exact ⟨rt_, hB HB⟩
 rw [if_neg c3] at H
 have c3b0 : (a0_0 == a1_0) = false := beq_eq_false_iff_ne.mpr c3
 have c3b1 : (a0_0 != a1_0) = true := bne_iff_ne.mpr c3
 obtain rfl := Option.some.inj H
 go_enter Try.func110, Try.ntmps110
 go_wp2_with (first | ((with_reducible refine gate_dst (N := 2) rfl ?_); refine box_event ?hg (N := 2) ?hd (cs := #[.int .i64 a0_0, .int .i64 a0_1, .int .i64 a0_2]) (t := 47) ?hr ?_; (case hd => rfl); (case hg => rfl); (case hr => first | (go_simp; done) | (go_simp; rfl)); intro gb236 hg w9 hbox hb; have BK236 := Aside0.mk (hbox); have GW236 := gw_ hg HB; have GE236 := gw_ hg HB; replace HB := bst_ HB hb; clear hb hbox hg) | ((with_reducible refine gate_dst (N := 3) rfl ?_); refine box_event ?hg (N := 3) ?hd (cs := #[.int .i64 a1_0, .int .i64 a1_1, .int .i64 a1_2]) (t := 47) ?hr ?_; (case hd => rfl); (case hg => rfl); (case hr => first | (go_simp; done) | (go_simp; rfl)); intro gb237 hg w10 hbox hb; have BK237 := Aside0.mk (hbox); have GW237 := gw_ hg HB; have GE237 := gw_ hg HB; have NB236_237 := nl_ hg BK236; have NB237_236 := ng_ hg BK236; replace BK236 := bb_ BK236 hb; replace HB := bst_ HB hb; clear hb hbox hg; have hnb11 := NB236_237.out; have hnc11 := NB237_236.out; obtain ⟨hcz12_0, hcz12_1, hcz12_2⟩ := bcs3_ BK236; obtain ⟨hcz13_0, hcz13_1, hcz13_2⟩ := bcs3_ BK237))
 go_ret
 exact ⟨rt_, hB HB⟩

def impl_isSpots.f (a0 : Int) : Option (Bool) := (impl_in.f a0 1 12).bind fun t238 => (some t238)
set_option maxHeartbeats 8000000 in
set_option maxRecDepth 100000 in
theorem impl_isSpots.calls (a0 : Int) (r : Bool) (w : World) (h : impl_isSpots.f a0 = some r) :
  Calls Try.prog 111 #[.int .i64 a0] w fun e w' => e = .returned (.bool r) ∧ Drawn0 w w' := by
 have H : ((impl_in.f a0 1 12).bind fun t238 => (some t238)) = some r := h
 clear h
 replace H := Option.bind_eq_some_iff.mp H
 obtain ⟨t238, A20, H⟩ := H
 replace H : (some t238) = some r := H
 have A2 := Aside0.mk A20
 clear A20
 obtain rfl := Option.some.inj H
 go_enter Try.func111, Try.ntmps111
 go_wp2_with (first | (refine goesL_ (some 4) rfl rfl Try.func99 (by kernel_rfl) rfl #[.int .i64 a0, .int .i64 1, .int .i64 12] rfl tm_ ?_; (with_reducible refine (impl_in.calls a0 1 12 t238 _ A2.out).mono ?_); rintro e w' ⟨rfl, ⟨nd, rfl⟩⟩; refine ⟨_, rfl, ?_⟩))
 go_ret
 exact ⟨by first | rfl | (simp; done) | (simp [*]; done), by repeat (first | exact Drawn0.refl _ | apply Drawn0.step)⟩

end Go.Proofs.Ythambdfgkfkcmaa.P
