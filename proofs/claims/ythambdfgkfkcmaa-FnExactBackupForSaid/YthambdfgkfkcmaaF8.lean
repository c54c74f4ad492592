import Derived.Test.YthambdfgkfkcmaaF0
import Derived.Test.YthambdfgkfkcmaaF3
import Derived.Test.YthambdfgkfkcmaaF7
namespace Go.Proofs.Ythambdfgkfkcmaa.P
open Go.RowKit Go.Proofs.YthambdfgkfkcmaaW.PrintWords Go.Proofs.YthambdfgkfkcmaaW.PrintLast Go.Proofs.YthambdfgkfkcmaaW.PrintMore
attribute [local go_sem] max2_int min2_int max_two min_two max_three min_three max_four min_four   -- for this text's walks alone
set_option linter.unusedVariables false
set_option linter.unusedSimpArgs false
attribute [local go_sem high] eqA47

mutual
def spec_l15Flow.l0 : Nat → Int → List (S47) → Int → Int → List Int → Option (List Int)
 | 0, _, _, _, _, _ => none
 | k + 1, x0, x1, x2, x3, x9 => (spec_l15Reach.f k x0 x1 x9 x2).bind fun t197 => (if 0 ≤ x3 then (if x3 < (t197.length : Int) then (if (rd t197 x3) = (-1) then (some x9) else (spec_l15Flow.l1 k x0 x1 x2 x3 x9 t197 x3)) else (none)) else (none))
def spec_l15Flow.l1 : Nat → Int → List (S47) → Int → Int → List Int → List Int → Int → Option (List Int)
 | 0, _, _, _, _, _, _, _ => none
 | k + 1, x0, x1, x2, x3, x9, x10, x11 => if x11 = x2 then (spec_l15Flow.l0 k x0 x1 x2 x3 x9) else (if 0 ≤ x11 then (if x11 < (x10.length : Int) then ((spec_l15Number.f k x1 (rd x10 x11) x11).bind fun t202 => (if 0 ≤ t202 then (if t202 < (x1.length : Int) then (if ((rd_T47 x1 t202).f0) = (rd x10 x11) then (if t202 < (x9.length : Int) then (spec_l15Flow.l1 k x0 x1 x2 x3 (x9.set (t202 : Int).toNat (wrap64 ((rd x9 t202) + 1))) x10 (rd x10 x11)) else (none)) else (if t202 < (x9.length : Int) then (spec_l15Flow.l1 k x0 x1 x2 x3 (x9.set (t202 : Int).toNat (wrap64 ((rd x9 t202) - 1))) x10 (rd x10 x11)) else (none))) else (none)) else (none))) else (none)) else (none))
end
def spec_l15Flow.f (k : Nat) (a0 : Int) (l1 : List (S47)) (a2 : Int) (a3 : Int) : Option (List Int) := if 0 ≤ (l1.length : Int) then (if ((l1.length : Int) : Int).toNat ≤ 35184372088832 then (spec_l15Flow.l0 k a0 l1 a2 a3 (List.replicate ((l1.length : Int) : Int).toNat 0)) else (none)) else (none)
theorem spec_l15Flow.mono_l : ∀ k, (∀ y0 y1 y2 y3 y4, LeO (spec_l15Flow.l0 k y0 y1 y2 y3 y4) (spec_l15Flow.l0 (k + 1) y0 y1 y2 y3 y4)) ∧ (∀ y0 y1 y2 y3 y4 y5 y6, LeO (spec_l15Flow.l1 k y0 y1 y2 y3 y4 y5 y6) (spec_l15Flow.l1 (k + 1) y0 y1 y2 y3 y4 y5 y6))
 | 0 => ⟨fun _ _ _ _ _ r h => by simp [spec_l15Flow.l0] at h, fun _ _ _ _ _ _ _ r h => by simp [spec_l15Flow.l1] at h⟩
 | k + 1 => by
  obtain ⟨ih0, ih1⟩ := spec_l15Flow.mono_l k
  refine ⟨?_, ?_⟩
  ·intro y0 y1 y2 y3 y4
   unfold spec_l15Flow.l0
   repeat' first
   | (with_reducible exact ih0 _ _ _ _ _)
   | (with_reducible exact ih1 _ _ _ _ _ _ _)
   | (with_reducible exact spec_l15Number.mono _ _ _ _)
   | (with_reducible exact spec_l15Reach.mono _ _ _ _ _)
   | with_reducible first | exact LeO.refl _ | exact LeO.none _ | refine LeO.ite ?_ ?_ | refine LeO.bind ?_ fun _ => ?_
  ·intro y0 y1 y2 y3 y4 y5 y6
   unfold spec_l15Flow.l1
   repeat' first
   | (with_reducible exact ih0 _ _ _ _ _)
   | (with_reducible exact ih1 _ _ _ _ _ _ _)
   | (with_reducible exact spec_l15Number.mono _ _ _ _)
   | (with_reducible exact spec_l15Reach.mono _ _ _ _ _)
   | with_reducible first | exact LeO.refl _ | exact LeO.none _ | refine LeO.ite ?_ ?_ | refine LeO.bind ?_ fun _ => ?_
theorem spec_l15Flow.mono : ∀ a0 a1 a2 a3 k, LeO (spec_l15Flow.f k a0 a1 a2 a3) (spec_l15Flow.f (k + 1) a0 a1 a2 a3) := by
 intro a0 a1 a2 a3 k
 obtain ⟨ih0, ih1⟩ := spec_l15Flow.mono_l k
 unfold spec_l15Flow.f
 repeat' first
   | (with_reducible exact ih0 _ _ _ _ _)
   | (with_reducible exact ih1 _ _ _ _ _ _ _)
   | (with_reducible exact spec_l15Number.mono _ _ _ _)
   | (with_reducible exact spec_l15Reach.mono _ _ _ _ _)
   | with_reducible first | exact LeO.refl _ | exact LeO.none _ | refine LeO.ite ?_ ?_ | refine LeO.bind ?_ fun _ => ?_
set_option maxHeartbeats 8000000 in
set_option maxRecDepth 100000 in
theorem spec_l15Flow.calls (k : Nat) (a0 : Int) (A1 : Option Addr) (c1 : Nat) (l1 : List (S47)) (a2 : Int) (a3 : Int) (r : List Int) (w : World) (hr1 : Kd.C k47 w A1 l1.length l1) (hc1 : l1.length ≤ c1) (h : spec_l15Flow.f k a0 l1 a2 a3 = some r) :
  Calls Try.prog 59 #[.int .i64 a0, .slice A1 l1.length c1, .int .i64 a2, .int .i64 a3] w fun e w' => ∃ v0_ : Value, e = .returned (v0_) ∧ Kd.R (Kd.int .i64) 3 w' w.heap.size (fun _ => True) v0_ r ∧ Below w.heap.size w w' := by
 have HR1 := Aside0.mk hr1
 have HC1 := Aside0.mk hc1
 clear hr1 hc1
 have HB := Aside0.mk (Below.refl w.heap.size w)
 have H : (if 0 ≤ (l1.length : Int) then (if ((l1.length : Int) : Int).toNat ≤ 35184372088832 then (spec_l15Flow.l0 k a0 l1 a2 a3 (List.replicate ((l1.length : Int) : Int).toNat 0)) else (none)) else (none)) = some r := h
 clear h
 by_cases c5 : 0 ≤ (l1.length : Int)
 rotate_left
 ·rw [if_neg c5] at H
  exact absurd H (by simp)
 rw [if_pos c5] at H
 have c5b0 := eq_true c5
 have c5b1 : decide (0 ≤ (l1.length : Int)) = true := decide_eq_true c5
 clear c5
 by_cases c6 : ((l1.length : Int) : Int).toNat ≤ 35184372088832
 rotate_left
 ·rw [if_neg c6] at H
  exact absurd H (by simp)
 rw [if_pos c6] at H
 have c6b0 := eq_true c6
 have c6b1 : decide (((l1.length : Int) : Int).toNat ≤ 35184372088832) = true := decide_eq_true c6
 clear c6
 obtain ⟨y194, hy194⟩ : ∃ y_ : List Int, y_ = (List.replicate ((l1.length : Int) : Int).toNat 0) := ⟨_, rfl⟩
 replace H : (spec_l15Flow.l0 k a0 l1 a2 a3 y194) = some r := by first | (rw [hy194]; with_reducible exact H) | (have H2_ := (Option.bind_some _ _).symm.trans H; rw [hy194]; with_reducible exact H2_) | (have H2_ := (Option.bind_some _ _).symm.trans H; with_reducible exact H2_) | with_reducible exact H | (rw [hy194]; exact H) | exact H
 have Ny194 := Aside0.mk hy194
 clear hy194
 have H' := Aside0.mk H
 clear H
 go_enter Try.func59, Try.ntmps59
 go_wp2_with (first | ((with_reducible refine gate_dst (N := 15) rfl ?_); refine Kd.R_make (Kd.int .i64) _ 3 rfl (N := 15) rfl 24 _ _ rfl (l1.length : Int) rfl rfl Try.underlying24 (.int .i64 0) 8 info3 rfl (by decide) (by omega) 0 (ok := fun _ => True) (okp := fun _ => True) rfl (fun _ hk => hk) trivial (od_) (Nat.le_trans (Nat.mul_le_mul_right _ (od_ : (l1.length : Int).toNat ≤ 35184372088832)) (by omega)) (Below.refl _ _) (Nat.le_refl _) ?_; intro v195 w7 ho8 hb hg_ hnew_; clear hg_ hnew_; (first | rw [← Ny194.out] at ho8 | (simp only [Int.reduceToNat] at ho8; rw [← Ny194.out] at ho8)); have HO196 := Aside0.mk (Kd.R_lower ho8 (below_size (hB HB))); replace HB := bst_ HB hb; clear hb ho8))
 repeat (go_quiet (first | ((with_reducible refine gate_dst (N := 15) rfl ?_); refine Kd.R_make (Kd.int .i64) _ 3 rfl (N := 15) rfl 24 _ _ rfl (l1.length : Int) rfl rfl Try.underlying24 (.int .i64 0) 8 info3 rfl (by decide) (by omega) 0 (ok := fun _ => True) (okp := fun _ => True) rfl (fun _ hk => hk) trivial (od_) (Nat.le_trans (Nat.mul_le_mul_right _ (od_ : (l1.length : Int).toNat ≤ 35184372088832)) (by omega)) (Below.refl _ _) (Nat.le_refl _) ?_; intro v195 w7 ho8 hb hg_ hnew_; clear hg_ hnew_; (first | rw [← Ny194.out] at ho8 | (simp only [Int.reduceToNat] at ho8; rw [← Ny194.out] at ho8)); have HO196 := Aside0.mk (Kd.R_lower ho8 (below_size (hB HB))); replace HB := bst_ HB hb; clear hb ho8)); try go_wp2_with (first | ((with_reducible refine gate_dst (N := 15) rfl ?_); refine Kd.R_make (Kd.int .i64) _ 3 rfl (N := 15) rfl 24 _ _ rfl (l1.length : Int) rfl rfl Try.underlying24 (.int .i64 0) 8 info3 rfl (by decide) (by omega) 0 (ok := fun _ => True) (okp := fun _ => True) rfl (fun _ hk => hk) trivial (od_) (Nat.le_trans (Nat.mul_le_mul_right _ (od_ : (l1.length : Int).toNat ≤ 35184372088832)) (by omega)) (Below.refl _ _) (Nat.le_refl _) ?_; intro v195 w7 ho8 hb hg_ hnew_; clear hg_ hnew_; (first | rw [← Ny194.out] at ho8 | (simp only [Int.reduceToNat] at ho8; rw [← Ny194.out] at ho8)); have HO196 := Aside0.mk (Kd.R_lower ho8 (below_size (hB HB))); replace HB := bst_ HB hb; clear hb ho8)))
 go_loopg [] k (fun kq w' => ∃ (x9_1 : List Int), Aside0 (spec_l15Flow.l0 kq a0 l1 a2 a3 x9_1 = some r) ∧ Aside0 (kq ≤ k) ∧ Aside0 (Kd.R (Kd.int .i64) 3 w' w.heap.size (fun _ => True) v195 x9_1) ∧ Aside0 (Below w.heap.size w w'))
 case atStart => exact ⟨(y194), H', ⟨Nat.le_refl _⟩, ⟨ra HO196.out⟩, ⟨hB HB⟩⟩
 case round =>
  clear H'
  try clear c1
  try clear c5
  try clear c5b0
  try clear c5b1
  try clear c6
  try clear c6b0
  try clear c6b1
  obtain ⟨x9_1, HA, HK1, HO_9, HB⟩ := hrel
  cases gk with
  | zero => exact absurd HA.out (by simp [spec_l15Flow.l0])
  | succ k1 =>
   have H := HA.out
   clear HA
   simp only [spec_l15Flow.l0] at H
   replace H := Option.bind_eq_some_iff.mp H
   obtain ⟨t197, A90, H⟩ := H
   replace H : (if 0 ≤ a3 then (if a3 < (t197.length : Int) then (if (rd t197 a3) = (-1) then (some x9_1) else (spec_l15Flow.l1 k1 a0 l1 a2 a3 x9_1 t197 a3)) else (none)) else (none)) = some r := H
   have A9 := Aside0.mk A90
   clear A90
   by_cases c10 : 0 ≤ a3
   rotate_left
   ·rw [if_neg c10] at H
    exact absurd H (by simp)
   rw [if_pos c10] at H
   have c10b0 : decide (0 ≤ a3) = true := decide_eq_true c10
   clear c10
   by_cases c11 : a3 < (t197.length : Int)
   rotate_left
   ·rw [if_neg c11] at H
    exact absurd H (by simp)
   rw [if_pos c11] at H
   have c11b0 : decide (a3 < (t197.length : Int)) = true := decide_eq_true c11
   clear c11
   by_cases c12 : (rd t197 a3) = (-1)
   ·rw [if_pos c12] at H
    have c12b0 : ((rd t197 a3) == (-1)) = true := beq_iff_eq.mpr c12
    have c12b1 : ((rd t197 a3) != (-1)) = false := bne_eq_false_iff_eq.mpr c12
    clear c12
    obtain rfl := Option.some.inj H
    obtain ⟨Ao13, co13, eo13⟩ := Kd.R_slice HO_9.out
    subst eo13
    go_wp2_with (first | (go_at_call 58; (with_reducible refine (spec_l15Reach.calls k1 a0 _ _ l1 _ _ x9_1 a2 t197 _ ?side1 ?side2 ?side3 ?side4 A9.out).mono ?_); (case side1 => exact cb_ HR1 HB); (case side2 => exact HC1.out); (case side3 => exact ca (Kd.R_reads' HO_9.out).2.2); (case side4 => exact (Kd.R_reads' HO_9.out).2.1); rintro e w14 ⟨v198, rfl, ho0, hb⟩; have HO199 := Aside0.mk (Kd.R_lower (Kd.R_new' ho0 (rl_ HO_9)) (below_size (hB HB))); replace HO_9 := re_ HO_9 ho0 hb; replace HB := bst_ HB hb; clear hb ho0; obtain ⟨Ao15, co15, eo15⟩ := Kd.R_slice HO199.out; subst eo15; have p200 : 0 ≤ (a3 : Int) := od_; have q200 : a3 < (t197.length : Int) := od_; obtain ⟨ad200, e200, hx200_0⟩ := Kd.at_int (Kd.R_reads' HO199.out).2.2 a3 p200 q200; cases e200; replace p200 := eq_true p200; replace q200 := eq_true q200))
    repeat (go_quiet (first | (go_at_call 58; (with_reducible refine (spec_l15Reach.calls k1 a0 _ _ l1 _ _ x9_1 a2 t197 _ ?side1 ?side2 ?side3 ?side4 A9.out).mono ?_); (case side1 => exact cb_ HR1 HB); (case side2 => exact HC1.out); (case side3 => exact ca (Kd.R_reads' HO_9.out).2.2); (case side4 => exact (Kd.R_reads' HO_9.out).2.1); rintro e w14 ⟨v198, rfl, ho0, hb⟩; have HO199 := Aside0.mk (Kd.R_lower (Kd.R_new' ho0 (rl_ HO_9)) (below_size (hB HB))); replace HO_9 := re_ HO_9 ho0 hb; replace HB := bst_ HB hb; clear hb ho0; obtain ⟨Ao15, co15, eo15⟩ := Kd.R_slice HO199.out; subst eo15; have p200 : 0 ≤ (a3 : Int) := od_; have q200 : a3 < (t197.length : Int) := od_; obtain ⟨ad200, e200, hx200_0⟩ := Kd.at_int (Kd.R_reads' HO199.out).2.2 a3 p200 q200; cases e200; replace p200 := eq_true p200; replace q200 := eq_true q200)); try go_wp2_with (first | (go_at_call 58; (with_reducible refine (spec_l15Reach.calls k1 a0 _ _ l1 _ _ x9_1 a2 t197 _ ?side1 ?side2 ?side3 ?side4 A9.out).mono ?_); (case side1 => exact cb_ HR1 HB); (case side2 => exact HC1.out); (case side3 => exact ca (Kd.R_reads' HO_9.out).2.2); (case side4 => exact (Kd.R_reads' HO_9.out).2.1); rintro e w14 ⟨v198, rfl, ho0, hb⟩; have HO199 := Aside0.mk (Kd.R_lower (Kd.R_new' ho0 (rl_ HO_9)) (below_size (hB HB))); replace HO_9 := re_ HO_9 ho0 hb; replace HB := bst_ HB hb; clear hb ho0; obtain ⟨Ao15, co15, eo15⟩ := Kd.R_slice HO199.out; subst eo15; have p200 : 0 ≤ (a3 : Int) := od_; have q200 : a3 < (t197.length : Int) := od_; obtain ⟨ad200, e200, hx200_0⟩ := Kd.at_int (Kd.R_reads' HO199.out).2.2 a3 p200 q200; cases e200; replace p200 := eq_true p200; replace q200 := eq_true q200)))
    go_ret
    exact ⟨_, rt_, by (with_reducible repeat (first | apply Kd.R_alloc | apply Kd.R_drewN | apply Kd.R_drew)); exact Kd.R_mono HO_9.out (fun _ hk => trivial), hB HB⟩
   rw [if_neg c12] at H
   have c12b0 : ((rd t197 a3) == (-1)) = false := beq_eq_false_iff_ne.mpr c12
   have c12b1 : ((rd t197 a3) != (-1)) = true := bne_iff_ne.mpr c12
   have H' := Aside0.mk H
   clear H
   obtain ⟨Ao16, co16, eo16⟩ := Kd.R_slice HO_9.out
   subst eo16
   go_wp2_with (first | (go_at_call 58; (with_reducible refine (spec_l15Reach.calls k1 a0 _ _ l1 _ _ x9_1 a2 t197 _ ?side1 ?side2 ?side3 ?side4 A9.out).mono ?_); (case side1 => exact cb_ HR1 HB); (case side2 => exact HC1.out); (case side3 => exact ca (Kd.R_reads' HO_9.out).2.2); (case side4 => exact (Kd.R_reads' HO_9.out).2.1); rintro e w17 ⟨v198, rfl, ho0, hb⟩; have HO199 := Aside0.mk (Kd.R_lower (Kd.R_new' ho0 (rl_ HO_9)) (below_size (hB HB))); replace HO_9 := re_ HO_9 ho0 hb; replace HB := bst_ HB hb; clear hb ho0; obtain ⟨Ao18, co18, eo18⟩ := Kd.R_slice HO199.out; subst eo18; have p200 : 0 ≤ (a3 : Int) := od_; have q200 : a3 < (t197.length : Int) := od_; obtain ⟨ad200, e200, hx200_0⟩ := Kd.at_int (Kd.R_reads' HO199.out).2.2 a3 p200 q200; cases e200; replace p200 := eq_true p200; replace q200 := eq_true q200))
   repeat (go_quiet (first | (go_at_call 58; (with_reducible refine (spec_l15Reach.calls k1 a0 _ _ l1 _ _ x9_1 a2 t197 _ ?side1 ?side2 ?side3 ?side4 A9.out).mono ?_); (case side1 => exact cb_ HR1 HB); (case side2 => exact HC1.out); (case side3 => exact ca (Kd.R_reads' HO_9.out).2.2); (case side4 => exact (Kd.R_reads' HO_9.out).2.1); rintro e w17 ⟨v198, rfl, ho0, hb⟩; have HO199 := Aside0.mk (Kd.R_lower (Kd.R_new' ho0 (rl_ HO_9)) (below_size (hB HB))); replace HO_9 := re_ HO_9 ho0 hb; replace HB := bst_ HB hb; clear hb ho0; obtain ⟨Ao18, co18, eo18⟩ := Kd.R_slice HO199.out; subst eo18; have p200 : 0 ≤ (a3 : Int) := od_; have q200 : a3 < (t197.length : Int) := od_; obtain ⟨ad200, e200, hx200_0⟩ := Kd.at_int (Kd.R_reads' HO199.out).2.2 a3 p200 q200; cases e200; replace p200 := eq_true p200; replace q200 := eq_true q200)); try go_wp2_with (first | (go_at_call 58; (with_reducible refine (spec_l15Reach.calls k1 a0 _ _ l1 _ _ x9_1 a2 t197 _ ?side1 ?side2 ?side3 ?side4 A9.out).mono ?_); (case side1 => exact cb_ HR1 HB); (case side2 => exact HC1.out); (case side3 => exact ca (Kd.R_reads' HO_9.out).2.2); (case side4 => exact (Kd.R_reads' HO_9.out).2.1); rintro e w17 ⟨v198, rfl, ho0, hb⟩; have HO199 := Aside0.mk (Kd.R_lower (Kd.R_new' ho0 (rl_ HO_9)) (below_size (hB HB))); replace HO_9 := re_ HO_9 ho0 hb; replace HB := bst_ HB hb; clear hb ho0; obtain ⟨Ao18, co18, eo18⟩ := Kd.R_slice HO199.out; subst eo18; have p200 : 0 ≤ (a3 : Int) := od_; have q200 : a3 < (t197.length : Int) := od_; obtain ⟨ad200, e200, hx200_0⟩ := Kd.at_int (Kd.R_reads' HO199.out).2.2 a3 p200 q200; cases e200; replace p200 := eq_true p200; replace q200 := eq_true q200)))
   go_loopg [11] k1 (fun kq v11 w' => ∃ (x9_2 : List Int) (x11_2 : Int), v11 = .int .i64 x11_2 ∧ Aside0 (spec_l15Flow.l1 kq a0 l1 a2 a3 x9_2 t197 x11_2 = some r) ∧ Aside0 (kq ≤ k1) ∧ Aside0 (Kd.R (Kd.int .i64) 3 w' w.heap.size (fun k_ => some k_ ≠ ((.slice (some ad200) t197.length co18) : Value).ownBlock) (.slice Ao16 x9_1.length co16) x9_2) ∧ Aside0 (Kd.R (Kd.int .i64) 3 w' w.heap.size (fun k_ => no_ (.slice Ao16 x9_1.length co16) k_) (.slice (some ad200) t197.length co18) t197) ∧ Aside0 (Below w.heap.size w w'))
   case atStart => exact ⟨(x9_1), (a3), (by first | rfl | (simp; done) | (simp [*]; done)), H', ⟨Nat.le_refl _⟩, rm_ HO_9 (fun _ hk => hk.2), rm_ HO199 (fun _ hk => hk.2), ⟨hB HB⟩⟩
   case round =>
    clear H'
    try clear c1
    try clear c5
    try clear c5b0
    try clear c5b1
    try clear c6
    try clear c6b0
    try clear c6b1
    try clear c10
    try clear c10b0
    try clear c11
    try clear c11b0
    try clear c12
    try clear c12b0
    try clear c12b1
    try clear hx200_0
    try clear p200
    try clear q200
    obtain ⟨x9_2, x11_2, rfl, HA, HK2, HO_9, HO_10, HB⟩ := hrel
    have hl9_2 := (Kd.R_reads' HO_9.out).1
    rw [hl9_2] at HO_9
    (try simp only [hl9_2])
    (try simp only [hl9_2] at HO_10)
    cases gk with
    | zero => exact absurd HA.out (by simp [spec_l15Flow.l1])
    | succ k2 =>
     have H := HA.out
     clear HA
     simp only [spec_l15Flow.l1] at H
     by_cases c19 : x11_2 = a2
     ·rw [if_pos c19] at H
      have c19b0 : (x11_2 == a2) = true := beq_iff_eq.mpr c19
      have c19b1 : (x11_2 != a2) = false := bne_eq_false_iff_eq.mpr c19
      clear c19
      have H' := Aside0.mk H
      clear H
      go_wp2
      repeat (go_quiet (fail); try go_wp2)
      (try simp only [← hl9_2])
      go_roundg k2
      case measure => have := HK1.out; have := HK2.out; omega
      case rel => exact ⟨(x9_2), H', ⟨by have := HK1.out; have := HK2.out; omega⟩, ⟨by (try simp only [hl9_2]); (with_reducible repeat (first | apply Kd.R_alloc | apply Kd.R_drewN | apply Kd.R_drew)); exact Kd.R_mono HO_9.out (fun _ hk => trivial)⟩, ⟨hB HB⟩⟩
     rw [if_neg c19] at H
     have c19b0 : (x11_2 == a2) = false := beq_eq_false_iff_ne.mpr c19
     have c19b1 : (x11_2 != a2) = true := bne_iff_ne.mpr c19
     by_cases c20 : 0 ≤ x11_2
     rotate_left
     ·rw [if_neg c20] at H
      exact absurd H (by simp)
     rw [if_pos c20] at H
     have c20b0 : decide (0 ≤ x11_2) = true := decide_eq_true c20
     clear c20
     by_cases c21 : x11_2 < (t197.length : Int)
     rotate_left
     ·rw [if_neg c21] at H
      exact absurd H (by simp)
     rw [if_pos c21] at H
     have c21b0 : decide (x11_2 < (t197.length : Int)) = true := decide_eq_true c21
     clear c21
     replace H := Option.bind_eq_some_iff.mp H
     obtain ⟨t202, A220, H⟩ := H
     replace H : (if 0 ≤ t202 then (if t202 < (l1.length : Int) then (if ((rd_T47 l1 t202).f0) = (rd t197 x11_2) then (if t202 < (x9_2.length : Int) then (spec_l15Flow.l1 k2 a0 l1 a2 a3 (x9_2.set (t202 : Int).toNat (wrap64 ((rd x9_2 t202) + 1))) t197 (rd t197 x11_2)) else (none)) else (if t202 < (x9_2.length : Int) then (spec_l15Flow.l1 k2 a0 l1 a2 a3 (x9_2.set (t202 : Int).toNat (wrap64 ((rd x9_2 t202) - 1))) t197 (rd t197 x11_2)) else (none))) else (none)) else (none)) = some r := H
     have A22 := Aside0.mk A220
     clear A220
     by_cases c23 : 0 ≤ t202
     rotate_left
     ·rw [if_neg c23] at H
      exact absurd H (by simp)
     rw [if_pos c23] at H
     have c23b0 : decide (0 ≤ t202) = true := decide_eq_true c23
     clear c23
     by_cases c24 : t202 < (l1.length : Int)
     rotate_left
     ·rw [if_neg c24] at H
      exact absurd H (by simp)
     rw [if_pos c24] at H
     have c24b0 : decide (t202 < (l1.length : Int)) = true := decide_eq_true c24
     clear c24
     by_cases c25 : ((rd_T47 l1 t202).f0) = (rd t197 x11_2)
     rotate_left
     ·rw [if_neg c25] at H
      have c25b0 : (((rd_T47 l1 t202).f0) == (rd t197 x11_2)) = false := beq_eq_false_iff_ne.mpr c25
      have c25b1 : (((rd_T47 l1 t202).f0) != (rd t197 x11_2)) = true := bne_iff_ne.mpr c25
      by_cases c31 : t202 < (x9_2.length : Int)
      rotate_left
      ·rw [if_neg c31] at H
       exact absurd H (by simp)
      rw [if_pos c31] at H
      have c31b0 : decide (t202 < (x9_2.length : Int)) = true := decide_eq_true c31
      clear c31
      obtain ⟨y209, hy209⟩ : ∃ y_ : List Int, y_ = (x9_2.set (t202 : Int).toNat (wrap64 ((rd x9_2 t202) - 1))) := ⟨_, rfl⟩
      replace H : (spec_l15Flow.l1 k2 a0 l1 a2 a3 y209 t197 (rd t197 x11_2)) = some r := by first | (rw [hy209]; with_reducible exact H) | (have H2_ := (Option.bind_some _ _).symm.trans H; rw [hy209]; with_reducible exact H2_) | (have H2_ := (Option.bind_some _ _).symm.trans H; with_reducible exact H2_) | with_reducible exact H | (rw [hy209]; exact H) | exact H
      have Ny209 := Aside0.mk hy209
      clear hy209
      have H' := Aside0.mk H
      clear H
      have p201 : 0 ≤ (x11_2 : Int) := od_
      have q201 : x11_2 < (t197.length : Int) := od_
      obtain ⟨ad201, e201, hx201_0⟩ := Kd.at_int (Kd.R_reads' HO_10.out).2.2 x11_2 p201 q201
      obtain rfl : ad200 = ad201 := (by injection e201)
      replace p201 := eq_true p201
      replace q201 := eq_true q201
      go_wp2_with (first | (go_at_call 90; (with_reducible refine (spec_l15Number.calls k2 _ _ l1 (rd t197 x11_2) x11_2 t202 _ ?side1 ?side2 A22.out).mono ?_); (case side1 => exact cb_ HR1 HB); (case side2 => exact HC1.out); rintro e w33 ⟨rfl, hb⟩; replace HO_9 := rb_ HO_9 hb; replace HO_10 := rb_ HO_10 hb; replace HB := bst_ HB hb; clear hb; have p203 : 0 ≤ (t202 : Int) := od_; have q203 : t202 < (l1.length : Int) := od_; obtain ⟨ad203, e203, hx203_0, hx203_1, hx203_2⟩ := at_T47 HR1.out t202 p203 q203; cases e203; replace hx203_0 := hc_ HB hx203_0; replace hx203_1 := hc_ HB hx203_1; replace hx203_2 := hc_ HB hx203_2; replace p203 := eq_true p203; replace q203 := eq_true q203; have p204 : 0 ≤ (x11_2 : Int) := od_; have q204 : x11_2 < (t197.length : Int) := od_; obtain ⟨ad204, e204, hx204_0⟩ := Kd.at_int (Kd.R_reads' HO_10.out).2.2 x11_2 p204 q204; obtain rfl : ad200 = ad204 := (by injection e204); replace p204 := eq_true p204; replace q204 := eq_true q204; have p208 : 0 ≤ (t202 : Int) := od_; have q208 : t202 < (x9_2.length : Int) := od_; obtain ⟨ad208, e208, hx208_0⟩ := Kd.at_int (Kd.R_reads' HO_9.out).2.2 t202 p208 q208; cases e208; replace p208 := eq_true p208; replace q208 := eq_true q208; have p32 : 0 ≤ (t202 : Int) := od_; have q32 : (t202 : Int) < ((x9_2.length : Int) : Int) := od_; obtain ⟨go32, co32, eo32, gb32, gl32, cl32, HG32⟩ := Kd.R_form HO_9.out (by omega); (first | cases eo32 | (injection eo32 with ea_ en_ ec_; (first | subst ea_ | (injection ea_ with ea_; subst ea_)); subst ec_; clear en_)); have GB32 := Aside0.mk gb32; have GG32 := Aside0.mk HG32; clear gb32 gl32 HG32; (first | simp only [add_plain] at hx208_0 | skip); obtain ⟨hx32_0, hf32_0⟩ := Kd.R_celln 0 HO_9.out (t202 : Int) p32 q32; replace p32 := eq_true p32; replace q32 := eq_true q32; obtain ⟨hy34_, hz34_⟩ := Kd.R_celln 0 HO_9.out (t202 : Int) (od_) (od_); have HP34 := Kd.R_putg HO_9.out (t202 : Int) (wrap64 ((rd x9_2 t202) - 1))) | ((with_reducible refine gate_store (t := 3) (p := 63) rfl ?_); (try (rw [drewN_self w33]; generalize hq_ : World.drewN w33 _ = w33; replace HO_9 := Aside0.mk (Kd.R_at hq_ HO_9.out); replace HO_10 := Aside0.mk (Kd.R_at hq_ HO_10.out); replace HB := Aside0.mk (below_at hq_ HB.out); clear hq_; (try (obtain ⟨hy34_, hz34_⟩ := Kd.R_celln 0 HO_9.out (t202 : Int) (od_) (od_))); (try (have HP34 := Kd.R_putg HO_9.out (t202 : Int) (wrap64 ((rd x9_2 t202) - 1)))))); refine store_event (t := 3) (p := 63) (v := ?vo_w35) (w1 := (w33.setCell ⟨go32, (t202 : Int).toNat, none⟩ (.int .i64 (wrap64 ((rd x9_2 t202) - 1))))) ?hg ?ho ?hn ?hr ?_; (case ho => rfl); (case hg => rfl); (case hn => rfl); (case hr => first | (go_simp; done) | (go_simp; rfl)); intro w35 hw; have hg : w33.grownBy w35 (some go32) := (by rw [hw]; exact HP34.2); have hp_ : Kd.R (Kd.int .i64) 3 w35 w.heap.size (fun k_ => some k_ ≠ (.slice (some ad200) t197.length co18 : Value).ownBlock) (.slice (some ⟨go32, 0, none⟩) x9_2.length co16) y209 := (by rw [hw, Ny209.out]; exact HP34.1); clear HP34; replace HO_9 := Aside0.mk (hp_); replace HO_10 := Aside0.mk (Kd.R_after (v := (.slice (some ⟨go32, 0, none⟩) x9_2.length co16)) (v1 := (.slice (some ⟨go32, 0, none⟩) x9_2.length co16)) (ok := (fun _ => True)) (rm_ HO_10 (fun _ hk => ⟨trivial, hk⟩)).out hg (.inl rfl)); replace HB := Aside0.mk ((by rw [hw]; exact below_set (HB.out) GB32.out : Below w.heap.size w w35)); clear hg hw hp_; have p210 : 0 ≤ (x11_2 : Int) := od_; have q210 : x11_2 < (t197.length : Int) := od_; obtain ⟨ad210, e210, hx210_0⟩ := Kd.at_int (Kd.R_reads' HO_10.out).2.2 x11_2 p210 q210; obtain rfl : ad200 = ad210 := (by injection e210); replace p210 := eq_true p210; replace q210 := eq_true q210))
      repeat (go_quiet (first | (go_at_call 90; (with_reducible refine (spec_l15Number.calls k2 _ _ l1 (rd t197 x11_2) x11_2 t202 _ ?side1 ?side2 A22.out).mono ?_); (case side1 => exact cb_ HR1 HB); (case side2 => exact HC1.out); rintro e w33 ⟨rfl, hb⟩; replace HO_9 := rb_ HO_9 hb; replace HO_10 := rb_ HO_10 hb; replace HB := bst_ HB hb; clear hb; have p203 : 0 ≤ (t202 : Int) := od_; have q203 : t202 < (l1.length : Int) := od_; obtain ⟨ad203, e203, hx203_0, hx203_1, hx203_2⟩ := at_T47 HR1.out t202 p203 q203; cases e203; replace hx203_0 := hc_ HB hx203_0; replace hx203_1 := hc_ HB hx203_1; replace hx203_2 := hc_ HB hx203_2; replace p203 := eq_true p203; replace q203 := eq_true q203; have p204 : 0 ≤ (x11_2 : Int) := od_; have q204 : x11_2 < (t197.length : Int) := od_; obtain ⟨ad204, e204, hx204_0⟩ := Kd.at_int (Kd.R_reads' HO_10.out).2.2 x11_2 p204 q204; obtain rfl : ad200 = ad204 := (by injection e204); replace p204 := eq_true p204; replace q204 := eq_true q204; have p208 : 0 ≤ (t202 : Int) := od_; have q208 : t202 < (x9_2.length : Int) := od_; obtain ⟨ad208, e208, hx208_0⟩ := Kd.at_int (Kd.R_reads' HO_9.out).2.2 t202 p208 q208; cases e208; replace p208 := eq_true p208; replace q208 := eq_true q208; have p32 : 0 ≤ (t202 : Int) := od_; have q32 : (t202 : Int) < ((x9_2.length : Int) : Int) := od_; obtain ⟨go32, co32, eo32, gb32, gl32, cl32, HG32⟩ := Kd.R_form HO_9.out (by omega); (first | cases eo32 | (injection eo32 with ea_ en_ ec_; (first | subst ea_ | (injection ea_ with ea_; subst ea_)); subst ec_; clear en_)); have GB32 := Aside0.mk gb32; have GG32 := Aside0.mk HG32; clear gb32 gl32 HG32; (first | simp only [add_plain] at hx208_0 | skip); obtain ⟨hx32_0, hf32_0⟩ := Kd.R_celln 0 HO_9.out (t202 : Int) p32 q32; replace p32 := eq_true p32; replace q32 := eq_true q32; obtain ⟨hy34_, hz34_⟩ := Kd.R_celln 0 HO_9.out (t202 : Int) (od_) (od_); have HP34 := Kd.R_putg HO_9.out (t202 : Int) (wrap64 ((rd x9_2 t202) - 1))) | ((with_reducible refine gate_store (t := 3) (p := 63) rfl ?_); (try (rw [drewN_self w33]; generalize hq_ : World.drewN w33 _ = w33; replace HO_9 := Aside0.mk (Kd.R_at hq_ HO_9.out); replace HO_10 := Aside0.mk (Kd.R_at hq_ HO_10.out); replace HB := Aside0.mk (below_at hq_ HB.out); clear hq_; (try (obtain ⟨hy34_, hz34_⟩ := Kd.R_celln 0 HO_9.out (t202 : Int) (od_) (od_))); (try (have HP34 := Kd.R_putg HO_9.out (t202 : Int) (wrap64 ((rd x9_2 t202) - 1)))))); refine store_event (t := 3) (p := 63) (v := ?vo_w35) (w1 := (w33.setCell ⟨go32, (t202 : Int).toNat, none⟩ (.int .i64 (wrap64 ((rd x9_2 t202) - 1))))) ?hg ?ho ?hn ?hr ?_; (case ho => rfl); (case hg => rfl); (case hn => rfl); (case hr => first | (go_simp; done) | (go_simp; rfl)); intro w35 hw; have hg : w33.grownBy w35 (some go32) := (by rw [hw]; exact HP34.2); have hp_ : Kd.R (Kd.int .i64) 3 w35 w.heap.size (fun k_ => some k_ ≠ (.slice (some ad200) t197.length co18 : Value).ownBlock) (.slice (some ⟨go32, 0, none⟩) x9_2.length co16) y209 := (by rw [hw, Ny209.out]; exact HP34.1); clear HP34; replace HO_9 := Aside0.mk (hp_); replace HO_10 := Aside0.mk (Kd.R_after (v := (.slice (some ⟨go32, 0, none⟩) x9_2.length co16)) (v1 := (.slice (some ⟨go32, 0, none⟩) x9_2.length co16)) (ok := (fun _ => True)) (rm_ HO_10 (fun _ hk => ⟨trivial, hk⟩)).out hg (.inl rfl)); replace HB := Aside0.mk ((by rw [hw]; exact below_set (HB.out) GB32.out : Below w.heap.size w w35)); clear hg hw hp_; have p210 : 0 ≤ (x11_2 : Int) := od_; have q210 : x11_2 < (t197.length : Int) := od_; obtain ⟨ad210, e210, hx210_0⟩ := Kd.at_int (Kd.R_reads' HO_10.out).2.2 x11_2 p210 q210; obtain rfl : ad200 = ad210 := (by injection e210); replace p210 := eq_true p210; replace q210 := eq_true q210)); try go_wp2_with (first | (go_at_call 90; (with_reducible refine (spec_l15Number.calls k2 _ _ l1 (rd t197 x11_2) x11_2 t202 _ ?side1 ?side2 A22.out).mono ?_); (case side1 => exact cb_ HR1 HB); (case side2 => exact HC1.out); rintro e w33 ⟨rfl, hb⟩; replace HO_9 := rb_ HO_9 hb; replace HO_10 := rb_ HO_10 hb; replace HB := bst_ HB hb; clear hb; have p203 : 0 ≤ (t202 : Int) := od_; have q203 : t202 < (l1.length : Int) := od_; obtain ⟨ad203, e203, hx203_0, hx203_1, hx203_2⟩ := at_T47 HR1.out t202 p203 q203; cases e203; replace hx203_0 := hc_ HB hx203_0; replace hx203_1 := hc_ HB hx203_1; replace hx203_2 := hc_ HB hx203_2; replace p203 := eq_true p203; replace q203 := eq_true q203; have p204 : 0 ≤ (x11_2 : Int) := od_; have q204 : x11_2 < (t197.length : Int) := od_; obtain ⟨ad204, e204, hx204_0⟩ := Kd.at_int (Kd.R_reads' HO_10.out).2.2 x11_2 p204 q204; obtain rfl : ad200 = ad204 := (by injection e204); replace p204 := eq_true p204; replace q204 := eq_true q204; have p208 : 0 ≤ (t202 : Int) := od_; have q208 : t202 < (x9_2.length : Int) := od_; obtain ⟨ad208, e208, hx208_0⟩ := Kd.at_int (Kd.R_reads' HO_9.out).2.2 t202 p208 q208; cases e208; replace p208 := eq_true p208; replace q208 := eq_true q208; have p32 : 0 ≤ (t202 : Int) := od_; have q32 : (t202 : Int) < ((x9_2.length : Int) : Int) := od_; obtain ⟨go32, co32, eo32, gb32, gl32, cl32, HG32⟩ := Kd.R_form HO_9.out (by omega); (first | cases eo32 | (injection eo32 with ea_ en_ ec_; (first | subst ea_ | (injection ea_ with ea_; subst ea_)); subst ec_; clear en_)); have GB32 := Aside0.mk gb32; have GG32 := Aside0.mk HG32; clear gb32 gl32 HG32; (first | simp only [add_plain] at hx208_0 | skip); obtain ⟨hx32_0, hf32_0⟩ := Kd.R_celln 0 HO_9.out (t202 : Int) p32 q32; replace p32 := eq_true p32; replace q32 := eq_true q32; obtain ⟨hy34_, hz34_⟩ := Kd.R_celln 0 HO_9.out (t202 : Int) (od_) (od_); have HP34 := Kd.R_putg HO_9.out (t202 : Int) (wrap64 ((rd x9_2 t202) - 1))) | ((with_reducible refine gate_store (t := 3) (p := 63) rfl ?_); (try (rw [drewN_self w33]; generalize hq_ : World.drewN w33 _ = w33; replace HO_9 := Aside0.mk (Kd.R_at hq_ HO_9.out); replace HO_10 := Aside0.mk (Kd.R_at hq_ HO_10.out); replace HB := Aside0.mk (below_at hq_ HB.out); clear hq_; (try (obtain ⟨hy34_, hz34_⟩ := Kd.R_celln 0 HO_9.out (t202 : Int) (od_) (od_))); (try (have HP34 := Kd.R_putg HO_9.out (t202 : Int) (wrap64 ((rd x9_2 t202) - 1)))))); refine store_event (t := 3) (p := 63) (v := ?vo_w35) (w1 := (w33.setCell ⟨go32, (t202 : Int).toNat, none⟩ (.int .i64 (wrap64 ((rd x9_2 t202) - 1))))) ?hg ?ho ?hn ?hr ?_; (case ho => rfl); (case hg => rfl); (case hn => rfl); (case hr => first | (go_simp; done) | (go_simp; rfl)); intro w35 hw; have hg : w33.grownBy w35 (some go32) := (by rw [hw]; exact HP34.2); have hp_ : Kd.R (Kd.int .i64) 3 w35 w.heap.size (fun k_ => some k_ ≠ (.slice (some ad200) t197.length co18 : Value).ownBlock) (.slice (some ⟨go32, 0, none⟩) x9_2.length co16) y209 := (by rw [hw, Ny209.out]; exact HP34.1); clear HP34; replace HO_9 := Aside0.mk (hp_); replace HO_10 := Aside0.mk (Kd.R_after (v := (.slice (some ⟨go32, 0, none⟩) x9_2.length co16)) (v1 := (.slice (some ⟨go32, 0, none⟩) x9_2.length co16)) (ok := (fun _ => True)) (rm_ HO_10 (fun _ hk => ⟨trivial, hk⟩)).out hg (.inl rfl)); replace HB := Aside0.mk ((by rw [hw]; exact below_set (HB.out) GB32.out : Below w.heap.size w w35)); clear hg hw hp_; have p210 : 0 ≤ (x11_2 : Int) := od_; have q210 : x11_2 < (t197.length : Int) := od_; obtain ⟨ad210, e210, hx210_0⟩ := Kd.at_int (Kd.R_reads' HO_10.out).2.2 x11_2 p210 q210; obtain rfl : ad200 = ad210 := (by injection e210); replace p210 := eq_true p210; replace q210 := eq_true q210)))
      (try simp only [← hl9_2])
      go_roundg k2
      case measure => have := HK1.out; have := HK2.out; omega
      case rel => exact ⟨(y209), (rd t197 x11_2), (by first | rfl | (simp; done) | (simp [*]; done)), H', ⟨by have := HK1.out; have := HK2.out; omega⟩, ⟨by (try simp only [hl9_2]); (with_reducible repeat (first | apply Kd.R_alloc | apply Kd.R_drewN | apply Kd.R_drew)); exact HO_9.out⟩, ⟨by (try simp only [hl9_2]); (with_reducible repeat (first | apply Kd.R_alloc | apply Kd.R_drewN | apply Kd.R_drew)); exact Kd.R_mono HO_10.out (fun _ hk => hk.2)⟩, ⟨hB HB⟩⟩
     rw [if_pos c25] at H
     have c25b0 : (((rd_T47 l1 t202).f0) == (rd t197 x11_2)) = true := beq_iff_eq.mpr c25
     have c25b1 : (((rd_T47 l1 t202).f0) != (rd t197 x11_2)) = false := bne_eq_false_iff_eq.mpr c25
     clear c25
     by_cases c26 : t202 < (x9_2.length : Int)
     rotate_left
     ·rw [if_neg c26] at H
      exact absurd H (by simp)
     rw [if_pos c26] at H
     have c26b0 : decide (t202 < (x9_2.length : Int)) = true := decide_eq_true c26
     clear c26
     obtain ⟨y206, hy206⟩ : ∃ y_ : List Int, y_ = (x9_2.set (t202 : Int).toNat (wrap64 ((rd x9_2 t202) + 1))) := ⟨_, rfl⟩
     replace H : (spec_l15Flow.l1 k2 a0 l1 a2 a3 y206 t197 (rd t197 x11_2)) = some r := by first | (rw [hy206]; with_reducible exact H) | (have H2_ := (Option.bind_some _ _).symm.trans H; rw [hy206]; with_reducible exact H2_) | (have H2_ := (Option.bind_some _ _).symm.trans H; with_reducible exact H2_) | with_reducible exact H | (rw [hy206]; exact H) | exact H
     have Ny206 := Aside0.mk hy206
     clear hy206
     have H' := Aside0.mk H
     clear H
     have p201 : 0 ≤ (x11_2 : Int) := od_
     have q201 : x11_2 < (t197.length : Int) := od_
     obtain ⟨ad201, e201, hx201_0⟩ := Kd.at_int (Kd.R_reads' HO_10.out).2.2 x11_2 p201 q201
     obtain rfl : ad200 = ad201 := (by injection e201)
     replace p201 := eq_true p201
     replace q201 := eq_true q201
     go_wp2_with (first | (go_at_call 90; (with_reducible refine (spec_l15Number.calls k2 _ _ l1 (rd t197 x11_2) x11_2 t202 _ ?side1 ?side2 A22.out).mono ?_); (case side1 => exact cb_ HR1 HB); (case side2 => exact HC1.out); rintro e w28 ⟨rfl, hb⟩; replace HO_9 := rb_ HO_9 hb; replace HO_10 := rb_ HO_10 hb; replace HB := bst_ HB hb; clear hb; have p203 : 0 ≤ (t202 : Int) := od_; have q203 : t202 < (l1.length : Int) := od_; obtain ⟨ad203, e203, hx203_0, hx203_1, hx203_2⟩ := at_T47 HR1.out t202 p203 q203; cases e203; replace hx203_0 := hc_ HB hx203_0; replace hx203_1 := hc_ HB hx203_1; replace hx203_2 := hc_ HB hx203_2; replace p203 := eq_true p203; replace q203 := eq_true q203; have p204 : 0 ≤ (x11_2 : Int) := od_; have q204 : x11_2 < (t197.length : Int) := od_; obtain ⟨ad204, e204, hx204_0⟩ := Kd.at_int (Kd.R_reads' HO_10.out).2.2 x11_2 p204 q204; obtain rfl : ad200 = ad204 := (by injection e204); replace p204 := eq_true p204; replace q204 := eq_true q204; have p205 : 0 ≤ (t202 : Int) := od_; have q205 : t202 < (x9_2.length : Int) := od_; obtain ⟨ad205, e205, hx205_0⟩ := Kd.at_int (Kd.R_reads' HO_9.out).2.2 t202 p205 q205; cases e205; replace p205 := eq_true p205; replace q205 := eq_true q205; have p27 : 0 ≤ (t202 : Int) := od_; have q27 : (t202 : Int) < ((x9_2.length : Int) : Int) := od_; obtain ⟨go27, co27, eo27, gb27, gl27, cl27, HG27⟩ := Kd.R_form HO_9.out (by omega); (first | cases eo27 | (injection eo27 with ea_ en_ ec_; (first | subst ea_ | (injection ea_ with ea_; subst ea_)); subst ec_; clear en_)); have GB27 := Aside0.mk gb27; have GG27 := Aside0.mk HG27; clear gb27 gl27 HG27; (first | simp only [add_plain] at hx205_0 | skip); obtain ⟨hx27_0, hf27_0⟩ := Kd.R_celln 0 HO_9.out (t202 : Int) p27 q27; replace p27 := eq_true p27; replace q27 := eq_true q27; obtain ⟨hy29_, hz29_⟩ := Kd.R_celln 0 HO_9.out (t202 : Int) (od_) (od_); have HP29 := Kd.R_putg HO_9.out (t202 : Int) (wrap64 ((rd x9_2 t202) + 1))) | ((with_reducible refine gate_store (t := 3) (p := 57) rfl ?_); (try (rw [drewN_self w28]; generalize hq_ : World.drewN w28 _ = w28; replace HO_9 := Aside0.mk (Kd.R_at hq_ HO_9.out); replace HO_10 := Aside0.mk (Kd.R_at hq_ HO_10.out); replace HB := Aside0.mk (below_at hq_ HB.out); clear hq_; (try (obtain ⟨hy29_, hz29_⟩ := Kd.R_celln 0 HO_9.out (t202 : Int) (od_) (od_))); (try (have HP29 := Kd.R_putg HO_9.out (t202 : Int) (wrap64 ((rd x9_2 t202) + 1)))))); refine store_event (t := 3) (p := 57) (v := ?vo_w30) (w1 := (w28.setCell ⟨go27, (t202 : Int).toNat, none⟩ (.int .i64 (wrap64 ((rd x9_2 t202) + 1))))) ?hg ?ho ?hn ?hr ?_; (case ho => rfl); (case hg => rfl); (case hn => rfl); (case hr => first | (go_simp; done) | (go_simp; rfl)); intro w30 hw; have hg : w28.grownBy w30 (some go27) := (by rw [hw]; exact HP29.2); have hp_ : Kd.R (Kd.int .i64) 3 w30 w.heap.size (fun k_ => some k_ ≠ (.slice (some ad200) t197.length co18 : Value).ownBlock) (.slice (some ⟨go27, 0, none⟩) x9_2.length co16) y206 := (by rw [hw, Ny206.out]; exact HP29.1); clear HP29; replace HO_9 := Aside0.mk (hp_); replace HO_10 := Aside0.mk (Kd.R_after (v := (.slice (some ⟨go27, 0, none⟩) x9_2.length co16)) (v1 := (.slice (some ⟨go27, 0, none⟩) x9_2.length co16)) (ok := (fun _ => True)) (rm_ HO_10 (fun _ hk => ⟨trivial, hk⟩)).out hg (.inl rfl)); replace HB := Aside0.mk ((by rw [hw]; exact below_set (HB.out) GB27.out : Below w.heap.size w w30)); clear hg hw hp_; have p207 : 0 ≤ (x11_2 : Int) := od_; have q207 : x11_2 < (t197.length : Int) := od_; obtain ⟨ad207, e207, hx207_0⟩ := Kd.at_int (Kd.R_reads' HO_10.out).2.2 x11_2 p207 q207; obtain rfl : ad200 = ad207 := (by injection e207); replace p207 := eq_true p207; replace q207 := eq_true q207))
     repeat (go_quiet (first | (go_at_call 90; (with_reducible refine (spec_l15Number.calls k2 _ _ l1 (rd t197 x11_2) x11_2 t202 _ ?side1 ?side2 A22.out).mono ?_); (case side1 => exact cb_ HR1 HB); (case side2 => exact HC1.out); rintro e w28 ⟨rfl, hb⟩; replace HO_9 := rb_ HO_9 hb; replace HO_10 := rb_ HO_10 hb; replace HB := bst_ HB hb; clear hb; have p203 : 0 ≤ (t202 : Int) := od_; have q203 : t202 < (l1.length : Int) := od_; obtain ⟨ad203, e203, hx203_0, hx203_1, hx203_2⟩ := at_T47 HR1.out t202 p203 q203; cases e203; replace hx203_0 := hc_ HB hx203_0; replace hx203_1 := hc_ HB hx203_1; replace hx203_2 := hc_ HB hx203_2; replace p203 := eq_true p203; replace q203 := eq_true q203; have p204 : 0 ≤ (x11_2 : Int) := od_; have q204 : x11_2 < (t197.length : Int) := od_; obtain ⟨ad204, e204, hx204_0⟩ := Kd.at_int (Kd.R_reads' HO_10.out).2.2 x11_2 p204 q204; obtain rfl : ad200 = ad204 := (by injection e204); replace p204 := eq_true p204; replace q204 := eq_true q204; have p205 : 0 ≤ (t202 : Int) := od_; have q205 : t202 < (x9_2.length : Int) := od_; obtain ⟨ad205, e205, hx205_0⟩ := Kd.at_int (Kd.R_reads' HO_9.out).2.2 t202 p205 q205; cases e205; replace p205 := eq_true p205; replace q205 := eq_true q205; have p27 : 0 ≤ (t202 : Int) := od_; have q27 : (t202 : Int) < ((x9_2.length : Int) : Int) := od_; obtain ⟨go27, co27, eo27, gb27, gl27, cl27, HG27⟩ := Kd.R_form HO_9.out (by omega); (first | cases eo27 | (injection eo27 with ea_ en_ ec_; (first | subst ea_ | (injection ea_ with ea_; subst ea_)); subst ec_; clear en_)); have GB27 := Aside0.mk gb27; have GG27 := Aside0.mk HG27; clear gb27 gl27 HG27; (first | simp only [add_plain] at hx205_0 | skip); obtain ⟨hx27_0, hf27_0⟩ := Kd.R_celln 0 HO_9.out (t202 : Int) p27 q27; replace p27 := eq_true p27; replace q27 := eq_true q27; obtain ⟨hy29_, hz29_⟩ := Kd.R_celln 0 HO_9.out (t202 : Int) (od_) (od_); have HP29 := Kd.R_putg HO_9.out (t202 : Int) (wrap64 ((rd x9_2 t202) + 1))) | ((with_reducible refine gate_store (t := 3) (p := 57) rfl ?_); (try (rw [drewN_self w28]; generalize hq_ : World.drewN w28 _ = w28; replace HO_9 := Aside0.mk (Kd.R_at hq_ HO_9.out); replace HO_10 := Aside0.mk (Kd.R_at hq_ HO_10.out); replace HB := Aside0.mk (below_at hq_ HB.out); clear hq_; (try (obtain ⟨hy29_, hz29_⟩ := Kd.R_celln 0 HO_9.out (t202 : Int) (od_) (od_))); (try (have HP29 := Kd.R_putg HO_9.out (t202 : Int) (wrap64 ((rd x9_2 t202) + 1)))))); refine store_event (t := 3) (p := 57) (v := ?vo_w30) (w1 := (w28.setCell ⟨go27, (t202 : Int).toNat, none⟩ (.int .i64 (wrap64 ((rd x9_2 t202) + 1))))) ?hg ?ho ?hn ?hr ?_; (case ho => rfl); (case hg => rfl); (case hn => rfl); (case hr => first | (go_simp; done) | (go_simp; rfl)); intro w30 hw; have hg : w28.grownBy w30 (some go27) := (by rw [hw]; exact HP29.2); have hp_ : Kd.R (Kd.int .i64) 3 w30 w.heap.size (fun k_ => some k_ ≠ (.slice (some ad200) t197.length co18 : Value).ownBlock) (.slice (some ⟨go27, 0, none⟩) x9_2.length co16) y206 := (by rw [hw, Ny206.out]; exact HP29.1); clear HP29; replace HO_9 := Aside0.mk (hp_); replace HO_10 := Aside0.mk (Kd.R_after (v := (.slice (some ⟨go27, 0, none⟩) x9_2.length co16)) (v1 := (.slice (some ⟨go27, 0, none⟩) x9_2.length co16)) (ok := (fun _ => True)) (rm_ HO_10 (fun _ hk => ⟨trivial, hk⟩)).out hg (.inl rfl)); replace HB := Aside0.mk ((by rw [hw]; exact below_set (HB.out) GB27.out : Below w.heap.size w w30)); clear hg hw hp_; have p207 : 0 ≤ (x11_2 : Int) := od_; have q207 : x11_2 < (t197.length : Int) := od_; obtain ⟨ad207, e207, hx207_0⟩ := Kd.at_int (Kd.R_reads' HO_10.out).2.2 x11_2 p207 q207; obtain rfl : ad200 = ad207 := (by injection e207); replace p207 := eq_true p207; replace q207 := eq_true q207)); try go_wp2_with (first | (go_at_call 90; (with_reducible refine (spec_l15Number.calls k2 _ _ l1 (rd t197 x11_2) x11_2 t202 _ ?side1 ?side2 A22.out).mono ?_); (case side1 => exact cb_ HR1 HB); (case side2 => exact HC1.out); rintro e w28 ⟨rfl, hb⟩; replace HO_9 := rb_ HO_9 hb; replace HO_10 := rb_ HO_10 hb; replace HB := bst_ HB hb; clear hb; have p203 : 0 ≤ (t202 : Int) := od_; have q203 : t202 < (l1.length : Int) := od_; obtain ⟨ad203, e203, hx203_0, hx203_1, hx203_2⟩ := at_T47 HR1.out t202 p203 q203; cases e203; replace hx203_0 := hc_ HB hx203_0; replace hx203_1 := hc_ HB hx203_1; replace hx203_2 := hc_ HB hx203_2; replace p203 := eq_true p203; replace q203 := eq_true q203; have p204 : 0 ≤ (x11_2 : Int) := od_; have q204 : x11_2 < (t197.length : Int) := od_; obtain ⟨ad204, e204, hx204_0⟩ := Kd.at_int (Kd.R_reads' HO_10.out).2.2 x11_2 p204 q204; obtain rfl : ad200 = ad204 := (by injection e204); replace p204 := eq_true p204; replace q204 := eq_true q204; have p205 : 0 ≤ (t202 : Int) := od_; have q205 : t202 < (x9_2.length : Int) := od_; obtain ⟨ad205, e205, hx205_0⟩ := Kd.at_int (Kd.R_reads' HO_9.out).2.2 t202 p205 q205; cases e205; replace p205 := eq_true p205; replace q205 := eq_true q205; have p27 : 0 ≤ (t202 : Int) := od_; have q27 : (t202 : Int) < ((x9_2.length : Int) : Int) := od_; obtain ⟨go27, co27, eo27, gb27, gl27, cl27, HG27⟩ := Kd.R_form HO_9.out (by omega); (first | cases eo27 | (injection eo27 with ea_ en_ ec_; (first | subst ea_ | (injection ea_ with ea_; subst ea_)); subst ec_; clear en_)); have GB27 := Aside0.mk gb27; have GG27 := Aside0.mk HG27; clear gb27 gl27 HG27; (first | simp only [add_plain] at hx205_0 | skip); obtain ⟨hx27_0, hf27_0⟩ := Kd.R_celln 0 HO_9.out (t202 : Int) p27 q27; replace p27 := eq_true p27; replace q27 := eq_true q27; obtain ⟨hy29_, hz29_⟩ := Kd.R_celln 0 HO_9.out (t202 : Int) (od_) (od_); have HP29 := Kd.R_putg HO_9.out (t202 : Int) (wrap64 ((rd x9_2 t202) + 1))) | ((with_reducible refine gate_store (t := 3) (p := 57) rfl ?_); (try (rw [drewN_self w28]; generalize hq_ : World.drewN w28 _ = w28; replace HO_9 := Aside0.mk (Kd.R_at hq_ HO_9.out); replace HO_10 := Aside0.mk (Kd.R_at hq_ HO_10.out); replace HB := Aside0.mk (below_at hq_ HB.out); clear hq_; (try (obtain ⟨hy29_, hz29_⟩ := Kd.R_celln 0 HO_9.out (t202 : Int) (od_) (od_))); (try (have HP29 := Kd.R_putg HO_9.out (t202 : Int) (wrap64 ((rd x9_2 t202) + 1)))))); refine store_event (t := 3) (p := 57) (v := ?vo_w30) (w1 := (w28.setCell ⟨go27, (t202 : Int).toNat, none⟩ (.int .i64 (wrap64 ((rd x9_2 t202) + 1))))) ?hg ?ho ?hn ?hr ?_; (case ho => rfl); (case hg => rfl); (case hn => rfl); (case hr => first | (go_simp; done) | (go_simp; rfl)); intro w30 hw; have hg : w28.grownBy w30 (some go27) := (by rw [hw]; exact HP29.2); have hp_ : Kd.R (Kd.int .i64) 3 w30 w.heap.size (fun k_ => some k_ ≠ (.slice (some ad200) t197.length co18 : Value).ownBlock) (.slice (some ⟨go27, 0, none⟩) x9_2.length co16) y206 := (by rw [hw, Ny206.out]; exact HP29.1); clear HP29; replace HO_9 := Aside0.mk (hp_); replace HO_10 := Aside0.mk (Kd.R_after (v := (.slice (some ⟨go27, 0, none⟩) x9_2.length co16)) (v1 := (.slice (some ⟨go27, 0, none⟩) x9_2.length co16)) (ok := (fun _ => True)) (rm_ HO_10 (fun _ hk => ⟨trivial, hk⟩)).out hg (.inl rfl)); replace HB := Aside0.mk ((by rw [hw]; exact below_set (HB.out) GB27.out : Below w.heap.size w w30)); clear hg hw hp_; have p207 : 0 ≤ (x11_2 : Int) := od_; have q207 : x11_2 < (t197.length : Int) := od_; obtain ⟨ad207, e207, hx207_0⟩ := Kd.at_int (Kd.R_reads' HO_10.out).2.2 x11_2 p207 q207; obtain rfl : ad200 = ad207 := (by injection e207); replace p207 := eq_true p207; replace q207 := eq_true q207)))
     (try simp only [← hl9_2])
     go_roundg k2
     case measure => have := HK1.out; have := HK2.out; omega
     case rel => exact ⟨(y206), (rd t197 x11_2), (by first | rfl | (simp; done) | (simp [*]; done)), H', ⟨by have := HK1.out; have := HK2.out; omega⟩, ⟨by (try simp only [hl9_2]); (with_reducible repeat (first | apply Kd.R_alloc | apply Kd.R_drewN | apply Kd.R_drew)); exact HO_9.out⟩, ⟨by (try simp only [hl9_2]); (with_reducible repeat (first | apply Kd.R_alloc | apply Kd.R_drewN | apply Kd.R_drew)); exact Kd.R_mono HO_10.out (fun _ hk => hk.2)⟩, ⟨hB HB⟩⟩

def spec_l15Next.l0 : Nat → List (S47) → List Int → Int → List Int → Int → Int → Option (Int × List Int)
 | 0, _, _, _, _, _, _ => none
 | k + 1, x0, x1, x2, x12, x13, x14 => if x14 < x13 then (if 0 ≤ x14 then (if x14 < (x12.length : Int) then ((spec_l15Number.f k x0 x2 (rd x12 x14)).bind fun t324 => (if 0 ≤ t324 then (if t324 < (x0.length : Int) then (if ((rd_T47 x0 t324).f0) = x2 then (if t324 < (x1.length : Int) then (if (rd x1 t324) = 1 then (some (rd x12 x14, (x1.set (t324 : Int).toNat 0))) else (if ((rd_T47 x0 t324).f1) = x2 then (if (rd x1 t324) = (-1) then (some (rd x12 x14, (x1.set (t324 : Int).toNat 0))) else (spec_l15Next.l0 k x0 x1 x2 x12 x13 (wrap64 (x14 + 1)))) else (spec_l15Next.l0 k x0 x1 x2 x12 x13 (wrap64 (x14 + 1))))) else (none)) else (if ((rd_T47 x0 t324).f1) = x2 then (if t324 < (x1.length : Int) then (if (rd x1 t324) = (-1) then (some (rd x12 x14, (x1.set (t324 : Int).toNat 0))) else (spec_l15Next.l0 k x0 x1 x2 x12 x13 (wrap64 (x14 + 1)))) else (none)) else (spec_l15Next.l0 k x0 x1 x2 x12 x13 (wrap64 (x14 + 1))))) else (none)) else (none))) else (none)) else (none)) else (some ((-1), x1))
def spec_l15Next.f (k : Nat) (l0 : List (S47)) (l1 : List Int) (a2 : Int) : Option (Int × List Int) := (spec_l8Near.f k l0 a2).bind fun t320 => (spec_l15Next.l0 k l0 l1 a2 t320 (t320.length : Int) 0)
theorem spec_l15Next.mono_l : ∀ k, (∀ y0 y1 y2 y3 y4 y5, LeO (spec_l15Next.l0 k y0 y1 y2 y3 y4 y5) (spec_l15Next.l0 (k + 1) y0 y1 y2 y3 y4 y5))
 | 0 => fun _ _ _ _ _ _ r h => by simp [spec_l15Next.l0] at h
 | k + 1 => by
  have ih0 := spec_l15Next.mono_l k
  ·intro y0 y1 y2 y3 y4 y5
   unfold spec_l15Next.l0
   repeat' first
   | (with_reducible exact ih0 _ _ _ _ _ _)
   | (with_reducible exact spec_l15Number.mono _ _ _ _)
   | (with_reducible exact spec_l8Near.mono _ _ _)
   | with_reducible first | exact LeO.refl _ | exact LeO.none _ | refine LeO.ite ?_ ?_ | refine LeO.bind ?_ fun _ => ?_
theorem spec_l15Next.mono : ∀ a0 a1 a2 k, LeO (spec_l15Next.f k a0 a1 a2) (spec_l15Next.f (k + 1) a0 a1 a2) := by
 intro a0 a1 a2 k
 have ih0 := spec_l15Next.mono_l k
 unfold spec_l15Next.f
 repeat' first
   | (with_reducible exact ih0 _ _ _ _ _ _)
   | (with_reducible exact spec_l15Number.mono _ _ _ _)
   | (with_reducible exact spec_l8Near.mono _ _ _)
   | with_reducible first | exact LeO.refl _ | exact LeO.none _ | refine LeO.ite ?_ ?_ | refine LeO.bind ?_ fun _ => ?_
set_option maxHeartbeats 8000000 in
set_option maxRecDepth 100000 in
theorem spec_l15Next.calls (k : Nat) (A0 : Option Addr) (c0 : Nat) (l0 : List (S47)) (P1_ : Nat → Prop) (u9000_ : Value) (l1 : List Int) (a2 : Int) (r1 : Int) (r2 : List Int) (w0 w : World) (hB : Below w0.heap.size w0 w) (hr0 : ∀ W_, Kept w W_ (fun k_ => P1_ k_) → Kd.C k47 W_ A0 l0.length l0) (hc0 : l0.length ≤ c0) (ho1 : Kd.R (Kd.int .i64) 3 w w0.heap.size P1_ u9000_ l1) (h : spec_l15Next.f k l0 l1 a2 = some (r1, r2)) :
  Calls Try.prog 108 #[.slice A0 l0.length c0, u9000_, .int .i64 a2] w fun e w' => e = .returned (.int .i64 r1) ∧ Kd.R (Kd.int .i64) 3 w' w0.heap.size (fun k_ => (P1_ k_ ∨ w.heap.size ≤ k_)) u9000_ r2 ∧ Below w0.heap.size w0 w' ∧ Kept w w' (fun k_ => P1_ k_) := by
 have HR0 := Aside0.mk hr0
 have HC0 := Aside0.mk hc0
 clear hr0 hc0
 have HO1 := Aside0.mk (show Kd.R (Kd.int .i64) 3 w w0.heap.size (fun k_ => (P1_ k_ ∨ w.heap.size ≤ k_)) u9000_ l1 from Kd.R_mono ho1 (fun k_ hk => (.inl hk)))
 have HK := Aside0.mk (Kept.refl w (fun k_ => P1_ k_))
 have HW0 := Aside0.mk hB.size
 have HB := Aside0.mk hB
 clear hB
 have H : ((spec_l8Near.f k l0 a2).bind fun t320 => (spec_l15Next.l0 k l0 l1 a2 t320 (t320.length : Int) 0)) = some (r1, r2) := h
 clear h
 replace H := Option.bind_eq_some_iff.mp H
 obtain ⟨t320, A40, H⟩ := H
 replace H : (spec_l15Next.l0 k l0 l1 a2 t320 (t320.length : Int) 0) = some (r1, r2) := H
 have A4 := Aside0.mk A40
 clear A40
 have H' := Aside0.mk H
 clear H
 go_enter Try.func108, Try.ntmps108
 go_wp2_with (first | ((with_reducible refine gate_dst (N := 12) rfl ?_); refine goesL_ (some 12) rfl rfl Try.func103 (by kernel_rfl) rfl #[.slice A0 l0.length c0, .int .i64 a2] rfl tm_ ?_; (with_reducible refine (spec_l8Near.calls k _ _ l0 a2 t320 _ ?side1 ?side2 A4.out).mono ?_); (case side1 => exact Kd.C_kept_now HR0.out (hk_ HK)); (case side2 => exact HC0.out); rintro e w5 ⟨v321, rfl, ho0, hb⟩; refine ⟨_, rfl, ?_⟩; have HO322 := Aside0.mk (Kd.R_lower (Kd.R_new' (Kd.R_newM (M := fun k_ => (P1_ k_ ∨ w.heap.size ≤ k_)) ho0 (by first | exact HK.out.1 | exact (show Kept w _ (fun k_ => P1_ k_) from hk_ HK).1) (fun k_ h_ => .inr h_)) (rl_ HO1)) (below_size (hB HB))); replace HO1 := re_ HO1 ho0 hb; replace HK := Aside0.mk (Kept.below (S := (fun k_ => P1_ k_)) (hk_ HK) hb); replace HB := bst_ HB hb; clear hb ho0; obtain ⟨Ao6, co6, eo6⟩ := Kd.R_slice HO322.out; subst eo6))
 go_loopg [14] k (fun kq v14 w' => ∃ (x1_1 : List Int) (x14_1 : Int), v14 = .int .i64 x14_1 ∧ Aside0 (spec_l15Next.l0 kq l0 x1_1 a2 t320 (t320.length : Int) x14_1 = some (r1, r2)) ∧ Aside0 (kq ≤ k) ∧ Aside0 (Kd.R (Kd.int .i64) 3 w' w0.heap.size (fun k_ => (P1_ k_ ∨ w.heap.size ≤ k_) ∧ no_ (.slice Ao6 t320.length co6) k_) u9000_ x1_1) ∧ Aside0 (Kd.R (Kd.int .i64) 3 w' w0.heap.size (fun k_ => (P1_ k_ ∨ w.heap.size ≤ k_) ∧ some k_ ≠ (u9000_ : Value).ownBlock) (.slice Ao6 t320.length co6) t320) ∧ Aside0 (Kept w w' (fun k_ => P1_ k_)) ∧ Aside0 (Below w0.heap.size w0 w'))
 case atStart => exact ⟨(l1), (0), (by first | rfl | (simp; done) | (simp [*]; done)), H', ⟨Nat.le_refl _⟩, ⟨ra HO1.out⟩, rm_ HO322 (fun _ hk => ⟨hk.1.1, hk.2⟩), ⟨hk_ HK⟩, ⟨hB HB⟩⟩
 case round =>
  clear H'
  obtain ⟨x1_1, x14_1, rfl, HA, HK1, HO_1, HO_12, HK, HB⟩ := hrel
  cases gk with
  | zero => exact absurd HA.out (by simp [spec_l15Next.l0])
  | succ k1 =>
   have H := HA.out
   clear HA
   simp only [spec_l15Next.l0] at H
   by_cases c7 : x14_1 < (t320.length : Int)
   rotate_left
   ·rw [if_neg c7] at H
    have c7b0 : decide (x14_1 < (t320.length : Int)) = false := decide_eq_false c7
    clear c7
    simp only [Option.some.injEq, Prod.mk.injEq] at H
    obtain ⟨rfl, rfl⟩ := H
    go_wp2
    go_ret
    exact ⟨rt_, by (with_reducible repeat (first | apply Kd.R_alloc | apply Kd.R_drewN | apply Kd.R_drew)); exact Kd.R_mono HO_1.out (fun _ hk => hk.1), hB HB, hk_ HK⟩
   rw [if_pos c7] at H
   have c7b0 : decide (x14_1 < (t320.length : Int)) = true := decide_eq_true c7
   clear c7
   by_cases c8 : 0 ≤ x14_1
   rotate_left
   ·rw [if_neg c8] at H
    exact absurd H (by simp)
   rw [if_pos c8] at H
   have c8b0 : decide (0 ≤ x14_1) = true := decide_eq_true c8
   clear c8
   by_cases c9 : x14_1 < (t320.length : Int)
   rotate_left
   ·rw [if_neg c9] at H
    exact absurd H (by simp)
   rw [if_pos c9] at H
   have c9b0 : decide (x14_1 < (t320.length : Int)) = true := decide_eq_true c9
   clear c9
   replace H := Option.bind_eq_some_iff.mp H
   obtain ⟨t324, A100, H⟩ := H
   replace H : (if 0 ≤ t324 then (if t324 < (l0.length : Int) then (if ((rd_T47 l0 t324).f0) = a2 then (if t324 < (x1_1.length : Int) then (if (rd x1_1 t324) = 1 then (some (rd t320 x14_1, (x1_1.set (t324 : Int).toNat 0))) else (if ((rd_T47 l0 t324).f1) = a2 then (if (rd x1_1 t324) = (-1) then (some (rd t320 x14_1, (x1_1.set (t324 : Int).toNat 0))) else (spec_l15Next.l0 k1 l0 x1_1 a2 t320 (t320.length : Int) (wrap64 (x14_1 + 1)))) else (spec_l15Next.l0 k1 l0 x1_1 a2 t320 (t320.length : Int) (wrap64 (x14_1 + 1))))) else (none)) else (if ((rd_T47 l0 t324).f1) = a2 then (if t324 < (x1_1.length : Int) then (if (rd x1_1 t324) = (-1) then (some (rd t320 x14_1, (x1_1.set (t324 : Int).toNat 0))) else (spec_l15Next.l0 k1 l0 x1_1 a2 t320 (t320.length : Int) (wrap64 (x14_1 + 1)))) else (none)) else (spec_l15Next.l0 k1 l0 x1_1 a2 t320 (t320.length : Int) (wrap64 (x14_1 + 1))))) else (none)) else (none)) = some (r1, r2) := H
   have A10 := Aside0.mk A100
   clear A100
   by_cases c11 : 0 ≤ t324
   rotate_left
   ·rw [if_neg c11] at H
    exact absurd H (by simp)
   rw [if_pos c11] at H
   have c11b0 : decide (0 ≤ t324) = true := decide_eq_true c11
   clear c11
   by_cases c12 : t324 < (l0.length : Int)
   rotate_left
   ·rw [if_neg c12] at H
    exact absurd H (by simp)
   rw [if_pos c12] at H
   have c12b0 : decide (t324 < (l0.length : Int)) = true := decide_eq_true c12
   clear c12
   by_cases c13 : ((rd_T47 l0 t324).f0) = a2
   rotate_left
   ·rw [if_neg c13] at H
    have c13b0 : (((rd_T47 l0 t324).f0) == a2) = false := beq_eq_false_iff_ne.mpr c13
    have c13b1 : (((rd_T47 l0 t324).f0) != a2) = true := bne_iff_ne.mpr c13
    by_cases c32 : ((rd_T47 l0 t324).f1) = a2
    rotate_left
    ·rw [if_neg c32] at H
     have c32b0 : (((rd_T47 l0 t324).f1) == a2) = false := beq_eq_false_iff_ne.mpr c32
     have c32b1 : (((rd_T47 l0 t324).f1) != a2) = true := bne_iff_ne.mpr c32
     have H' := Aside0.mk H
     clear H
     have p323 : 0 ≤ (x14_1 : Int) := od_
     have q323 : x14_1 < (t320.length : Int) := od_
     obtain ⟨ad323, e323, hx323_0⟩ := Kd.at_int (Kd.R_reads' HO_12.out).2.2 x14_1 p323 q323
     cases e323
     replace p323 := eq_true p323
     replace q323 := eq_true q323
     go_wp2_with (first | ((with_reducible refine gate_dst (N := 21) rfl ?_); refine goesL_ (some 21) rfl rfl Try.func90 (by kernel_rfl) rfl #[.slice A0 l0.length c0, .int .i64 a2, .int .i64 (rd t320 x14_1)] rfl tm_ ?_; (with_reducible refine (spec_l15Number.calls k1 _ _ l0 a2 (rd t320 x14_1) t324 _ ?side1 ?side2 A10.out).mono ?_); (case side1 => exact Kd.C_kept_now HR0.out (hk_ HK)); (case side2 => exact HC0.out); rintro e w42 ⟨rfl, hb⟩; refine ⟨_, rfl, ?_⟩; replace HO_1 := rb_ HO_1 hb; replace HO_12 := rb_ HO_12 hb; replace HK := Aside0.mk (Kept.below (S := (fun k_ => P1_ k_)) (hk_ HK) hb); replace HB := bst_ HB hb; clear hb; have p325 : 0 ≤ (t324 : Int) := od_; have q325 : t324 < (l0.length : Int) := od_; obtain ⟨ad325, e325, hx325_0, hx325_1, hx325_2⟩ := at_T47 (Kd.C_kept_now HR0.out HK.out) t324 p325 q325; cases e325; replace p325 := eq_true p325; replace q325 := eq_true q325; have p331 : 0 ≤ (t324 : Int) := od_; have q331 : t324 < (l0.length : Int) := od_; obtain ⟨ad331, e331, hx331_0, hx331_1, hx331_2⟩ := at_T47 (Kd.C_kept_now HR0.out HK.out) t324 p331 q331; obtain rfl : ad325 = ad331 := (by injection e331); replace p331 := eq_true p331; replace q331 := eq_true q331))
     go_roundg k1
     case measure => have := HK1.out; omega
     case rel => exact ⟨(x1_1), (wrap64 (x14_1 + 1)), (by first | rfl | (simp; done) | (simp [*]; done)), H', ⟨by have := HK1.out; omega⟩, ⟨ra HO_1.out⟩, ⟨ra HO_12.out⟩, ⟨hk_ HK⟩, ⟨hB HB⟩⟩
    rw [if_pos c32] at H
    have c32b0 : (((rd_T47 l0 t324).f1) == a2) = true := beq_iff_eq.mpr c32
    have c32b1 : (((rd_T47 l0 t324).f1) != a2) = false := bne_eq_false_iff_eq.mpr c32
    clear c32
    by_cases c33 : t324 < (x1_1.length : Int)
    rotate_left
    ·rw [if_neg c33] at H
     exact absurd H (by simp)
    rw [if_pos c33] at H
    have c33b0 : decide (t324 < (x1_1.length : Int)) = true := decide_eq_true c33
    clear c33
    by_cases c34 : (rd x1_1 t324) = (-1)
    rotate_left
    ·rw [if_neg c34] at H
     have c34b0 : ((rd x1_1 t324) == (-1)) = false := beq_eq_false_iff_ne.mpr c34
     have c34b1 : ((rd x1_1 t324) != (-1)) = true := bne_iff_ne.mpr c34
     have H' := Aside0.mk H
     clear H
     have p323 : 0 ≤ (x14_1 : Int) := od_
     have q323 : x14_1 < (t320.length : Int) := od_
     obtain ⟨ad323, e323, hx323_0⟩ := Kd.at_int (Kd.R_reads' HO_12.out).2.2 x14_1 p323 q323
     cases e323
     replace p323 := eq_true p323
     replace q323 := eq_true q323
     go_wp2_with (first | ((with_reducible refine gate_dst (N := 21) rfl ?_); refine goesL_ (some 21) rfl rfl Try.func90 (by kernel_rfl) rfl #[.slice A0 l0.length c0, .int .i64 a2, .int .i64 (rd t320 x14_1)] rfl tm_ ?_; (with_reducible refine (spec_l15Number.calls k1 _ _ l0 a2 (rd t320 x14_1) t324 _ ?side1 ?side2 A10.out).mono ?_); (case side1 => exact Kd.C_kept_now HR0.out (hk_ HK)); (case side2 => exact HC0.out); rintro e w40 ⟨rfl, hb⟩; refine ⟨_, rfl, ?_⟩; replace HO_1 := rb_ HO_1 hb; replace HO_12 := rb_ HO_12 hb; replace HK := Aside0.mk (Kept.below (S := (fun k_ => P1_ k_)) (hk_ HK) hb); replace HB := bst_ HB hb; clear hb; have p325 : 0 ≤ (t324 : Int) := od_; have q325 : t324 < (l0.length : Int) := od_; obtain ⟨ad325, e325, hx325_0, hx325_1, hx325_2⟩ := at_T47 (Kd.C_kept_now HR0.out HK.out) t324 p325 q325; cases e325; replace p325 := eq_true p325; replace q325 := eq_true q325; have p331 : 0 ≤ (t324 : Int) := od_; have q331 : t324 < (l0.length : Int) := od_; obtain ⟨ad331, e331, hx331_0, hx331_1, hx331_2⟩ := at_T47 (Kd.C_kept_now HR0.out HK.out) t324 p331 q331; obtain rfl : ad325 = ad331 := (by injection e331); replace p331 := eq_true p331; replace q331 := eq_true q331; obtain ⟨Ao41, co41, eo41⟩ := Kd.R_slice HO_1.out; subst eo41; have p332 : 0 ≤ (t324 : Int) := od_; have q332 : t324 < (x1_1.length : Int) := od_; obtain ⟨ad332, e332, hx332_0⟩ := Kd.at_int (Kd.R_reads' HO_1.out).2.2 t324 p332 q332; cases e332; replace p332 := eq_true p332; replace q332 := eq_true q332))
     go_roundg k1
     case measure => have := HK1.out; omega
     case rel => exact ⟨(x1_1), (wrap64 (x14_1 + 1)), (by first | rfl | (simp; done) | (simp [*]; done)), H', ⟨by have := HK1.out; omega⟩, ⟨ra HO_1.out⟩, ⟨ra HO_12.out⟩, ⟨hk_ HK⟩, ⟨hB HB⟩⟩
    rw [if_pos c34] at H
    have c34b0 : ((rd x1_1 t324) == (-1)) = true := beq_iff_eq.mpr c34
    have c34b1 : ((rd x1_1 t324) != (-1)) = false := bne_eq_false_iff_eq.mpr c34
    clear c34
    obtain ⟨y333, hy333⟩ : ∃ y_ : List Int, y_ = (x1_1.set (t324 : Int).toNat 0) := ⟨_, rfl⟩
    replace H : (some (rd t320 x14_1, y333)) = some (r1, r2) := by first | (rw [hy333]; with_reducible exact H) | (have H2_ := (Option.bind_some _ _).symm.trans H; rw [hy333]; with_reducible exact H2_) | (have H2_ := (Option.bind_some _ _).symm.trans H; with_reducible exact H2_) | with_reducible exact H | (rw [hy333]; exact H) | exact H
    have Ny333 := Aside0.mk hy333
    clear hy333
    simp only [Option.some.injEq, Prod.mk.injEq] at H
    obtain ⟨rfl, rfl⟩ := H
    have p323 : 0 ≤ (x14_1 : Int) := od_
    have q323 : x14_1 < (t320.length : Int) := od_
    obtain ⟨ad323, e323, hx323_0⟩ := Kd.at_int (Kd.R_reads' HO_12.out).2.2 x14_1 p323 q323
    cases e323
    replace p323 := eq_true p323
    replace q323 := eq_true q323
    go_wp2_with (first | ((with_reducible refine gate_dst (N := 21) rfl ?_); refine goesL_ (some 21) rfl rfl Try.func90 (by kernel_rfl) rfl #[.slice A0 l0.length c0, .int .i64 a2, .int .i64 (rd t320 x14_1)] rfl tm_ ?_; (with_reducible refine (spec_l15Number.calls k1 _ _ l0 a2 (rd t320 x14_1) t324 _ ?side1 ?side2 A10.out).mono ?_); (case side1 => exact Kd.C_kept_now HR0.out (hk_ HK)); (case side2 => exact HC0.out); rintro e w36 ⟨rfl, hb⟩; refine ⟨_, rfl, ?_⟩; replace HO_1 := rb_ HO_1 hb; replace HO_12 := rb_ HO_12 hb; replace HK := Aside0.mk (Kept.below (S := (fun k_ => P1_ k_)) (hk_ HK) hb); replace HB := bst_ HB hb; clear hb; have p325 : 0 ≤ (t324 : Int) := od_; have q325 : t324 < (l0.length : Int) := od_; obtain ⟨ad325, e325, hx325_0, hx325_1, hx325_2⟩ := at_T47 (Kd.C_kept_now HR0.out HK.out) t324 p325 q325; cases e325; replace p325 := eq_true p325; replace q325 := eq_true q325; have p331 : 0 ≤ (t324 : Int) := od_; have q331 : t324 < (l0.length : Int) := od_; obtain ⟨ad331, e331, hx331_0, hx331_1, hx331_2⟩ := at_T47 (Kd.C_kept_now HR0.out HK.out) t324 p331 q331; obtain rfl : ad325 = ad331 := (by injection e331); replace p331 := eq_true p331; replace q331 := eq_true q331; obtain ⟨Ao37, co37, eo37⟩ := Kd.R_slice HO_1.out; subst eo37; have p332 : 0 ≤ (t324 : Int) := od_; have q332 : t324 < (x1_1.length : Int) := od_; obtain ⟨ad332, e332, hx332_0⟩ := Kd.at_int (Kd.R_reads' HO_1.out).2.2 t324 p332 q332; cases e332; replace p332 := eq_true p332; replace q332 := eq_true q332; have p35 : 0 ≤ (t324 : Int) := od_; have q35 : (t324 : Int) < ((x1_1.length : Int) : Int) := od_; obtain ⟨go35, co35, eo35, gb35, gl35, cl35, HG35⟩ := Kd.R_form HO_1.out (by omega); (first | cases eo35 | (injection eo35 with ea_ en_ ec_; (first | subst ea_ | (injection ea_ with ea_; subst ea_)); subst ec_; clear en_)); have GB35 := Aside0.mk gb35; have GG35 := Aside0.mk HG35; clear gb35 gl35 HG35; have HMgo35 := Aside0.mk (show (P1_ go35 ∨ w.heap.size ≤ go35) from (HO_1.out.1 _ rfl).1); (first | simp only [add_plain] at hx332_0 | skip); obtain ⟨hx35_0, hf35_0⟩ := Kd.R_celln 0 HO_1.out (t324 : Int) p35 q35; replace p35 := eq_true p35; replace q35 := eq_true q35; obtain ⟨hy38_, hz38_⟩ := Kd.R_celln 0 HO_1.out (t324 : Int) (od_) (od_); have HP38 := Kd.R_putg HO_1.out (t324 : Int) 0) | ((with_reducible refine gate_store (t := 3) (p := 54) rfl ?_); refine store_event (t := 3) (p := 54) (v := ?vo_w39) (w1 := (w36.setCell ⟨go35, (t324 : Int).toNat, none⟩ (.int .i64 0))) ?hg ?ho ?hn ?hr ?_; (case ho => rfl); (case hg => rfl); (case hn => rfl); (case hr => first | (go_simp; done) | (go_simp; rfl)); intro w39 hw; have hg : w36.grownBy w39 (some go35) := (by rw [hw]; exact HP38.2); have hp_ : Kd.R (Kd.int .i64) 3 w39 w0.heap.size (fun k_ => (P1_ k_ ∨ w.heap.size ≤ k_) ∧ some k_ ≠ (.slice (some ad323) t320.length co6 : Value).ownBlock) (.slice (some ⟨go35, 0, none⟩) x1_1.length co37) y333 := (by rw [hw, Ny333.out]; exact HP38.1); clear HP38; replace HO_12 := Aside0.mk (Kd.R_after (v := (.slice (some ⟨go35, 0, none⟩) x1_1.length co37)) (v1 := (.slice (some ⟨go35, 0, none⟩) x1_1.length co37)) (ok := (fun k_ => (P1_ k_ ∨ w.heap.size ≤ k_))) (ra HO_12.out) hg (.inl rfl)); replace HB := Aside0.mk ((by rw [hw]; exact below_set (HB.out) GB35.out : Below w0.heap.size w0 w39)); replace HK := Aside0.mk (Kept.of_grown (S := (fun k_ => P1_ k_)) hg (hk_ HK) (fun k_ e_ => (HO_1.out.1 k_ e_).1)); replace HO_1 := Aside0.mk (hp_); clear hg hw hp_))
    go_ret
    exact ⟨rt_, by (with_reducible repeat (first | apply Kd.R_alloc | apply Kd.R_drewN | apply Kd.R_drew)); exact Kd.R_mono HO_1.out (fun _ hk => hk.1), hB HB, hk_ HK⟩
   rw [if_pos c13] at H
   have c13b0 : (((rd_T47 l0 t324).f0) == a2) = true := beq_iff_eq.mpr c13
   have c13b1 : (((rd_T47 l0 t324).f0) != a2) = false := bne_eq_false_iff_eq.mpr c13
   clear c13
   by_cases c14 : t324 < (x1_1.length : Int)
   rotate_left
   ·rw [if_neg c14] at H
    exact absurd H (by simp)
   rw [if_pos c14] at H
   have c14b0 : decide (t324 < (x1_1.length : Int)) = true := decide_eq_true c14
   clear c14
   by_cases c15 : (rd x1_1 t324) = 1
   ·rw [if_pos c15] at H
    have c15b0 : ((rd x1_1 t324) == 1) = true := beq_iff_eq.mpr c15
    have c15b1 : ((rd x1_1 t324) != 1) = false := bne_eq_false_iff_eq.mpr c15
    clear c15
    obtain ⟨y327, hy327⟩ : ∃ y_ : List Int, y_ = (x1_1.set (t324 : Int).toNat 0) := ⟨_, rfl⟩
    replace H : (some (rd t320 x14_1, y327)) = some (r1, r2) := by first | (rw [hy327]; with_reducible exact H) | (have H2_ := (Option.bind_some _ _).symm.trans H; rw [hy327]; with_reducible exact H2_) | (have H2_ := (Option.bind_some _ _).symm.trans H; with_reducible exact H2_) | with_reducible exact H | (rw [hy327]; exact H) | exact H
    have Ny327 := Aside0.mk hy327
    clear hy327
    simp only [Option.some.injEq, Prod.mk.injEq] at H
    obtain ⟨rfl, rfl⟩ := H
    have p323 : 0 ≤ (x14_1 : Int) := od_
    have q323 : x14_1 < (t320.length : Int) := od_
    obtain ⟨ad323, e323, hx323_0⟩ := Kd.at_int (Kd.R_reads' HO_12.out).2.2 x14_1 p323 q323
    cases e323
    replace p323 := eq_true p323
    replace q323 := eq_true q323
    go_wp2_with (first | ((with_reducible refine gate_dst (N := 21) rfl ?_); refine goesL_ (some 21) rfl rfl Try.func90 (by kernel_rfl) rfl #[.slice A0 l0.length c0, .int .i64 a2, .int .i64 (rd t320 x14_1)] rfl tm_ ?_; (with_reducible refine (spec_l15Number.calls k1 _ _ l0 a2 (rd t320 x14_1) t324 _ ?side1 ?side2 A10.out).mono ?_); (case side1 => exact Kd.C_kept_now HR0.out (hk_ HK)); (case side2 => exact HC0.out); rintro e w17 ⟨rfl, hb⟩; refine ⟨_, rfl, ?_⟩; replace HO_1 := rb_ HO_1 hb; replace HO_12 := rb_ HO_12 hb; replace HK := Aside0.mk (Kept.below (S := (fun k_ => P1_ k_)) (hk_ HK) hb); replace HB := bst_ HB hb; clear hb; have p325 : 0 ≤ (t324 : Int) := od_; have q325 : t324 < (l0.length : Int) := od_; obtain ⟨ad325, e325, hx325_0, hx325_1, hx325_2⟩ := at_T47 (Kd.C_kept_now HR0.out HK.out) t324 p325 q325; cases e325; replace p325 := eq_true p325; replace q325 := eq_true q325; obtain ⟨Ao18, co18, eo18⟩ := Kd.R_slice HO_1.out; subst eo18; have p326 : 0 ≤ (t324 : Int) := od_; have q326 : t324 < (x1_1.length : Int) := od_; obtain ⟨ad326, e326, hx326_0⟩ := Kd.at_int (Kd.R_reads' HO_1.out).2.2 t324 p326 q326; cases e326; replace p326 := eq_true p326; replace q326 := eq_true q326; have p16 : 0 ≤ (t324 : Int) := od_; have q16 : (t324 : Int) < ((x1_1.length : Int) : Int) := od_; obtain ⟨go16, co16, eo16, gb16, gl16, cl16, HG16⟩ := Kd.R_form HO_1.out (by omega); (first | cases eo16 | (injection eo16 with ea_ en_ ec_; (first | subst ea_ | (injection ea_ with ea_; subst ea_)); subst ec_; clear en_)); have GB16 := Aside0.mk gb16; have GG16 := Aside0.mk HG16; clear gb16 gl16 HG16; have HMgo16 := Aside0.mk (show (P1_ go16 ∨ w.heap.size ≤ go16) from (HO_1.out.1 _ rfl).1); (first | simp only [add_plain] at hx326_0 | skip); obtain ⟨hx16_0, hf16_0⟩ := Kd.R_celln 0 HO_1.out (t324 : Int) p16 q16; replace p16 := eq_true p16; replace q16 := eq_true q16; obtain ⟨hy19_, hz19_⟩ := Kd.R_celln 0 HO_1.out (t324 : Int) (od_) (od_); have HP19 := Kd.R_putg HO_1.out (t324 : Int) 0) | ((with_reducible refine gate_store (t := 3) (p := 54) rfl ?_); refine store_event (t := 3) (p := 54) (v := ?vo_w20) (w1 := (w17.setCell ⟨go16, (t324 : Int).toNat, none⟩ (.int .i64 0))) ?hg ?ho ?hn ?hr ?_; (case ho => rfl); (case hg => rfl); (case hn => rfl); (case hr => first | (go_simp; done) | (go_simp; rfl)); intro w20 hw; have hg : w17.grownBy w20 (some go16) := (by rw [hw]; exact HP19.2); have hp_ : Kd.R (Kd.int .i64) 3 w20 w0.heap.size (fun k_ => (P1_ k_ ∨ w.heap.size ≤ k_) ∧ some k_ ≠ (.slice (some ad323) t320.length co6 : Value).ownBlock) (.slice (some ⟨go16, 0, none⟩) x1_1.length co18) y327 := (by rw [hw, Ny327.out]; exact HP19.1); clear HP19; replace HO_12 := Aside0.mk (Kd.R_after (v := (.slice (some ⟨go16, 0, none⟩) x1_1.length co18)) (v1 := (.slice (some ⟨go16, 0, none⟩) x1_1.length co18)) (ok := (fun k_ => (P1_ k_ ∨ w.heap.size ≤ k_))) (ra HO_12.out) hg (.inl rfl)); replace HB := Aside0.mk ((by rw [hw]; exact below_set (HB.out) GB16.out : Below w0.heap.size w0 w20)); replace HK := Aside0.mk (Kept.of_grown (S := (fun k_ => P1_ k_)) hg (hk_ HK) (fun k_ e_ => (HO_1.out.1 k_ e_).1)); replace HO_1 := Aside0.mk (hp_); clear hg hw hp_))
    go_ret
    exact ⟨rt_, by (with_reducible repeat (first | apply Kd.R_alloc | apply Kd.R_drewN | apply Kd.R_drew)); exact Kd.R_mono HO_1.out (fun _ hk => hk.1), hB HB, hk_ HK⟩
   rw [if_neg c15] at H
   have c15b0 : ((rd x1_1 t324) == 1) = false := beq_eq_false_iff_ne.mpr c15
   have c15b1 : ((rd x1_1 t324) != 1) = true := bne_iff_ne.mpr c15
   by_cases c21 : ((rd_T47 l0 t324).f1) = a2
   rotate_left
   ·rw [if_neg c21] at H
    have c21b0 : (((rd_T47 l0 t324).f1) == a2) = false := beq_eq_false_iff_ne.mpr c21
    have c21b1 : (((rd_T47 l0 t324).f1) != a2) = true := bne_iff_ne.mpr c21
    have H' := Aside0.mk H
    clear H
    have p323 : 0 ≤ (x14_1 : Int) := od_
    have q323 : x14_1 < (t320.length : Int) := od_
    obtain ⟨ad323, e323, hx323_0⟩ := Kd.at_int (Kd.R_reads' HO_12.out).2.2 x14_1 p323 q323
    cases e323
    replace p323 := eq_true p323
    replace q323 := eq_true q323
    go_wp2_with (first | ((with_reducible refine gate_dst (N := 21) rfl ?_); refine goesL_ (some 21) rfl rfl Try.func90 (by kernel_rfl) rfl #[.slice A0 l0.length c0, .int .i64 a2, .int .i64 (rd t320 x14_1)] rfl tm_ ?_; (with_reducible refine (spec_l15Number.calls k1 _ _ l0 a2 (rd t320 x14_1) t324 _ ?side1 ?side2 A10.out).mono ?_); (case side1 => exact Kd.C_kept_now HR0.out (hk_ HK)); (case side2 => exact HC0.out); rintro e w30 ⟨rfl, hb⟩; refine ⟨_, rfl, ?_⟩; replace HO_1 := rb_ HO_1 hb; replace HO_12 := rb_ HO_12 hb; replace HK := Aside0.mk (Kept.below (S := (fun k_ => P1_ k_)) (hk_ HK) hb); replace HB := bst_ HB hb; clear hb; have p325 : 0 ≤ (t324 : Int) := od_; have q325 : t324 < (l0.length : Int) := od_; obtain ⟨ad325, e325, hx325_0, hx325_1, hx325_2⟩ := at_T47 (Kd.C_kept_now HR0.out HK.out) t324 p325 q325; cases e325; replace p325 := eq_true p325; replace q325 := eq_true q325; obtain ⟨Ao31, co31, eo31⟩ := Kd.R_slice HO_1.out; subst eo31; have p326 : 0 ≤ (t324 : Int) := od_; have q326 : t324 < (x1_1.length : Int) := od_; obtain ⟨ad326, e326, hx326_0⟩ := Kd.at_int (Kd.R_reads' HO_1.out).2.2 t324 p326 q326; cases e326; replace p326 := eq_true p326; replace q326 := eq_true q326; have p328 : 0 ≤ (t324 : Int) := od_; have q328 : t324 < (l0.length : Int) := od_; obtain ⟨ad328, e328, hx328_0, hx328_1, hx328_2⟩ := at_T47 (Kd.C_kept_now HR0.out HK.out) t324 p328 q328; obtain rfl : ad325 = ad328 := (by injection e328); replace p328 := eq_true p328; replace q328 := eq_true q328))
    go_roundg k1
    case measure => have := HK1.out; omega
    case rel => exact ⟨(x1_1), (wrap64 (x14_1 + 1)), (by first | rfl | (simp; done) | (simp [*]; done)), H', ⟨by have := HK1.out; omega⟩, ⟨ra HO_1.out⟩, ⟨ra HO_12.out⟩, ⟨hk_ HK⟩, ⟨hB HB⟩⟩
   rw [if_pos c21] at H
   have c21b0 : (((rd_T47 l0 t324).f1) == a2) = true := beq_iff_eq.mpr c21
   have c21b1 : (((rd_T47 l0 t324).f1) != a2) = false := bne_eq_false_iff_eq.mpr c21
   clear c21
   by_cases c22 : (rd x1_1 t324) = (-1)
   rotate_left
   ·rw [if_neg c22] at H
    have c22b0 : ((rd x1_1 t324) == (-1)) = false := beq_eq_false_iff_ne.mpr c22
    have c22b1 : ((rd x1_1 t324) != (-1)) = true := bne_iff_ne.mpr c22
    have H' := Aside0.mk H
    clear H
    have p323 : 0 ≤ (x14_1 : Int) := od_
    have q323 : x14_1 < (t320.length : Int) := od_
    obtain ⟨ad323, e323, hx323_0⟩ := Kd.at_int (Kd.R_reads' HO_12.out).2.2 x14_1 p323 q323
    cases e323
    replace p323 := eq_true p323
    replace q323 := eq_true q323
    go_wp2_with (first | ((with_reducible refine gate_dst (N := 21) rfl ?_); refine goesL_ (some 21) rfl rfl Try.func90 (by kernel_rfl) rfl #[.slice A0 l0.length c0, .int .i64 a2, .int .i64 (rd t320 x14_1)] rfl tm_ ?_; (with_reducible refine (spec_l15Number.calls k1 _ _ l0 a2 (rd t320 x14_1) t324 _ ?side1 ?side2 A10.out).mono ?_); (case side1 => exact Kd.C_kept_now HR0.out (hk_ HK)); (case side2 => exact HC0.out); rintro e w28 ⟨rfl, hb⟩; refine ⟨_, rfl, ?_⟩; replace HO_1 := rb_ HO_1 hb; replace HO_12 := rb_ HO_12 hb; replace HK := Aside0.mk (Kept.below (S := (fun k_ => P1_ k_)) (hk_ HK) hb); replace HB := bst_ HB hb; clear hb; have p325 : 0 ≤ (t324 : Int) := od_; have q325 : t324 < (l0.length : Int) := od_; obtain ⟨ad325, e325, hx325_0, hx325_1, hx325_2⟩ := at_T47 (Kd.C_kept_now HR0.out HK.out) t324 p325 q325; cases e325; replace p325 := eq_true p325; replace q325 := eq_true q325; obtain ⟨Ao29, co29, eo29⟩ := Kd.R_slice HO_1.out; subst eo29; have p326 : 0 ≤ (t324 : Int) := od_; have q326 : t324 < (x1_1.length : Int) := od_; obtain ⟨ad326, e326, hx326_0⟩ := Kd.at_int (Kd.R_reads' HO_1.out).2.2 t324 p326 q326; cases e326; replace p326 := eq_true p326; replace q326 := eq_true q326; have p328 : 0 ≤ (t324 : Int) := od_; have q328 : t324 < (l0.length : Int) := od_; obtain ⟨ad328, e328, hx328_0, hx328_1, hx328_2⟩ := at_T47 (Kd.C_kept_now HR0.out HK.out) t324 p328 q328; obtain rfl : ad325 = ad328 := (by injection e328); replace p328 := eq_true p328; replace q328 := eq_true q328; have p329 : 0 ≤ (t324 : Int) := od_; have q329 : t324 < (x1_1.length : Int) := od_; obtain ⟨ad329, e329, hx329_0⟩ := Kd.at_int (Kd.R_reads' HO_1.out).2.2 t324 p329 q329; obtain rfl : ad326 = ad329 := (by injection e329); replace p329 := eq_true p329; replace q329 := eq_true q329))
    go_roundg k1
    case measure => have := HK1.out; omega
    case rel => exact ⟨(x1_1), (wrap64 (x14_1 + 1)), (by first | rfl | (simp; done) | (simp [*]; done)), H', ⟨by have := HK1.out; omega⟩, ⟨ra HO_1.out⟩, ⟨ra HO_12.out⟩, ⟨hk_ HK⟩, ⟨hB HB⟩⟩
   rw [if_pos c22] at H
   have c22b0 : ((rd x1_1 t324) == (-1)) = true := beq_iff_eq.mpr c22
   have c22b1 : ((rd x1_1 t324) != (-1)) = false := bne_eq_false_iff_eq.mpr c22
   clear c22
   obtain ⟨y330, hy330⟩ : ∃ y_ : List Int, y_ = (x1_1.set (t324 : Int).toNat 0) := ⟨_, rfl⟩
   replace H : (some (rd t320 x14_1, y330)) = some (r1, r2) := by first | (rw [hy330]; with_reducible exact H) | (have H2_ := (Option.bind_some _ _).symm.trans H; rw [hy330]; with_reducible exact H2_) | (have H2_ := (Option.bind_some _ _).symm.trans H; with_reducible exact H2_) | with_reducible exact H | (rw [hy330]; exact H) | exact H
   have Ny330 := Aside0.mk hy330
   clear hy330
   simp only [Option.some.injEq, Prod.mk.injEq] at H
   obtain ⟨rfl, rfl⟩ := H
   have p323 : 0 ≤ (x14_1 : Int) := od_
   have q323 : x14_1 < (t320.length : Int) := od_
   obtain ⟨ad323, e323, hx323_0⟩ := Kd.at_int (Kd.R_reads' HO_12.out).2.2 x14_1 p323 q323
   cases e323
   replace p323 := eq_true p323
   replace q323 := eq_true q323
   go_wp2_with (first | ((with_reducible refine gate_dst (N := 21) rfl ?_); refine goesL_ (some 21) rfl rfl Try.func90 (by kernel_rfl) rfl #[.slice A0 l0.length c0, .int .i64 a2, .int .i64 (rd t320 x14_1)] rfl tm_ ?_; (with_reducible refine (spec_l15Number.calls k1 _ _ l0 a2 (rd t320 x14_1) t324 _ ?side1 ?side2 A10.out).mono ?_); (case side1 => exact Kd.C_kept_now HR0.out (hk_ HK)); (case side2 => exact HC0.out); rintro e w24 ⟨rfl, hb⟩; refine ⟨_, rfl, ?_⟩; replace HO_1 := rb_ HO_1 hb; replace HO_12 := rb_ HO_12 hb; replace HK := Aside0.mk (Kept.below (S := (fun k_ => P1_ k_)) (hk_ HK) hb); replace HB := bst_ HB hb; clear hb; have p325 : 0 ≤ (t324 : Int) := od_; have q325 : t324 < (l0.length : Int) := od_; obtain ⟨ad325, e325, hx325_0, hx325_1, hx325_2⟩ := at_T47 (Kd.C_kept_now HR0.out HK.out) t324 p325 q325; cases e325; replace p325 := eq_true p325; replace q325 := eq_true q325; obtain ⟨Ao25, co25, eo25⟩ := Kd.R_slice HO_1.out; subst eo25; have p326 : 0 ≤ (t324 : Int) := od_; have q326 : t324 < (x1_1.length : Int) := od_; obtain ⟨ad326, e326, hx326_0⟩ := Kd.at_int (Kd.R_reads' HO_1.out).2.2 t324 p326 q326; cases e326; replace p326 := eq_true p326; replace q326 := eq_true q326; have p328 : 0 ≤ (t324 : Int) := od_; have q328 : t324 < (l0.length : Int) := od_; obtain ⟨ad328, e328, hx328_0, hx328_1, hx328_2⟩ := at_T47 (Kd.C_kept_now HR0.out HK.out) t324 p328 q328; obtain rfl : ad325 = ad328 := (by injection e328); replace p328 := eq_true p328; replace q328 := eq_true q328; have p329 : 0 ≤ (t324 : Int) := od_; have q329 : t324 < (x1_1.length : Int) := od_; obtain ⟨ad329, e329, hx329_0⟩ := Kd.at_int (Kd.R_reads' HO_1.out).2.2 t324 p329 q329; obtain rfl : ad326 = ad329 := (by injection e329); replace p329 := eq_true p329; replace q329 := eq_true q329; have p23 : 0 ≤ (t324 : Int) := od_; have q23 : (t324 : Int) < ((x1_1.length : Int) : Int) := od_; obtain ⟨go23, co23, eo23, gb23, gl23, cl23, HG23⟩ := Kd.R_form HO_1.out (by omega); (first | cases eo23 | (injection eo23 with ea_ en_ ec_; (first | subst ea_ | (injection ea_ with ea_; subst ea_)); subst ec_; clear en_)); have GB23 := Aside0.mk gb23; have GG23 := Aside0.mk HG23; clear gb23 gl23 HG23; have HMgo23 := Aside0.mk (show (P1_ go23 ∨ w.heap.size ≤ go23) from (HO_1.out.1 _ rfl).1); (first | simp only [add_plain] at hx326_0 | skip); (first | simp only [add_plain] at hx329_0 | skip); obtain ⟨hx23_0, hf23_0⟩ := Kd.R_celln 0 HO_1.out (t324 : Int) p23 q23; replace p23 := eq_true p23; replace q23 := eq_true q23; obtain ⟨hy26_, hz26_⟩ := Kd.R_celln 0 HO_1.out (t324 : Int) (od_) (od_); have HP26 := Kd.R_putg HO_1.out (t324 : Int) 0) | ((with_reducible refine gate_store (t := 3) (p := 54) rfl ?_); refine store_event (t := 3) (p := 54) (v := ?vo_w27) (w1 := (w24.setCell ⟨go23, (t324 : Int).toNat, none⟩ (.int .i64 0))) ?hg ?ho ?hn ?hr ?_; (case ho => rfl); (case hg => rfl); (case hn => rfl); (case hr => first | (go_simp; done) | (go_simp; rfl)); intro w27 hw; have hg : w24.grownBy w27 (some go23) := (by rw [hw]; exact HP26.2); have hp_ : Kd.R (Kd.int .i64) 3 w27 w0.heap.size (fun k_ => (P1_ k_ ∨ w.heap.size ≤ k_) ∧ some k_ ≠ (.slice (some ad323) t320.length co6 : Value).ownBlock) (.slice (some ⟨go23, 0, none⟩) x1_1.length co25) y330 := (by rw [hw, Ny330.out]; exact HP26.1); clear HP26; replace HO_12 := Aside0.mk (Kd.R_after (v := (.slice (some ⟨go23, 0, none⟩) x1_1.length co25)) (v1 := (.slice (some ⟨go23, 0, none⟩) x1_1.length co25)) (ok := (fun k_ => (P1_ k_ ∨ w.heap.size ≤ k_))) (ra HO_12.out) hg (.inl rfl)); replace HB := Aside0.mk ((by rw [hw]; exact below_set (HB.out) GB23.out : Below w0.heap.size w0 w27)); replace HK := Aside0.mk (Kept.of_grown (S := (fun k_ => P1_ k_)) hg (hk_ HK) (fun k_ e_ => (HO_1.out.1 k_ e_).1)); replace HO_1 := Aside0.mk (hp_); clear hg hw hp_))
   go_ret
   exact ⟨rt_, by (with_reducible repeat (first | apply Kd.R_alloc | apply Kd.R_drewN | apply Kd.R_drew)); exact Kd.R_mono HO_1.out (fun _ hk => hk.1), hB HB, hk_ HK⟩

mutual
def spec_l15Ways.l0 : Nat → List (S47) → Int → Int → List Int → List (List Int) → Option ((List (List Int)))
 | 0, _, _, _, _, _ => none
 | k + 1, x1, x2, x3, x9, x10 => (spec_l15Next.f k x1 x9 x2).bind fun bt337 => (if bt337.1 < 0 then (some x10) else (spec_l15Ways.l1 k x1 x2 x3 bt337.2 x10 bt337.1 (([x2, bt337.1] : List Int))))
def spec_l15Ways.l1 : Nat → List (S47) → Int → Int → List Int → List (List Int) → Int → List Int → Option ((List (List Int)))
 | 0, _, _, _, _, _, _, _ => none
 | k + 1, x1, x2, x3, x9, x10, x11, x12 => if x11 = x3 then (if x10.length < 5864062014805 then (spec_l15Ways.l0 k x1 x2 x3 x9 (x10 ++ [x12])) else (none)) else ((spec_l15Next.f k x1 x9 x11).bind fun bt345 => (if x12.length < 17592186044416 then (spec_l15Ways.l1 k x1 x2 x3 bt345.2 x10 bt345.1 (x12 ++ [bt345.1])) else (none)))
end
def spec_l15Ways.f (k : Nat) (a0 : Int) (l1 : List (S47)) (a2 : Int) (a3 : Int) : Option ((List (List Int))) := (spec_l15Flow.f k a0 l1 a2 a3).bind fun t334 => (spec_l15Ways.l0 k l1 a2 a3 t334 ([] : List (List Int)))
theorem spec_l15Ways.mono_l : ∀ k, (∀ y0 y1 y2 y3 y4, LeO (spec_l15Ways.l0 k y0 y1 y2 y3 y4) (spec_l15Ways.l0 (k + 1) y0 y1 y2 y3 y4)) ∧ (∀ y0 y1 y2 y3 y4 y5 y6, LeO (spec_l15Ways.l1 k y0 y1 y2 y3 y4 y5 y6) (spec_l15Ways.l1 (k + 1) y0 y1 y2 y3 y4 y5 y6))
 | 0 => ⟨fun _ _ _ _ _ r h => by simp [spec_l15Ways.l0] at h, fun _ _ _ _ _ _ _ r h => by simp [spec_l15Ways.l1] at h⟩
 | k + 1 => by
  obtain ⟨ih0, ih1⟩ := spec_l15Ways.mono_l k
  refine ⟨?_, ?_⟩
  ·intro y0 y1 y2 y3 y4
   unfold spec_l15Ways.l0
   repeat' first
   | (with_reducible exact ih0 _ _ _ _ _)
   | (with_reducible exact ih1 _ _ _ _ _ _ _)
   | (with_reducible exact spec_l15Flow.mono _ _ _ _ _)
   | (with_reducible exact spec_l15Next.mono _ _ _ _)
   | with_reducible first | exact LeO.refl _ | exact LeO.none _ | refine LeO.ite ?_ ?_ | refine LeO.bind ?_ fun _ => ?_
  ·intro y0 y1 y2 y3 y4 y5 y6
   unfold spec_l15Ways.l1
   repeat' first
   | (with_reducible exact ih0 _ _ _ _ _)
   | (with_reducible exact ih1 _ _ _ _ _ _ _)
   | (with_reducible exact spec_l15Flow.mono _ _ _ _ _)
   | (with_reducible exact spec_l15Next.mono _ _ _ _)
   | with_reducible first | exact LeO.refl _ | exact LeO.none _ | refine LeO.ite ?_ ?_ | refine LeO.bind ?_ fun _ => ?_
theorem spec_l15Ways.mono : ∀ a0 a1 a2 a3 k, LeO (spec_l15Ways.f k a0 a1 a2 a3) (spec_l15Ways.f (k + 1) a0 a1 a2 a3) := by
 intro a0 a1 a2 a3 k
 obtain ⟨ih0, ih1⟩ := spec_l15Ways.mono_l k
 unfold spec_l15Ways.f
 repeat' first
   | (with_reducible exact ih0 _ _ _ _ _)
   | (with_reducible exact ih1 _ _ _ _ _ _ _)
   | (with_reducible exact spec_l15Flow.mono _ _ _ _ _)
   | (with_reducible exact spec_l15Next.mono _ _ _ _)
   | with_reducible first | exact LeO.refl _ | exact LeO.none _ | refine LeO.ite ?_ ?_ | refine LeO.bind ?_ fun _ => ?_
set_option maxHeartbeats 8000000 in
set_option maxRecDepth 100000 in
theorem spec_l15Ways.calls (k : Nat) (a0 : Int) (A1 : Option Addr) (c1 : Nat) (l1 : List (S47)) (a2 : Int) (a3 : Int) (r : List (List Int)) (w : World) (hr1 : Kd.C k47 w A1 l1.length l1) (hc1 : l1.length ≤ c1) (h : spec_l15Ways.f k a0 l1 a2 a3 = some r) :
  Calls Try.prog 65 #[.int .i64 a0, .slice A1 l1.length c1, .int .i64 a2, .int .i64 a3] w fun e w' => ∃ v0_ : Value, e = .returned (v0_) ∧ Kd.S (Kd.slice 3 (Kd.int .i64)) 24 w' w.heap.size (fun _ => True) v0_ r ∧ Below w.heap.size w w' := by
 have HR1 := Aside0.mk hr1
 have HC1 := Aside0.mk hc1
 clear hr1 hc1
 have HB := Aside0.mk (Below.refl w.heap.size w)
 have H : ((spec_l15Flow.f k a0 l1 a2 a3).bind fun t334 => (spec_l15Ways.l0 k l1 a2 a3 t334 ([] : List (List Int)))) = some r := h
 clear h
 replace H := Option.bind_eq_some_iff.mp H
 obtain ⟨t334, A50, H⟩ := H
 replace H : (spec_l15Ways.l0 k l1 a2 a3 t334 ([] : List (List Int))) = some r := H
 have A5 := Aside0.mk A50
 clear A50
 have H' := Aside0.mk H
 clear H
 go_enter Try.func65, Try.ntmps65
 go_wp2_with (first | ((with_reducible refine gate_dst (N := 17) rfl ?_); refine goesL_ (some 17) rfl rfl Try.func59 (by kernel_rfl) rfl #[.int .i64 a0, .slice A1 l1.length c1, .int .i64 a2, .int .i64 a3] rfl tm_ ?_; (with_reducible refine (spec_l15Flow.calls k a0 _ _ l1 a2 a3 t334 _ ?side1 ?side2 A5.out).mono ?_); (case side1 => exact ca HR1.out); (case side2 => exact HC1.out); rintro e w6 ⟨v335, rfl, ho0, hb⟩; refine ⟨_, rfl, ?_⟩; have HO336 := Aside0.mk (Kd.R_lower ho0 (below_size (hB HB))); replace HB := bst_ HB hb; clear hb ho0))
 go_loopg [10] k (fun kq v10 w' => ∃ (x9_1 : List Int) (x10_1 : List (List Int)), Aside0 (spec_l15Ways.l0 kq l1 a2 a3 x9_1 x10_1 = some r) ∧ Aside0 (kq ≤ k) ∧ Aside0 (Kd.R (Kd.int .i64) 3 w' w.heap.size (fun _ => True) v335 x9_1) ∧ Aside0 (Kd.S (Kd.slice 3 (Kd.int .i64)) 24 w' w.heap.size (fun k_ => no_ v335 k_) v10 x10_1) ∧ Aside0 (Below w.heap.size w w'))
 case atStart => exact ⟨(t334), (([] : List (List Int))), H', ⟨Nat.le_refl _⟩, ⟨ra HO336.out⟩, ⟨by first | exact Kd.S_nil _ _ _ _ _ | exact Kd.N_nil _ _ _ _ _ | exact Kd.V_nil _ _ _ _ _ | exact Kd.Q_nil _ _ _ _ _ | exact Kd.R_nil _ _ _ _ _⟩, ⟨hB HB⟩⟩
 case round =>
  clear H'
  try clear c1
  obtain ⟨x9_1, x10_1, HA, HK1, HO_9, HO_10, HB⟩ := hrel
  cases gk with
  | zero => exact absurd HA.out (by simp [spec_l15Ways.l0])
  | succ k1 =>
   have H := HA.out
   clear HA
   simp only [spec_l15Ways.l0] at H
   replace H := Option.bind_eq_some_iff.mp H
   obtain ⟨⟨t337, t338⟩, A70, H⟩ := H
   replace H : (if t337 < 0 then (some x10_1) else (spec_l15Ways.l1 k1 l1 a2 a3 t338 x10_1 t337 (([a2, t337] : List Int)))) = some r := H
   have A7 := Aside0.mk A70
   clear A70
   by_cases c8 : t337 < 0
   ·rw [if_pos c8] at H
    have c8b0 : decide (t337 < 0) = true := decide_eq_true c8
    clear c8
    obtain rfl := Option.some.inj H
    obtain ⟨Ao9, co9, eo9⟩ := Kd.R_slice HO_9.out
    subst eo9
    go_wp2_with (first | ((with_reducible refine gate_dst (N := 21) rfl ?_); refine goesL_ (some 21) rfl rfl Try.func108 (by kernel_rfl) rfl #[.slice A1 l1.length c1, .slice Ao9 x9_1.length co9, .int .i64 a2] rfl tm_ ?_; (with_reducible refine (spec_l15Next.calls k1 _ _ l1 (fun k_ => some k_ = (.slice Ao9 x9_1.length co9 : Value).ownBlock) (.slice Ao9 x9_1.length co9) x9_1 a2 t337 t338 w _ ?side1 ?side2 ?side3 ?side4 A7.out).mono ?_); (case side1 => exact hB HB); (case side2 => exact Kd.C_kept_came k47_heap HR1.out (hB HB) (fun k_ hs_ => (fun e_ => Kd.R_base HO_9.out k_ e_.symm) hs_)); (case side3 => exact HC1.out); (case side4 => exact Kd.R_tight rfl HO_9.out); rintro e w10 ⟨rfl, hy0, hb, hkp⟩; refine ⟨_, rfl, ?_⟩; replace HO_9 := Aside0.mk (Kd.R_reok rfl hy0 (fun k_ e_ => HO_9.out.1 k_ e_)); replace HO_10 := Aside0.mk (Kd.S_mono (ok' := fun k_ => no_ (.slice Ao9 x9_1.length co9) k_) (Kd.S_keptB (HO_10.out) hkp (fun k_ hk_ hs_ => (hk_) hs_)) (fun k_ hk_ => hk_.1)); replace HB := Aside0.mk (hb); clear hb))
    go_ret
    exact ⟨_, rt_, by (with_reducible repeat (first | apply Kd.S_alloc | apply Kd.S_drewN | apply Kd.S_drew)); exact Kd.S_mono HO_10.out (fun _ hk => trivial), hB HB⟩
   rw [if_neg c8] at H
   have c8b0 : decide (t337 < 0) = false := decide_eq_false c8
   clear c8
   obtain ⟨y339, hy339⟩ : ∃ y_ : List Int, y_ = (([a2, t337] : List Int)) := ⟨_, rfl⟩
   replace H : (spec_l15Ways.l1 k1 l1 a2 a3 t338 x10_1 t337 y339) = some r := by first | (rw [hy339]; with_reducible exact H) | (have H2_ := (Option.bind_some _ _).symm.trans H; rw [hy339]; with_reducible exact H2_) | (have H2_ := (Option.bind_some _ _).symm.trans H; with_reducible exact H2_) | with_reducible exact H | (rw [hy339]; exact H) | exact H
   have Ny339 := Aside0.mk hy339
   clear hy339
   have H' := Aside0.mk H
   clear H
   obtain ⟨Ao11, co11, eo11⟩ := Kd.R_slice HO_9.out
   subst eo11
   go_wp2_with (first | ((with_reducible refine gate_dst (N := 21) rfl ?_); refine goesL_ (some 21) rfl rfl Try.func108 (by kernel_rfl) rfl #[.slice A1 l1.length c1, .slice Ao11 x9_1.length co11, .int .i64 a2] rfl tm_ ?_; (with_reducible refine (spec_l15Next.calls k1 _ _ l1 (fun k_ => some k_ = (.slice Ao11 x9_1.length co11 : Value).ownBlock) (.slice Ao11 x9_1.length co11) x9_1 a2 t337 t338 w _ ?side1 ?side2 ?side3 ?side4 A7.out).mono ?_); (case side1 => exact hB HB); (case side2 => exact Kd.C_kept_came k47_heap HR1.out (hB HB) (fun k_ hs_ => (fun e_ => Kd.R_base HO_9.out k_ e_.symm) hs_)); (case side3 => exact HC1.out); (case side4 => exact Kd.R_tight rfl HO_9.out); rintro e w12 ⟨rfl, hy0, hb, hkp⟩; refine ⟨_, rfl, ?_⟩; replace HO_9 := Aside0.mk (Kd.R_reok rfl hy0 (fun k_ e_ => HO_9.out.1 k_ e_)); replace HO_10 := Aside0.mk (Kd.S_mono (ok' := fun k_ => no_ (.slice Ao11 x9_1.length co11) k_) (Kd.S_keptB (HO_10.out) hkp (fun k_ hk_ hs_ => (hk_) hs_)) (fun k_ hk_ => hk_.1)); replace HB := Aside0.mk (hb); clear hb) | ((with_reducible refine gate_dst (N := 27) rfl ?_); refine Kd.R_lit (Kd.int .i64) _ 3 ?hg (N := 27) ?hd (xs := ([a2, t337] : List Int)) (inner := [.int .i64 a2, .int .i64 t337]) (ok := fun _ => True) (okp := fun _ => True) ?hr ?hp (fun _ hk => hk) trivial (Below.refl _ _) (Nat.le_refl _) (by simp) ?_; (case hd => rfl); (case hg => rfl); (case hr => first | (go_simp; done) | (go_simp; rfl)); (case hp => exact (Reps.one (show Kd.M (Kd.int .i64) _ _ _ a2 [.int .i64 a2] from rfl) (Reps.one (show Kd.M (Kd.int .i64) _ _ _ t337 [.int .i64 t337] from rfl) (Reps.none _ _)))); intro v340 w13 ho14 hb hg_ hnew_; clear hg_ hnew_; (first | rw [← Ny339.out] at ho14 | (simp only [Int.reduceToNat] at ho14; rw [← Ny339.out] at ho14)); have HO341 := Aside0.mk (Kd.R_lower (Kd.R_new' ho14 (rl_ HO_9)) (below_size (hB HB))); replace HO_9 := re_ HO_9 ho14 hb; replace HO_10 := Aside0.mk (Kd.S_elder' (sa HO_10.out) (Kd.R_base ho14) hb); replace HB := bst_ HB hb; clear hb ho14))
   go_loopg [11, 12] k1 (fun kq v11 v12 w' => ∃ (x9_2 : List Int) (x11_2 : Int) (x12_2 : List Int), v11 = .int .i64 x11_2 ∧ Aside0 (spec_l15Ways.l1 kq l1 a2 a3 x9_2 x10_1 x11_2 x12_2 = some r) ∧ Aside0 (kq ≤ k1) ∧ Aside0 (Kd.R (Kd.int .i64) 3 w' w.heap.size (fun k_ => no_ v12 k_) (.slice Ao11 x9_1.length co11) x9_2) ∧ Aside0 (Kd.S (Kd.slice 3 (Kd.int .i64)) 24 w' w.heap.size (fun k_ => no_ (.slice Ao11 x9_1.length co11) k_ ∧ no_ v12 k_) u10 x10_1) ∧ Aside0 (Kd.R (Kd.int .i64) 3 w' w.heap.size (fun k_ => no_ (.slice Ao11 x9_1.length co11) k_) v12 x12_2) ∧ Aside0 (Below w.heap.size w w'))
   case atStart => exact ⟨(t338), (t337), (y339), (by first | rfl | (simp; done) | (simp [*]; done)), H', ⟨Nat.le_refl _⟩, rm_ HO_9 (fun _ hk => hk.2), ⟨by (with_reducible repeat (first | apply Kd.S_alloc | apply Kd.S_drewN | apply Kd.S_drew)); exact HO_10.out⟩, rm_ HO341 (fun _ hk => hk.2), ⟨hB HB⟩⟩
   case round =>
    clear H'
    try clear c1
    try clear c8
    try clear c8b0
    obtain ⟨x9_2, x11_2, x12_2, rfl, HA, HK2, HO_9, HO_10, HO_12, HB⟩ := hrel
    have hl9_2 := (Kd.R_reads' HO_9.out).1
    rw [hl9_2] at HO_9
    (try simp only [hl9_2])
    (try simp only [hl9_2] at HO_10)
    (try simp only [hl9_2] at HO_12)
    cases gk with
    | zero => exact absurd HA.out (by simp [spec_l15Ways.l1])
    | succ k2 =>
     have H := HA.out
     clear HA
     simp only [spec_l15Ways.l1] at H
     by_cases c15 : x11_2 = a3
     ·rw [if_pos c15] at H
      have c15b0 : (x11_2 == a3) = true := beq_iff_eq.mpr c15
      have c15b1 : (x11_2 != a3) = false := bne_eq_false_iff_eq.mpr c15
      clear c15
      by_cases c16 : x10_1.length < 5864062014805
      rotate_left
      ·rw [if_neg c16] at H
       exact absurd H (by simp)
      rw [if_pos c16] at H
      have LMc16 := Aside0.mk c16
      clear c16
      obtain ⟨y342, hy342⟩ : ∃ y_ : List (List Int), y_ = (x10_1 ++ [x12_2]) := ⟨_, rfl⟩
      replace H : (spec_l15Ways.l0 k2 l1 a2 a3 x9_2 y342) = some r := by first | (rw [hy342]; with_reducible exact H) | (have H2_ := (Option.bind_some _ _).symm.trans H; rw [hy342]; with_reducible exact H2_) | (have H2_ := (Option.bind_some _ _).symm.trans H; with_reducible exact H2_) | with_reducible exact H | (rw [hy342]; exact H) | exact H
      have Ny342 := Aside0.mk hy342
      clear hy342
      have H' := Aside0.mk H
      clear H
      obtain ⟨Ao18, co18, eo18⟩ := Kd.R_slice HO_12.out
      subst eo18
      go_wp2_with (first | ((with_reducible refine gate_builtin (b := .append) (xs := #[.tmp 39, .tmp 41]) rfl ?_); at_builtin; refine Kd.S_append (Kd.slice 3 (Kd.int .i64)) (w0 := w) w.heap.size rfl (.tmp 39) (.tmp 41) 36 24 (.slice none 0 0) 24 rfl Try.underlying36 info24 rfl (by decide) (by omega) u10 x10_1 x12_2 [.slice Ao18 x12_2.length co18] (fun k_ => no_ (.slice Ao11 x9_2.length co11) k_) (fun k_ => some k_ = (.slice Ao18 x12_2.length co18 : Value).ownBlock) rfl rfl ?aP (fun k_ hk_ => ((Kd.R_mono (ok' := fun k_ => ((fun k_ => no_ (.slice Ao11 x9_2.length co11) k_)) k_ ∧ some k_ ≠ (u10 : Value).ownBlock) (Kd.R_apart' (HO_12.out) (Kd.S_typed HO_10.out) (by decide)) (fun k_ hk => hk))).1 k_ hk_.symm) ?aF ?aO ?aB ?aS ?aL ?_; (case aP => exact Kd.M_row (Kd.R_mono (Kd.R_tight rfl (Kd.R_mono (ok' := fun k_ => ((fun k_ => no_ (.slice Ao11 x9_2.length co11) k_)) k_ ∧ some k_ ≠ (u10 : Value).ownBlock) (Kd.R_apart' (HO_12.out) (Kd.S_typed HO_10.out) (by decide)) (fun k_ hk => hk))) (fun _ h_ => h_))); (case aB => exact (hB HB)); (case aF => exact (fun k_ hk => Kd.fresh' (rl_ HO_9) k_ hk)); (case aO => exact (by (with_reducible repeat (first | apply Kd.S_alloc | apply Kd.S_drewN | apply Kd.S_drew)); exact Kd.S_mono HO_10.out (fun k_ hk => ⟨hk.1, fun e_ => hk.2 e_⟩))); (case aS => exact (below_size (hB HB))); (case aL => have := LMc16.out; omega); intro v343 w17 ho hb hg hat; rw [← Ny342.out] at ho; have HO344 := Aside0.mk (ho); replace HO_9 := Aside0.mk (Kd.R_over' (ra HO_9.out) (Kd.S_typed (sa HO_10.out)) (by decide) hg); replace HB := Aside0.mk (hb); clear HO_10 HO_12; clear ho hb hg hat))
      (try simp only [← hl9_2])
      go_roundg k2
      case measure => have := HK1.out; have := HK2.out; omega
      case rel => exact ⟨(x9_2), (y342), H', ⟨by have := HK1.out; have := HK2.out; omega⟩, ⟨by (try simp only [hl9_2]); (with_reducible repeat (first | apply Kd.R_alloc | apply Kd.R_drewN | apply Kd.R_drew)); exact Kd.R_mono HO_9.out (fun _ hk => trivial)⟩, ⟨by (try simp only [hl9_2]); (with_reducible repeat (first | apply Kd.S_alloc | apply Kd.S_drewN | apply Kd.S_drew)); exact HO344.out⟩, ⟨hB HB⟩⟩
     rw [if_neg c15] at H
     have c15b0 : (x11_2 == a3) = false := beq_eq_false_iff_ne.mpr c15
     have c15b1 : (x11_2 != a3) = true := bne_iff_ne.mpr c15
     replace H := Option.bind_eq_some_iff.mp H
     obtain ⟨⟨t345, t346⟩, A190, H⟩ := H
     replace H : (if x12_2.length < 17592186044416 then (spec_l15Ways.l1 k2 l1 a2 a3 t346 x10_1 t345 (x12_2 ++ [t345])) else (none)) = some r := H
     have A19 := Aside0.mk A190
     clear A190
     by_cases c20 : x12_2.length < 17592186044416
     rotate_left
     ·rw [if_neg c20] at H
      exact absurd H (by simp)
     rw [if_pos c20] at H
     have LMc20 := Aside0.mk c20
     clear c20
     obtain ⟨y347, hy347⟩ : ∃ y_ : List Int, y_ = (x12_2 ++ [t345]) := ⟨_, rfl⟩
     replace H : (spec_l15Ways.l1 k2 l1 a2 a3 t346 x10_1 t345 y347) = some r := by first | (rw [hy347]; with_reducible exact H) | (have H2_ := (Option.bind_some _ _).symm.trans H; rw [hy347]; with_reducible exact H2_) | (have H2_ := (Option.bind_some _ _).symm.trans H; with_reducible exact H2_) | with_reducible exact H | (rw [hy347]; exact H) | exact H
     have Ny347 := Aside0.mk hy347
     clear hy347
     have H' := Aside0.mk H
     clear H
     go_wp2_with (first | ((with_reducible refine gate_dst (N := 34) rfl ?_); refine goesL_ (some 34) rfl rfl Try.func108 (by kernel_rfl) rfl #[.slice A1 l1.length c1, .slice Ao11 x9_2.length co11, .int .i64 x11_2] rfl tm_ ?_; (with_reducible refine (spec_l15Next.calls k2 _ _ l1 (fun k_ => some k_ = (.slice Ao11 x9_2.length co11 : Value).ownBlock) (.slice Ao11 x9_2.length co11) x9_2 x11_2 t345 t346 w _ ?side1 ?side2 ?side3 ?side4 A19.out).mono ?_); (case side1 => exact hB HB); (case side2 => exact Kd.C_kept_came k47_heap HR1.out (hB HB) (fun k_ hs_ => (fun e_ => Kd.R_base HO_9.out k_ e_.symm) hs_)); (case side3 => exact HC1.out); (case side4 => exact Kd.R_tight rfl HO_9.out); rintro e w21 ⟨rfl, hy0, hb, hkp⟩; refine ⟨_, rfl, ?_⟩; replace HO_9 := Aside0.mk (Kd.R_reok rfl hy0 (fun k_ e_ => HO_9.out.1 k_ e_)); replace HO_10 := Aside0.mk (Kd.S_mono (ok' := fun k_ => no_ (.slice Ao11 x9_2.length co11) k_ ∧ some k_ ≠ (u12 : Value).ownBlock) (Kd.S_keptB (HO_10.out) hkp (fun k_ hk_ hs_ => (hk_.1) hs_)) (fun k_ hk_ => ⟨hk_.1.1, hk_.1.2⟩)); replace HO_12 := Aside0.mk (Kd.R_mono (ok' := fun k_ => no_ (.slice Ao11 x9_2.length co11) k_) (Kd.R_keptB (HO_12.out) hkp (fun k_ hk_ hs_ => (hk_) hs_)) (fun k_ hk_ => hk_.1)); replace HB := Aside0.mk (hb); clear hb) | ((with_reducible refine gate_builtin (b := .append) (xs := #[.tmp 35, .tmp 37]) rfl ?_); at_builtin; refine Kd.R_append (Kd.int .i64) (w0 := w) w.heap.size rfl (.tmp 35) (.tmp 37) 24 3 (.int .i64 0) 8 rfl Try.underlying24 info3 rfl (by decide) (by omega) u12 x12_2 t345 [.int .i64 t345] (fun k_ => no_ (.slice Ao11 x9_2.length co11) k_) (fun _ => False) rfl rfl ?aP (fun _ hk => hk.elim) ?aF ?aO ?aB ?aS ?aL ?_; (case aP => exact rfl); (case aB => exact (hB HB)); (case aF => exact (fun k_ hk => Kd.fresh' (rl_ HO_9) k_ hk)); (case aO => exact (ra HO_12.out)); (case aS => exact (below_size (hB HB))); (case aL => have := LMc20.out; omega); intro v348 w22 ho hb hg hat; rw [← Ny347.out] at ho; have HO349 := Aside0.mk (ho); replace HO_9 := Aside0.mk (Kd.R_after (ok := (fun _ => True)) (rm_ HO_9 (fun _ hk => ⟨trivial, hk⟩)).out hg hat); replace HO_10 := Aside0.mk (Kd.S_after (ok := (fun k_ => no_ (.slice Ao11 x9_2.length co11) k_)) (sa HO_10.out) hg hat); replace HB := Aside0.mk (hb); clear HO_12; clear ho hb hg hat))
     (try simp only [← hl9_2])
     go_roundg k2
     case measure => have := HK1.out; have := HK2.out; omega
     case rel => exact ⟨(t346), (t345), (y347), (by first | rfl | (simp; done) | (simp [*]; done)), H', ⟨by have := HK1.out; have := HK2.out; omega⟩, ⟨by (try simp only [hl9_2]); (with_reducible repeat (first | apply Kd.R_alloc | apply Kd.R_drewN | apply Kd.R_drew)); exact Kd.R_mono HO_9.out (fun _ hk => hk.2)⟩, ⟨by (try simp only [hl9_2]); (with_reducible repeat (first | apply Kd.S_alloc | apply Kd.S_drewN | apply Kd.S_drew)); exact HO_10.out⟩, ⟨by (try simp only [hl9_2]); (with_reducible repeat (first | apply Kd.R_alloc | apply Kd.R_drewN | apply Kd.R_drew)); exact HO349.out⟩, ⟨hB HB⟩⟩

end Go.Proofs.Ythambdfgkfkcmaa.P
