import Derived.Test.YthambdfgkfkcmaaF0
import Derived.Test.YthambdfgkfkcmaaF1
import Derived.Test.YthambdfgkfkcmaaF2
import Derived.Test.YthambdfgkfkcmaaF3
import Derived.Test.YthambdfgkfkcmaaF4
import Derived.Test.YthambdfgkfkcmaaF5
namespace Go.Proofs.Ythambdfgkfkcmaa.P
open Go.RowKit Go.Proofs.YthambdfgkfkcmaaW.PrintWords Go.Proofs.YthambdfgkfkcmaaW.PrintLast Go.Proofs.YthambdfgkfkcmaaW.PrintMore
attribute [local go_sem] max2_int min2_int max_two min_two max_three min_three max_four min_four   -- for this text's walks alone
set_option linter.unusedVariables false
set_option linter.unusedSimpArgs false

def spec_l15Next.l0 : Nat → List (S47) → List Int → Int → List Int → Int → Int → Option (Int × List Int)
 | 0, _, _, _, _, _, _ => none
 | k + 1, x0, x1, x2, x12, x13, x14 => if x14 < x13 then (if 0 ≤ x14 then (if x14 < (x12.length : Int) then ((spec_l15Number.f k x0 x2 (rd x12 x14)).bind fun t359 => (if 0 ≤ t359 then (if t359 < (x0.length : Int) then (if ((rd_T47 x0 t359).f0) = x2 then (if t359 < (x1.length : Int) then (if (rd x1 t359) = 1 then (some (rd x12 x14, (x1.set (t359 : Int).toNat 0))) else (if ((rd_T47 x0 t359).f1) = x2 then (if (rd x1 t359) = (-1) then (some (rd x12 x14, (x1.set (t359 : Int).toNat 0))) else (spec_l15Next.l0 k x0 x1 x2 x12 x13 (wrap64 (x14 + 1)))) else (spec_l15Next.l0 k x0 x1 x2 x12 x13 (wrap64 (x14 + 1))))) else (none)) else (if ((rd_T47 x0 t359).f1) = x2 then (if t359 < (x1.length : Int) then (if (rd x1 t359) = (-1) then (some (rd x12 x14, (x1.set (t359 : Int).toNat 0))) else (spec_l15Next.l0 k x0 x1 x2 x12 x13 (wrap64 (x14 + 1)))) else (none)) else (spec_l15Next.l0 k x0 x1 x2 x12 x13 (wrap64 (x14 + 1))))) else (none)) else (none))) else (none)) else (none)) else (some ((-1), x1))
def spec_l15Next.f (k : Nat) (l0 : List (S47)) (l1 : List Int) (a2 : Int) : Option (Int × List Int) := (spec_l8Near.f k l0 a2).bind fun t355 => (spec_l15Next.l0 k l0 l1 a2 t355 (t355.length : Int) 0)
theorem spec_l15Next.mono_l : ∀ k, (∀ y0 y1 y2 y3 y4 y5, LeO (spec_l15Next.l0 k y0 y1 y2 y3 y4 y5) (spec_l15Next.l0 (k + 1) y0 y1 y2 y3 y4 y5))
 | 0 => fun _ _ _ _ _ _ r h => by simp [spec_l15Next.l0] at h
 | k + 1 => by
  have ih0 := spec_l15Next.mono_l k
  ·intro y0 y1 y2 y3 y4 y5
   unfold spec_l15Next.l0
   repeat' first
   | (with_reducible exact ih0 _ _ _ _ _ _)
   | (with_reducible exact spec_l15Number.mono _ _ _ _)
   | (with_reducible exact spec_l8Near.mono _ _ _)
   | with_reducible first | exact LeO.refl _ | exact LeO.none _ | refine LeO.ite ?_ ?_ | refine LeO.bind ?_ fun _ => ?_
theorem spec_l15Next.mono : ∀ a0 a1 a2 k, LeO (spec_l15Next.f k a0 a1 a2) (spec_l15Next.f (k + 1) a0 a1 a2) := by
 intro a0 a1 a2 k
 have ih0 := spec_l15Next.mono_l k
 unfold spec_l15Next.f
 repeat' first
   | (with_reducible exact ih0 _ _ _ _ _ _)
   | (with_reducible exact spec_l15Number.mono _ _ _ _)
   | (with_reducible exact spec_l8Near.mono _ _ _)
   | with_reducible first | exact LeO.refl _ | exact LeO.none _ | refine LeO.ite ?_ ?_ | refine LeO.bind ?_ fun _ => ?_
set_option maxHeartbeats 8000000 in
set_option maxRecDepth 100000 in
theorem spec_l15Next.calls (k : Nat) (A0 : Option Addr) (c0 : Nat) (l0 : List (S47)) (P1_ : Nat → Prop) (u9000_ : Value) (l1 : List Int) (a2 : Int) (r1 : Int) (r2 : List Int) (w0 w : World) (hB : Below w0.heap.size w0 w) (hr0 : ∀ W_, Kept w W_ (fun k_ => P1_ k_) → Kd.C k47 W_ A0 l0.length l0) (hc0 : l0.length ≤ c0) (ho1 : Kd.R (Kd.int .i64) 3 w w0.heap.size P1_ u9000_ l1) (h : spec_l15Next.f k l0 l1 a2 = some (r1, r2)) :
  Calls Try.prog 108 #[.slice A0 l0.length c0, u9000_, .int .i64 a2] w fun e w' => e = .returned (.int .i64 r1) ∧ Kd.R (Kd.int .i64) 3 w' w0.heap.size (fun k_ => (P1_ k_ ∨ w.heap.size ≤ k_)) u9000_ r2 ∧ Below w0.heap.size w0 w' ∧ Kept w w' (fun k_ => P1_ k_) := by
 have HR0 := Aside0.mk hr0
 have HC0 := Aside0.mk hc0
 clear hr0 hc0
 have HO1 := Aside0.mk (show Kd.R (Kd.int .i64) 3 w w0.heap.size (fun k_ => (P1_ k_ ∨ w.heap.size ≤ k_)) u9000_ l1 from Kd.R_mono ho1 (fun k_ hk => (.inl hk)))
 have HK := Aside0.mk (Kept.refl w (fun k_ => P1_ k_))
 have HW0 := Aside0.mk hB.size
 have HB := Aside0.mk hB
 clear hB
 have H : ((spec_l8Near.f k l0 a2).bind fun t355 => (spec_l15Next.l0 k l0 l1 a2 t355 (t355.length : Int) 0)) = some (r1, r2) := h
 clear h
 replace H := Option.bind_eq_some_iff.mp H
 obtain ⟨t355, A40, H⟩ := H
 replace H : (spec_l15Next.l0 k l0 l1 a2 t355 (t355.length : Int) 0) = some (r1, r2) := H
 have A4 := Aside0.mk A40
 clear A40
 have H' := Aside0.mk H
 clear H
 go_enter Try.func108, Try.ntmps108
 go_wp2_with (first | (refine goesL_ (some 12) rfl rfl Try.func103 (by kernel_rfl) rfl #[.slice A0 l0.length c0, .int .i64 a2] rfl tm_ ?_; (with_reducible refine (spec_l8Near.calls k _ _ l0 a2 t355 _ ?side1 ?side2 A4.out).mono ?_); (case side1 => exact Kd.C_kept_now HR0.out (hk_ HK)); (case side2 => exact HC0.out); rintro e w5 ⟨v356, rfl, ho0, hb⟩; refine ⟨_, rfl, ?_⟩; have HO357 := Aside0.mk (Kd.R_lower (Kd.R_new' (Kd.R_newM (M := fun k_ => (P1_ k_ ∨ w.heap.size ≤ k_)) ho0 (by first | exact HK.out.1 | exact (show Kept w _ (fun k_ => P1_ k_) from hk_ HK).1) (fun k_ h_ => .inr h_)) (rl_ HO1)) (below_size (hB HB))); replace HO1 := re_ HO1 ho0 hb; replace HK := Aside0.mk (Kept.below (S := (fun k_ => P1_ k_)) (hk_ HK) hb); replace HB := bst_ HB hb; clear hb ho0; obtain ⟨Ao6, co6, eo6⟩ := Kd.R_slice HO357.out; subst eo6))
 go_loopg [14] k (fun kq v14 w' => ∃ (x1_1 : List Int) (x14_1 : Int), v14 = .int .i64 x14_1 ∧ Aside0 (spec_l15Next.l0 kq l0 x1_1 a2 t355 (t355.length : Int) x14_1 = some (r1, r2)) ∧ Aside0 (kq ≤ k) ∧ Aside0 (Kd.R (Kd.int .i64) 3 w' w0.heap.size (fun k_ => (P1_ k_ ∨ w.heap.size ≤ k_) ∧ no_ (.slice Ao6 t355.length co6) k_) u9000_ x1_1) ∧ Aside0 (Kd.R (Kd.int .i64) 3 w' w0.heap.size (fun k_ => (P1_ k_ ∨ w.heap.size ≤ k_) ∧ some k_ ≠ (u9000_ : Value).ownBlock) (.slice Ao6 t355.length co6) t355) ∧ Aside0 (Kept w w' (fun k_ => P1_ k_)) ∧ Aside0 (Below w0.heap.size w0 w'))
 case atStart => exact ⟨(l1), (0), (by first | rfl | (simp; done) | (simp [*]; done)), H', ⟨Nat.le_refl _⟩, ⟨ra HO1.out⟩, rm_ HO357 (fun _ hk => ⟨hk.1.1, hk.2⟩), ⟨hk_ HK⟩, ⟨hB HB⟩⟩
 case round =>
  clear H'
  obtain ⟨x1_1, x14_1, rfl, HA, HK1, HO_1, HO_12, HK, HB⟩ := hrel
  cases gk with
  | zero => exact absurd HA.out (by simp [spec_l15Next.l0])
  | succ k1 =>
   have H := HA.out
   clear HA
   simp only [spec_l15Next.l0] at H
   by_cases c7 : x14_1 < (t355.length : Int)
   rotate_left
   ·rw [if_neg c7] at H
    have c7b0 : decide (x14_1 < (t355.length : Int)) = false := decide_eq_false c7
    clear c7
    simp only [Option.some.injEq, Prod.mk.injEq] at H
    obtain ⟨rfl, rfl⟩ := H
    go_wp2
    go_ret
    exact ⟨rt_, by (with_reducible repeat (first | apply Kd.R_alloc | apply Kd.R_drewN | apply Kd.R_drew)); exact Kd.R_mono HO_1.out (fun _ hk => hk.1), hB HB, hk_ HK⟩
   rw [if_pos c7] at H
   have c7b0 : decide (x14_1 < (t355.length : Int)) = true := decide_eq_true c7
   clear c7
   by_cases c8 : 0 ≤ x14_1
   rotate_left
   ·rw [if_neg c8] at H
    exact absurd H (by simp)
   rw [if_pos c8] at H
   have c8b0 : decide (0 ≤ x14_1) = true := decide_eq_true c8
   clear c8
   by_cases c9 : x14_1 < (t355.length : Int)
   rotate_left
   ·rw [if_neg c9] at H
    exact absurd H (by simp)
   rw [if_pos c9] at H
   have c9b0 : decide (x14_1 < (t355.length : Int)) = true := decide_eq_true c9
   clear c9
   replace H := Option.bind_eq_some_iff.mp H
   obtain ⟨t359, A100, H⟩ := H
   replace H : (if 0 ≤ t359 then (if t359 < (l0.length : Int) then (if ((rd_T47 l0 t359).f0) = a2 then (if t359 < (x1_1.length : Int) then (if (rd x1_1 t359) = 1 then (some (rd t355 x14_1, (x1_1.set (t359 : Int).toNat 0))) else (if ((rd_T47 l0 t359).f1) = a2 then (if (rd x1_1 t359) = (-1) then (some (rd t355 x14_1, (x1_1.set (t359 : Int).toNat 0))) else (spec_l15Next.l0 k1 l0 x1_1 a2 t355 (t355.length : Int) (wrap64 (x14_1 + 1)))) else (spec_l15Next.l0 k1 l0 x1_1 a2 t355 (t355.length : Int) (wrap64 (x14_1 + 1))))) else (none)) else (if ((rd_T47 l0 t359).f1) = a2 then (if t359 < (x1_1.length : Int) then (if (rd x1_1 t359) = (-1) then (some (rd t355 x14_1, (x1_1.set (t359 : Int).toNat 0))) else (spec_l15Next.l0 k1 l0 x1_1 a2 t355 (t355.length : Int) (wrap64 (x14_1 + 1)))) else (none)) else (spec_l15Next.l0 k1 l0 x1_1 a2 t355 (t355.length : Int) (wrap64 (x14_1 + 1))))) else (none)) else (none)) = some (r1, r2) := H
   have A10 := Aside0.mk A100
   clear A100
   by_cases c11 : 0 ≤ t359
   rotate_left
   ·rw [if_neg c11] at H
    exact absurd H (by simp)
   rw [if_pos c11] at H
   have c11b0 : decide (0 ≤ t359) = true := decide_eq_true c11
   clear c11
   by_cases c12 : t359 < (l0.length : Int)
   rotate_left
   ·rw [if_neg c12] at H
    exact absurd H (by simp)
   rw [if_pos c12] at H
   have c12b0 : decide (t359 < (l0.length : Int)) = true := decide_eq_true c12
   clear c12
   by_cases c13 : ((rd_T47 l0 t359).f0) = a2
   rotate_left
   ·rw [if_neg c13] at H
    have c13b0 : (((rd_T47 l0 t359).f0) == a2) = false := beq_eq_false_iff_ne.mpr c13
    have c13b1 : (((rd_T47 l0 t359).f0) != a2) = true := bne_iff_ne.mpr c13
    by_cases c32 : ((rd_T47 l0 t359).f1) = a2
    rotate_left
    ·rw [if_neg c32] at H
     have c32b0 : (((rd_T47 l0 t359).f1) == a2) = false := beq_eq_false_iff_ne.mpr c32
     have c32b1 : (((rd_T47 l0 t359).f1) != a2) = true := bne_iff_ne.mpr c32
     have H' := Aside0.mk H
     clear H
     have p358 : 0 ≤ (x14_1 : Int) := od_
     have q358 : x14_1 < (t355.length : Int) := od_
     obtain ⟨ad358, e358, hx358_0⟩ := Kd.at_int (Kd.R_reads' HO_12.out).2.2 x14_1 p358 q358
     cases e358
     replace p358 := eq_true p358
     replace q358 := eq_true q358
     go_wp2_with (first | (refine goesL_ (some 21) rfl rfl Try.func90 (by kernel_rfl) rfl #[.slice A0 l0.length c0, .int .i64 a2, .int .i64 (rd t355 x14_1)] rfl tm_ ?_; (with_reducible refine (spec_l15Number.calls k1 _ _ l0 a2 (rd t355 x14_1) t359 _ ?side1 ?side2 A10.out).mono ?_); (case side1 => exact Kd.C_kept_now HR0.out (hk_ HK)); (case side2 => exact HC0.out); rintro e w42 ⟨rfl, hb⟩; refine ⟨_, rfl, ?_⟩; replace HO_1 := rb_ HO_1 hb; replace HO_12 := rb_ HO_12 hb; replace HK := Aside0.mk (Kept.below (S := (fun k_ => P1_ k_)) (hk_ HK) hb); replace HB := bst_ HB hb; clear hb; have p360 : 0 ≤ (t359 : Int) := od_; have q360 : t359 < (l0.length : Int) := od_; obtain ⟨ad360, e360, hx360_0, hx360_1, hx360_2⟩ := at_T47 (Kd.C_kept_now HR0.out HK.out) t359 p360 q360; cases e360; replace p360 := eq_true p360; replace q360 := eq_true q360; have p366 : 0 ≤ (t359 : Int) := od_; have q366 : t359 < (l0.length : Int) := od_; obtain ⟨ad366, e366, hx366_0, hx366_1, hx366_2⟩ := at_T47 (Kd.C_kept_now HR0.out HK.out) t359 p366 q366; obtain rfl : ad360 = ad366 := (by injection e366); replace p366 := eq_true p366; replace q366 := eq_true q366))
     go_roundg k1
     case measure => have := HK1.out; omega
     case rel => exact ⟨(x1_1), (wrap64 (x14_1 + 1)), (by first | rfl | (simp; done) | (simp [*]; done)), H', ⟨by have := HK1.out; omega⟩, ⟨ra HO_1.out⟩, ⟨ra HO_12.out⟩, ⟨hk_ HK⟩, ⟨hB HB⟩⟩
    rw [if_pos c32] at H
    have c32b0 : (((rd_T47 l0 t359).f1) == a2) = true := beq_iff_eq.mpr c32
    have c32b1 : (((rd_T47 l0 t359).f1) != a2) = false := bne_eq_false_iff_eq.mpr c32
    clear c32
    by_cases c33 : t359 < (x1_1.length : Int)
    rotate_left
    ·rw [if_neg c33] at H
     exact absurd H (by simp)
    rw [if_pos c33] at H
    have c33b0 : decide (t359 < (x1_1.length : Int)) = true := decide_eq_true c33
    clear c33
    by_cases c34 : (rd x1_1 t359) = (-1)
    rotate_left
    ·rw [if_neg c34] at H
     have c34b0 : ((rd x1_1 t359) == (-1)) = false := beq_eq_false_iff_ne.mpr c34
     have c34b1 : ((rd x1_1 t359) != (-1)) = true := bne_iff_ne.mpr c34
     have H' := Aside0.mk H
     clear H
     have p358 : 0 ≤ (x14_1 : Int) := od_
     have q358 : x14_1 < (t355.length : Int) := od_
     obtain ⟨ad358, e358, hx358_0⟩ := Kd.at_int (Kd.R_reads' HO_12.out).2.2 x14_1 p358 q358
     cases e358
     replace p358 := eq_true p358
     replace q358 := eq_true q358
     go_wp2_with (first | (refine goesL_ (some 21) rfl rfl Try.func90 (by kernel_rfl) rfl #[.slice A0 l0.length c0, .int .i64 a2, .int .i64 (rd t355 x14_1)] rfl tm_ ?_; (with_reducible refine (spec_l15Number.calls k1 _ _ l0 a2 (rd t355 x14_1) t359 _ ?side1 ?side2 A10.out).mono ?_); (case side1 => exact Kd.C_kept_now HR0.out (hk_ HK)); (case side2 => exact HC0.out); rintro e w40 ⟨rfl, hb⟩; refine ⟨_, rfl, ?_⟩; replace HO_1 := rb_ HO_1 hb; replace HO_12 := rb_ HO_12 hb; replace HK := Aside0.mk (Kept.below (S := (fun k_ => P1_ k_)) (hk_ HK) hb); replace HB := bst_ HB hb; clear hb; have p360 : 0 ≤ (t359 : Int) := od_; have q360 : t359 < (l0.length : Int) := od_; obtain ⟨ad360, e360, hx360_0, hx360_1, hx360_2⟩ := at_T47 (Kd.C_kept_now HR0.out HK.out) t359 p360 q360; cases e360; replace p360 := eq_true p360; replace q360 := eq_true q360; have p366 : 0 ≤ (t359 : Int) := od_; have q366 : t359 < (l0.length : Int) := od_; obtain ⟨ad366, e366, hx366_0, hx366_1, hx366_2⟩ := at_T47 (Kd.C_kept_now HR0.out HK.out) t359 p366 q366; obtain rfl : ad360 = ad366 := (by injection e366); replace p366 := eq_true p366; replace q366 := eq_true q366; obtain ⟨Ao41, co41, eo41⟩ := Kd.R_slice HO_1.out; subst eo41; have p367 : 0 ≤ (t359 : Int) := od_; have q367 : t359 < (x1_1.length : Int) := od_; obtain ⟨ad367, e367, hx367_0⟩ := Kd.at_int (Kd.R_reads' HO_1.out).2.2 t359 p367 q367; cases e367; replace p367 := eq_true p367; replace q367 := eq_true q367))
     go_roundg k1
     case measure => have := HK1.out; omega
     case rel => exact ⟨(x1_1), (wrap64 (x14_1 + 1)), (by first | rfl | (simp; done) | (simp [*]; done)), H', ⟨by have := HK1.out; omega⟩, ⟨ra HO_1.out⟩, ⟨ra HO_12.out⟩, ⟨hk_ HK⟩, ⟨hB HB⟩⟩
    rw [if_pos c34] at H
    have c34b0 : ((rd x1_1 t359) == (-1)) = true := beq_iff_eq.mpr c34
    have c34b1 : ((rd x1_1 t359) != (-1)) = false := bne_eq_false_iff_eq.mpr c34
    clear c34
    obtain ⟨y368, hy368⟩ : ∃ y_ : List Int, y_ = (x1_1.set (t359 : Int).toNat 0) := ⟨_, rfl⟩
    replace H : (some (rd t355 x14_1, y368)) = some (r1, r2) := by first | (rw [hy368]; with_reducible exact H) | (have H2_ := (Option.bind_some _ _).symm.trans H; rw [hy368]; with_reducible exact H2_) | (have H2_ := (Option.bind_some _ _).symm.trans H; with_reducible exact H2_) | with_reducible exact H | (rw [hy368]; exact H) | exact H
    have Ny368 := Aside0.mk hy368
    clear hy368
    simp only [Option.some.injEq, Prod.mk.injEq] at H
    obtain ⟨rfl, rfl⟩ := H
    have p358 : 0 ≤ (x14_1 : Int) := od_
    have q358 : x14_1 < (t355.length : Int) := od_
    obtain ⟨ad358, e358, hx358_0⟩ := Kd.at_int (Kd.R_reads' HO_12.out).2.2 x14_1 p358 q358
    cases e358
    replace p358 := eq_true p358
    replace q358 := eq_true q358
    go_wp2_with (first | (refine goesL_ (some 21) rfl rfl Try.func90 (by kernel_rfl) rfl #[.slice A0 l0.length c0, .int .i64 a2, .int .i64 (rd t355 x14_1)] rfl tm_ ?_; (with_reducible refine (spec_l15Number.calls k1 _ _ l0 a2 (rd t355 x14_1) t359 _ ?side1 ?side2 A10.out).mono ?_); (case side1 => exact Kd.C_kept_now HR0.out (hk_ HK)); (case side2 => exact HC0.out); rintro e w36 ⟨rfl, hb⟩; refine ⟨_, rfl, ?_⟩; replace HO_1 := rb_ HO_1 hb; replace HO_12 := rb_ HO_12 hb; replace HK := Aside0.mk (Kept.below (S := (fun k_ => P1_ k_)) (hk_ HK) hb); replace HB := bst_ HB hb; clear hb; have p360 : 0 ≤ (t359 : Int) := od_; have q360 : t359 < (l0.length : Int) := od_; obtain ⟨ad360, e360, hx360_0, hx360_1, hx360_2⟩ := at_T47 (Kd.C_kept_now HR0.out HK.out) t359 p360 q360; cases e360; replace p360 := eq_true p360; replace q360 := eq_true q360; have p366 : 0 ≤ (t359 : Int) := od_; have q366 : t359 < (l0.length : Int) := od_; obtain ⟨ad366, e366, hx366_0, hx366_1, hx366_2⟩ := at_T47 (Kd.C_kept_now HR0.out HK.out) t359 p366 q366; obtain rfl : ad360 = ad366 := (by injection e366); replace p366 := eq_true p366; replace q366 := eq_true q366; obtain ⟨Ao37, co37, eo37⟩ := Kd.R_slice HO_1.out; subst eo37; have p367 : 0 ≤ (t359 : Int) := od_; have q367 : t359 < (x1_1.length : Int) := od_; obtain ⟨ad367, e367, hx367_0⟩ := Kd.at_int (Kd.R_reads' HO_1.out).2.2 t359 p367 q367; cases e367; replace p367 := eq_true p367; replace q367 := eq_true q367; have p35 : 0 ≤ (t359 : Int) := od_; have q35 : (t359 : Int) < ((x1_1.length : Int) : Int) := od_; obtain ⟨go35, co35, eo35, gb35, gl35, cl35, HG35⟩ := Kd.R_form HO_1.out (by omega); (first | cases eo35 | (injection eo35 with ea_ en_ ec_; (first | subst ea_ | (injection ea_ with ea_; subst ea_)); subst ec_; clear en_)); have GB35 := Aside0.mk gb35; have GG35 := Aside0.mk HG35; clear gb35 gl35 HG35; have HMgo35 := Aside0.mk (show (P1_ go35 ∨ w.heap.size ≤ go35) from (HO_1.out.1 _ rfl).1); (first | simp only [add_plain] at hx367_0 | skip); obtain ⟨hx35_0, hf35_0⟩ := Kd.R_celln 0 HO_1.out (t359 : Int) p35 q35; replace p35 := eq_true p35; replace q35 := eq_true q35; obtain ⟨hy38_, hz38_⟩ := Kd.R_celln 0 HO_1.out (t359 : Int) (od_) (od_); have HP38 := Kd.R_putg HO_1.out (t359 : Int) 0) | ((with_reducible refine gate_store (t := 3) (p := 54) rfl ?_); refine store_event (t := 3) (p := 54) (v := ?vo_w39) (w1 := (w36.setCell ⟨go35, (t359 : Int).toNat, none⟩ (.int .i64 0))) ?hg ?ho ?hn ?hr ?_; (case ho => rfl); (case hg => rfl); (case hn => rfl); (case hr => first | (go_simp; done) | (go_simp; rfl)); intro w39 hw; have hg : w36.grownBy w39 (some go35) := (by rw [hw]; exact HP38.2); have hp_ : Kd.R (Kd.int .i64) 3 w39 w0.heap.size (fun k_ => (P1_ k_ ∨ w.heap.size ≤ k_) ∧ some k_ ≠ (.slice (some ad358) t355.length co6 : Value).ownBlock) (.slice (some ⟨go35, 0, none⟩) x1_1.length co37) y368 := (by rw [hw, Ny368.out]; exact HP38.1); clear HP38; replace HO_12 := Aside0.mk (Kd.R_after (v := (.slice (some ⟨go35, 0, none⟩) x1_1.length co37)) (v1 := (.slice (some ⟨go35, 0, none⟩) x1_1.length co37)) (ok := (fun k_ => (P1_ k_ ∨ w.heap.size ≤ k_))) (ra HO_12.out) hg (.inl rfl)); replace HB := Aside0.mk ((by rw [hw]; exact below_set (HB.out) GB35.out : Below w0.heap.size w0 w39)); replace HK := Aside0.mk (Kept.of_grown (S := (fun k_ => P1_ k_)) hg (hk_ HK) (fun k_ e_ => (HO_1.out.1 k_ e_).1)); replace HO_1 := Aside0.mk (hp_); clear hg hw hp_))
    go_ret
    exact ⟨rt_, by (with_reducible repeat (first | apply Kd.R_alloc | apply Kd.R_drewN | apply Kd.R_drew)); exact Kd.R_mono HO_1.out (fun _ hk => hk.1), hB HB, hk_ HK⟩
   rw [if_pos c13] at H
   have c13b0 : (((rd_T47 l0 t359).f0) == a2) = true := beq_iff_eq.mpr c13
   have c13b1 : (((rd_T47 l0 t359).f0) != a2) = false := bne_eq_false_iff_eq.mpr c13
   clear c13
   by_cases c14 : t359 < (x1_1.length : Int)
   rotate_left
   ·rw [if_neg c14] at H
    exact absurd H (by simp)
   rw [if_pos c14] at H
   have c14b0 : decide (t359 < (x1_1.length : Int)) = true := decide_eq_true c14
   clear c14
   by_cases c15 : (rd x1_1 t359) = 1
   ·rw [if_pos c15] at H
    have c15b0 : ((rd x1_1 t359) == 1) = true := beq_iff_eq.mpr c15
    have c15b1 : ((rd x1_1 t359) != 1) = false := bne_eq_false_iff_eq.mpr c15
    clear c15
    obtain ⟨y362, hy362⟩ : ∃ y_ : List Int, y_ = (x1_1.set (t359 : Int).toNat 0) := ⟨_, rfl⟩
    replace H : (some (rd t355 x14_1, y362)) = some (r1, r2) := by first | (rw [hy362]; with_reducible exact H) | (have H2_ := (Option.bind_some _ _).symm.trans H; rw [hy362]; with_reducible exact H2_) | (have H2_ := (Option.bind_some _ _).symm.trans H; with_reducible exact H2_) | with_reducible exact H | (rw [hy362]; exact H) | exact H
    have Ny362 := Aside0.mk hy362
    clear hy362
    simp only [Option.some.injEq, Prod.mk.injEq] at H
    obtain ⟨rfl, rfl⟩ := H
    have p358 : 0 ≤ (x14_1 : Int) := od_
    have q358 : x14_1 < (t355.length : Int) := od_
    obtain ⟨ad358, e358, hx358_0⟩ := Kd.at_int (Kd.R_reads' HO_12.out).2.2 x14_1 p358 q358
    cases e358
    replace p358 := eq_true p358
    replace q358 := eq_true q358
    go_wp2_with (first | (refine goesL_ (some 21) rfl rfl Try.func90 (by kernel_rfl) rfl #[.slice A0 l0.length c0, .int .i64 a2, .int .i64 (rd t355 x14_1)] rfl tm_ ?_; (with_reducible refine (spec_l15Number.calls k1 _ _ l0 a2 (rd t355 x14_1) t359 _ ?side1 ?side2 A10.out).mono ?_); (case side1 => exact Kd.C_kept_now HR0.out (hk_ HK)); (case side2 => exact HC0.out); rintro e w17 ⟨rfl, hb⟩; refine ⟨_, rfl, ?_⟩; replace HO_1 := rb_ HO_1 hb; replace HO_12 := rb_ HO_12 hb; replace HK := Aside0.mk (Kept.below (S := (fun k_ => P1_ k_)) (hk_ HK) hb); replace HB := bst_ HB hb; clear hb; have p360 : 0 ≤ (t359 : Int) := od_; have q360 : t359 < (l0.length : Int) := od_; obtain ⟨ad360, e360, hx360_0, hx360_1, hx360_2⟩ := at_T47 (Kd.C_kept_now HR0.out HK.out) t359 p360 q360; cases e360; replace p360 := eq_true p360; replace q360 := eq_true q360; obtain ⟨Ao18, co18, eo18⟩ := Kd.R_slice HO_1.out; subst eo18; have p361 : 0 ≤ (t359 : Int) := od_; have q361 : t359 < (x1_1.length : Int) := od_; obtain ⟨ad361, e361, hx361_0⟩ := Kd.at_int (Kd.R_reads' HO_1.out).2.2 t359 p361 q361; cases e361; replace p361 := eq_true p361; replace q361 := eq_true q361; have p16 : 0 ≤ (t359 : Int) := od_; have q16 : (t359 : Int) < ((x1_1.length : Int) : Int) := od_; obtain ⟨go16, co16, eo16, gb16, gl16, cl16, HG16⟩ := Kd.R_form HO_1.out (by omega); (first | cases eo16 | (injection eo16 with ea_ en_ ec_; (first | subst ea_ | (injection ea_ with ea_; subst ea_)); subst ec_; clear en_)); have GB16 := Aside0.mk gb16; have GG16 := Aside0.mk HG16; clear gb16 gl16 HG16; have HMgo16 := Aside0.mk (show (P1_ go16 ∨ w.heap.size ≤ go16) from (HO_1.out.1 _ rfl).1); (first | simp only [add_plain] at hx361_0 | skip); obtain ⟨hx16_0, hf16_0⟩ := Kd.R_celln 0 HO_1.out (t359 : Int) p16 q16; replace p16 := eq_true p16; replace q16 := eq_true q16; obtain ⟨hy19_, hz19_⟩ := Kd.R_celln 0 HO_1.out (t359 : Int) (od_) (od_); have HP19 := Kd.R_putg HO_1.out (t359 : Int) 0) | ((with_reducible refine gate_store (t := 3) (p := 54) rfl ?_); refine store_event (t := 3) (p := 54) (v := ?vo_w20) (w1 := (w17.setCell ⟨go16, (t359 : Int).toNat, none⟩ (.int .i64 0))) ?hg ?ho ?hn ?hr ?_; (case ho => rfl); (case hg => rfl); (case hn => rfl); (case hr => first | (go_simp; done) | (go_simp; rfl)); intro w20 hw; have hg : w17.grownBy w20 (some go16) := (by rw [hw]; exact HP19.2); have hp_ : Kd.R (Kd.int .i64) 3 w20 w0.heap.size (fun k_ => (P1_ k_ ∨ w.heap.size ≤ k_) ∧ some k_ ≠ (.slice (some ad358) t355.length co6 : Value).ownBlock) (.slice (some ⟨go16, 0, none⟩) x1_1.length co18) y362 := (by rw [hw, Ny362.out]; exact HP19.1); clear HP19; replace HO_12 := Aside0.mk (Kd.R_after (v := (.slice (some ⟨go16, 0, none⟩) x1_1.length co18)) (v1 := (.slice (some ⟨go16, 0, none⟩) x1_1.length co18)) (ok := (fun k_ => (P1_ k_ ∨ w.heap.size ≤ k_))) (ra HO_12.out) hg (.inl rfl)); replace HB := Aside0.mk ((by rw [hw]; exact below_set (HB.out) GB16.out : Below w0.heap.size w0 w20)); replace HK := Aside0.mk (Kept.of_grown (S := (fun k_ => P1_ k_)) hg (hk_ HK) (fun k_ e_ => (HO_1.out.1 k_ e_).1)); replace HO_1 := Aside0.mk (hp_); clear hg hw hp_))
    go_ret
    exact ⟨rt_, by (with_reducible repeat (first | apply Kd.R_alloc | apply Kd.R_drewN | apply Kd.R_drew)); exact Kd.R_mono HO_1.out (fun _ hk => hk.1), hB HB, hk_ HK⟩
   rw [if_neg c15] at H
   have c15b0 : ((rd x1_1 t359) == 1) = false := beq_eq_false_iff_ne.mpr c15
   have c15b1 : ((rd x1_1 t359) != 1) = true := bne_iff_ne.mpr c15
   by_cases c21 : ((rd_T47 l0 t359).f1) = a2
   rotate_left
   ·rw [if_neg c21] at H
    have c21b0 : (((rd_T47 l0 t359).f1) == a2) = false := beq_eq_false_iff_ne.mpr c21
    have c21b1 : (((rd_T47 l0 t359).f1) != a2) = true := bne_iff_ne.mpr c21
    have H' := Aside0.mk H
    clear H
    have p358 : 0 ≤ (x14_1 : Int) := od_
    have q358 : x14_1 < (t355.length : Int) := od_
    obtain ⟨ad358, e358, hx358_0⟩ := Kd.at_int (Kd.R_reads' HO_12.out).2.2 x14_1 p358 q358
    cases e358
    replace p358 := eq_true p358
    replace q358 := eq_true q358
    go_wp2_with (first | (refine goesL_ (some 21) rfl rfl Try.func90 (by kernel_rfl) rfl #[.slice A0 l0.length c0, .int .i64 a2, .int .i64 (rd t355 x14_1)] rfl tm_ ?_; (with_reducible refine (spec_l15Number.calls k1 _ _ l0 a2 (rd t355 x14_1) t359 _ ?side1 ?side2 A10.out).mono ?_); (case side1 => exact Kd.C_kept_now HR0.out (hk_ HK)); (case side2 => exact HC0.out); rintro e w30 ⟨rfl, hb⟩; refine ⟨_, rfl, ?_⟩; replace HO_1 := rb_ HO_1 hb; replace HO_12 := rb_ HO_12 hb; replace HK := Aside0.mk (Kept.below (S := (fun k_ => P1_ k_)) (hk_ HK) hb); replace HB := bst_ HB hb; clear hb; have p360 : 0 ≤ (t359 : Int) := od_; have q360 : t359 < (l0.length : Int) := od_; obtain ⟨ad360, e360, hx360_0, hx360_1, hx360_2⟩ := at_T47 (Kd.C_kept_now HR0.out HK.out) t359 p360 q360; cases e360; replace p360 := eq_true p360; replace q360 := eq_true q360; obtain ⟨Ao31, co31, eo31⟩ := Kd.R_slice HO_1.out; subst eo31; have p361 : 0 ≤ (t359 : Int) := od_; have q361 : t359 < (x1_1.length : Int) := od_; obtain ⟨ad361, e361, hx361_0⟩ := Kd.at_int (Kd.R_reads' HO_1.out).2.2 t359 p361 q361; cases e361; replace p361 := eq_true p361; replace q361 := eq_true q361; have p363 : 0 ≤ (t359 : Int) := od_; have q363 : t359 < (l0.length : Int) := od_; obtain ⟨ad363, e363, hx363_0, hx363_1, hx363_2⟩ := at_T47 (Kd.C_kept_now HR0.out HK.out) t359 p363 q363; obtain rfl : ad360 = ad363 := (by injection e363); replace p363 := eq_true p363; replace q363 := eq_true q363))
    go_roundg k1
    case measure => have := HK1.out; omega
    case rel => exact ⟨(x1_1), (wrap64 (x14_1 + 1)), (by first | rfl | (simp; done) | (simp [*]; done)), H', ⟨by have := HK1.out; omega⟩, ⟨ra HO_1.out⟩, ⟨ra HO_12.out⟩, ⟨hk_ HK⟩, ⟨hB HB⟩⟩
   rw [if_pos c21] at H
   have c21b0 : (((rd_T47 l0 t359).f1) == a2) = true := beq_iff_eq.mpr c21
   have c21b1 : (((rd_T47 l0 t359).f1) != a2) = false := bne_eq_false_iff_eq.mpr c21
   clear c21
   by_cases c22 : (rd x1_1 t359) = (-1)
   rotate_left
   ·rw [if_neg c22] at H
    have c22b0 : ((rd x1_1 t359) == (-1)) = false := beq_eq_false_iff_ne.mpr c22
    have c22b1 : ((rd x1_1 t359) != (-1)) = true := bne_iff_ne.mpr c22
    have H' := Aside0.mk H
    clear H
    have p358 : 0 ≤ (x14_1 : Int) := od_
    have q358 : x14_1 < (t355.length : Int) := od_
    obtain ⟨ad358, e358, hx358_0⟩ := Kd.at_int (Kd.R_reads' HO_12.out).2.2 x14_1 p358 q358
    cases e358
    replace p358 := eq_true p358
    replace q358 := eq_true q358
    go_wp2_with (first | (refine goesL_ (some 21) rfl rfl Try.func90 (by kernel_rfl) rfl #[.slice A0 l0.length c0, .int .i64 a2, .int .i64 (rd t355 x14_1)] rfl tm_ ?_; (with_reducible refine (spec_l15Number.calls k1 _ _ l0 a2 (rd t355 x14_1) t359 _ ?side1 ?side2 A10.out).mono ?_); (case side1 => exact Kd.C_kept_now HR0.out (hk_ HK)); (case side2 => exact HC0.out); rintro e w28 ⟨rfl, hb⟩; refine ⟨_, rfl, ?_⟩; replace HO_1 := rb_ HO_1 hb; replace HO_12 := rb_ HO_12 hb; replace HK := Aside0.mk (Kept.below (S := (fun k_ => P1_ k_)) (hk_ HK) hb); replace HB := bst_ HB hb; clear hb; have p360 : 0 ≤ (t359 : Int) := od_; have q360 : t359 < (l0.length : Int) := od_; obtain ⟨ad360, e360, hx360_0, hx360_1, hx360_2⟩ := at_T47 (Kd.C_kept_now HR0.out HK.out) t359 p360 q360; cases e360; replace p360 := eq_true p360; replace q360 := eq_true q360; obtain ⟨Ao29, co29, eo29⟩ := Kd.R_slice HO_1.out; subst eo29; have p361 : 0 ≤ (t359 : Int) := od_; have q361 : t359 < (x1_1.length : Int) := od_; obtain ⟨ad361, e361, hx361_0⟩ := Kd.at_int (Kd.R_reads' HO_1.out).2.2 t359 p361 q361; cases e361; replace p361 := eq_true p361; replace q361 := eq_true q361; have p363 : 0 ≤ (t359 : Int) := od_; have q363 : t359 < (l0.length : Int) := od_; obtain ⟨ad363, e363, hx363_0, hx363_1, hx363_2⟩ := at_T47 (Kd.C_kept_now HR0.out HK.out) t359 p363 q363; obtain rfl : ad360 = ad363 := (by injection e363); replace p363 := eq_true p363; replace q363 := eq_true q363; have p364 : 0 ≤ (t359 : Int) := od_; have q364 : t359 < (x1_1.length : Int) := od_; obtain ⟨ad364, e364, hx364_0⟩ := Kd.at_int (Kd.R_reads' HO_1.out).2.2 t359 p364 q364; obtain rfl : ad361 = ad364 := (by injection e364); replace p364 := eq_true p364; replace q364 := eq_true q364))
    go_roundg k1
    case measure => have := HK1.out; omega
    case rel => exact ⟨(x1_1), (wrap64 (x14_1 + 1)), (by first | rfl | (simp; done) | (simp [*]; done)), H', ⟨by have := HK1.out; omega⟩, ⟨ra HO_1.out⟩, ⟨ra HO_12.out⟩, ⟨hk_ HK⟩, ⟨hB HB⟩⟩
   rw [if_pos c22] at H
   have c22b0 : ((rd x1_1 t359) == (-1)) = true := beq_iff_eq.mpr c22
   have c22b1 : ((rd x1_1 t359) != (-1)) = false := bne_eq_false_iff_eq.mpr c22
   clear c22
   obtain ⟨y365, hy365⟩ : ∃ y_ : List Int, y_ = (x1_1.set (t359 : Int).toNat 0) := ⟨_, rfl⟩
   replace H : (some (rd t355 x14_1, y365)) = some (r1, r2) := by first | (rw [hy365]; with_reducible exact H) | (have H2_ := (Option.bind_some _ _).symm.trans H; rw [hy365]; with_reducible exact H2_) | (have H2_ := (Option.bind_some _ _).symm.trans H; with_reducible exact H2_) | with_reducible exact H | (rw [hy365]; exact H) | exact H
   have Ny365 := Aside0.mk hy365
   clear hy365
   simp only [Option.some.injEq, Prod.mk.injEq] at H
   obtain ⟨rfl, rfl⟩ := H
   have p358 : 0 ≤ (x14_1 : Int) := od_
   have q358 : x14_1 < (t355.length : Int) := od_
   obtain ⟨ad358, e358, hx358_0⟩ := Kd.at_int (Kd.R_reads' HO_12.out).2.2 x14_1 p358 q358
   cases e358
   replace p358 := eq_true p358
   replace q358 := eq_true q358
   go_wp2_with (first | (refine goesL_ (some 21) rfl rfl Try.func90 (by kernel_rfl) rfl #[.slice A0 l0.length c0, .int .i64 a2, .int .i64 (rd t355 x14_1)] rfl tm_ ?_; (with_reducible refine (spec_l15Number.calls k1 _ _ l0 a2 (rd t355 x14_1) t359 _ ?side1 ?side2 A10.out).mono ?_); (case side1 => exact Kd.C_kept_now HR0.out (hk_ HK)); (case side2 => exact HC0.out); rintro e w24 ⟨rfl, hb⟩; refine ⟨_, rfl, ?_⟩; replace HO_1 := rb_ HO_1 hb; replace HO_12 := rb_ HO_12 hb; replace HK := Aside0.mk (Kept.below (S := (fun k_ => P1_ k_)) (hk_ HK) hb); replace HB := bst_ HB hb; clear hb; have p360 : 0 ≤ (t359 : Int) := od_; have q360 : t359 < (l0.length : Int) := od_; obtain ⟨ad360, e360, hx360_0, hx360_1, hx360_2⟩ := at_T47 (Kd.C_kept_now HR0.out HK.out) t359 p360 q360; cases e360; replace p360 := eq_true p360; replace q360 := eq_true q360; obtain ⟨Ao25, co25, eo25⟩ := Kd.R_slice HO_1.out; subst eo25; have p361 : 0 ≤ (t359 : Int) := od_; have q361 : t359 < (x1_1.length : Int) := od_; obtain ⟨ad361, e361, hx361_0⟩ := Kd.at_int (Kd.R_reads' HO_1.out).2.2 t359 p361 q361; cases e361; replace p361 := eq_true p361; replace q361 := eq_true q361; have p363 : 0 ≤ (t359 : Int) := od_; have q363 : t359 < (l0.length : Int) := od_; obtain ⟨ad363, e363, hx363_0, hx363_1, hx363_2⟩ := at_T47 (Kd.C_kept_now HR0.out HK.out) t359 p363 q363; obtain rfl : ad360 = ad363 := (by injection e363); replace p363 := eq_true p363; replace q363 := eq_true q363; have p364 : 0 ≤ (t359 : Int) := od_; have q364 : t359 < (x1_1.length : Int) := od_; obtain ⟨ad364, e364, hx364_0⟩ := Kd.at_int (Kd.R_reads' HO_1.out).2.2 t359 p364 q364; obtain rfl : ad361 = ad364 := (by injection e364); replace p364 := eq_true p364; replace q364 := eq_true q364; have p23 : 0 ≤ (t359 : Int) := od_; have q23 : (t359 : Int) < ((x1_1.length : Int) : Int) := od_; obtain ⟨go23, co23, eo23, gb23, gl23, cl23, HG23⟩ := Kd.R_form HO_1.out (by omega); (first | cases eo23 | (injection eo23 with ea_ en_ ec_; (first | subst ea_ | (injection ea_ with ea_; subst ea_)); subst ec_; clear en_)); have GB23 := Aside0.mk gb23; have GG23 := Aside0.mk HG23; clear gb23 gl23 HG23; have HMgo23 := Aside0.mk (show (P1_ go23 ∨ w.heap.size ≤ go23) from (HO_1.out.1 _ rfl).1); (first | simp only [add_plain] at hx361_0 | skip); (first | simp only [add_plain] at hx364_0 | skip); obtain ⟨hx23_0, hf23_0⟩ := Kd.R_celln 0 HO_1.out (t359 : Int) p23 q23; replace p23 := eq_true p23; replace q23 := eq_true q23; obtain ⟨hy26_, hz26_⟩ := Kd.R_celln 0 HO_1.out (t359 : Int) (od_) (od_); have HP26 := Kd.R_putg HO_1.out (t359 : Int) 0) | ((with_reducible refine gate_store (t := 3) (p := 54) rfl ?_); refine store_event (t := 3) (p := 54) (v := ?vo_w27) (w1 := (w24.setCell ⟨go23, (t359 : Int).toNat, none⟩ (.int .i64 0))) ?hg ?ho ?hn ?hr ?_; (case ho => rfl); (case hg => rfl); (case hn => rfl); (case hr => first | (go_simp; done) | (go_simp; rfl)); intro w27 hw; have hg : w24.grownBy w27 (some go23) := (by rw [hw]; exact HP26.2); have hp_ : Kd.R (Kd.int .i64) 3 w27 w0.heap.size (fun k_ => (P1_ k_ ∨ w.heap.size ≤ k_) ∧ some k_ ≠ (.slice (some ad358) t355.length co6 : Value).ownBlock) (.slice (some ⟨go23, 0, none⟩) x1_1.length co25) y365 := (by rw [hw, Ny365.out]; exact HP26.1); clear HP26; replace HO_12 := Aside0.mk (Kd.R_after (v := (.slice (some ⟨go23, 0, none⟩) x1_1.length co25)) (v1 := (.slice (some ⟨go23, 0, none⟩) x1_1.length co25)) (ok := (fun k_ => (P1_ k_ ∨ w.heap.size ≤ k_))) (ra HO_12.out) hg (.inl rfl)); replace HB := Aside0.mk ((by rw [hw]; exact below_set (HB.out) GB23.out : Below w0.heap.size w0 w27)); replace HK := Aside0.mk (Kept.of_grown (S := (fun k_ => P1_ k_)) hg (hk_ HK) (fun k_ e_ => (HO_1.out.1 k_ e_).1)); replace HO_1 := Aside0.mk (hp_); clear hg hw hp_))
   go_ret
   exact ⟨rt_, by (with_reducible repeat (first | apply Kd.R_alloc | apply Kd.R_drewN | apply Kd.R_drew)); exact Kd.R_mono HO_1.out (fun _ hk => hk.1), hB HB, hk_ HK⟩

mutual
def spec_l15Ways.l0 : Nat → List (S47) → Int → Int → List Int → List (List Int) → Option ((List (List Int)))
 | 0, _, _, _, _, _ => none
 | k + 1, x1, x2, x3, x9, x10 => (spec_l15Next.f k x1 x9 x2).bind fun bt372 => (if bt372.1 < 0 then (some x10) else (spec_l15Ways.l1 k x1 x2 x3 bt372.2 x10 bt372.1 (([x2, bt372.1] : List Int))))
def spec_l15Ways.l1 : Nat → List (S47) → Int → Int → List Int → List (List Int) → Int → List Int → Option ((List (List Int)))
 | 0, _, _, _, _, _, _, _ => none
 | k + 1, x1, x2, x3, x9, x10, x11, x12 => if x11 = x3 then (if x10.length < 5864062014805 then (spec_l15Ways.l0 k x1 x2 x3 x9 (x10 ++ [x12])) else (none)) else ((spec_l15Next.f k x1 x9 x11).bind fun bt380 => (if x12.length < 17592186044416 then (spec_l15Ways.l1 k x1 x2 x3 bt380.2 x10 bt380.1 (x12 ++ [bt380.1])) else (none)))
end
def spec_l15Ways.f (k : Nat) (a0 : Int) (l1 : List (S47)) (a2 : Int) (a3 : Int) : Option ((List (List Int))) := (spec_l15Flow.f k a0 l1 a2 a3).bind fun t369 => (spec_l15Ways.l0 k l1 a2 a3 t369 ([] : List (List Int)))
theorem spec_l15Ways.mono_l : ∀ k, (∀ y0 y1 y2 y3 y4, LeO (spec_l15Ways.l0 k y0 y1 y2 y3 y4) (spec_l15Ways.l0 (k + 1) y0 y1 y2 y3 y4)) ∧ (∀ y0 y1 y2 y3 y4 y5 y6, LeO (spec_l15Ways.l1 k y0 y1 y2 y3 y4 y5 y6) (spec_l15Ways.l1 (k + 1) y0 y1 y2 y3 y4 y5 y6))
 | 0 => ⟨fun _ _ _ _ _ r h => by simp [spec_l15Ways.l0] at h, fun _ _ _ _ _ _ _ r h => by simp [spec_l15Ways.l1] at h⟩
 | k + 1 => by
  obtain ⟨ih0, ih1⟩ := spec_l15Ways.mono_l k
  refine ⟨?_, ?_⟩
  ·intro y0 y1 y2 y3 y4
   unfold spec_l15Ways.l0
   repeat' first
   | (with_reducible exact ih0 _ _ _ _ _)
   | (with_reducible exact ih1 _ _ _ _ _ _ _)
   | (with_reducible exact spec_l15Flow.mono _ _ _ _ _)
   | (with_reducible exact spec_l15Next.mono _ _ _ _)
   | with_reducible first | exact LeO.refl _ | exact LeO.none _ | refine LeO.ite ?_ ?_ | refine LeO.bind ?_ fun _ => ?_
  ·intro y0 y1 y2 y3 y4 y5 y6
   unfold spec_l15Ways.l1
   repeat' first
   | (with_reducible exact ih0 _ _ _ _ _)
   | (with_reducible exact ih1 _ _ _ _ _ _ _)
   | (with_reducible exact spec_l15Flow.mono _ _ _ _ _)
   | (with_reducible exact spec_l15Next.mono _ _ _ _)
   | with_reducible first | exact LeO.refl _ | exact LeO.none _ | refine LeO.ite ?_ ?_ | refine LeO.bind ?_ fun _ => ?_
theorem spec_l15Ways.mono : ∀ a0 a1 a2 a3 k, LeO (spec_l15Ways.f k a0 a1 a2 a3) (spec_l15Ways.f (k + 1) a0 a1 a2 a3) := by
 intro a0 a1 a2 a3 k
 obtain ⟨ih0, ih1⟩ := spec_l15Ways.mono_l k
 unfold spec_l15Ways.f
 repeat' first
   | (with_reducible exact ih0 _ _ _ _ _)
   | (with_reducible exact ih1 _ _ _ _ _ _ _)
   | (with_reducible exact spec_l15Flow.mono _ _ _ _ _)
   | (with_reducible exact spec_l15Next.mono _ _ _ _)
   | with_reducible first | exact LeO.refl _ | exact LeO.none _ | refine LeO.ite ?_ ?_ | refine LeO.bind ?_ fun _ => ?_
set_option maxHeartbeats 8000000 in
set_option maxRecDepth 100000 in
theorem spec_l15Ways.calls (k : Nat) (a0 : Int) (A1 : Option Addr) (c1 : Nat) (l1 : List (S47)) (a2 : Int) (a3 : Int) (r : List (List Int)) (w : World) (hr1 : Kd.C k47 w A1 l1.length l1) (hc1 : l1.length ≤ c1) (h : spec_l15Ways.f k a0 l1 a2 a3 = some r) :
  Calls Try.prog 65 #[.int .i64 a0, .slice A1 l1.length c1, .int .i64 a2, .int .i64 a3] w fun e w' => ∃ v0_ : Value, e = .returned (v0_) ∧ Kd.S (Kd.slice 3 (Kd.int .i64)) 24 w' w.heap.size (fun _ => True) v0_ r ∧ Below w.heap.size w w' := by
 have HR1 := Aside0.mk hr1
 have HC1 := Aside0.mk hc1
 clear hr1 hc1
 have HB := Aside0.mk (Below.refl w.heap.size w)
 have H : ((spec_l15Flow.f k a0 l1 a2 a3).bind fun t369 => (spec_l15Ways.l0 k l1 a2 a3 t369 ([] : List (List Int)))) = some r := h
 clear h
 replace H := Option.bind_eq_some_iff.mp H
 obtain ⟨t369, A50, H⟩ := H
 replace H : (spec_l15Ways.l0 k l1 a2 a3 t369 ([] : List (List Int))) = some r := H
 have A5 := Aside0.mk A50
 clear A50
 have H' := Aside0.mk H
 clear H
 go_enter Try.func65, Try.ntmps65
 go_wp2_with (first | (refine goesL_ (some 17) rfl rfl Try.func59 (by kernel_rfl) rfl #[.int .i64 a0, .slice A1 l1.length c1, .int .i64 a2, .int .i64 a3] rfl tm_ ?_; (with_reducible refine (spec_l15Flow.calls k a0 _ _ l1 a2 a3 t369 _ ?side1 ?side2 A5.out).mono ?_); (case side1 => exact ca HR1.out); (case side2 => exact HC1.out); rintro e w6 ⟨v370, rfl, ho0, hb⟩; refine ⟨_, rfl, ?_⟩; have HO371 := Aside0.mk (Kd.R_lower ho0 (below_size (hB HB))); replace HB := bst_ HB hb; clear hb ho0))
 go_loopg [10] k (fun kq v10 w' => ∃ (x9_1 : List Int) (x10_1 : List (List Int)), Aside0 (spec_l15Ways.l0 kq l1 a2 a3 x9_1 x10_1 = some r) ∧ Aside0 (kq ≤ k) ∧ Aside0 (Kd.R (Kd.int .i64) 3 w' w.heap.size (fun _ => True) v370 x9_1) ∧ Aside0 (Kd.S (Kd.slice 3 (Kd.int .i64)) 24 w' w.heap.size (fun k_ => no_ v370 k_) v10 x10_1) ∧ Aside0 (Below w.heap.size w w'))
 case atStart => exact ⟨(t369), (([] : List (List Int))), H', ⟨Nat.le_refl _⟩, ⟨ra HO371.out⟩, ⟨by first | exact Kd.S_nil _ _ _ _ _ | exact Kd.N_nil _ _ _ _ _ | exact Kd.V_nil _ _ _ _ _ | exact Kd.Q_nil _ _ _ _ _ | exact Kd.R_nil _ _ _ _ _⟩, ⟨hB HB⟩⟩
 case round =>
  clear H'
  try clear c1
  obtain ⟨x9_1, x10_1, HA, HK1, HO_9, HO_10, HB⟩ := hrel
  cases gk with
  | zero => exact absurd HA.out (by simp [spec_l15Ways.l0])
  | succ k1 =>
   have H := HA.out
   clear HA
   simp only [spec_l15Ways.l0] at H
   replace H := Option.bind_eq_some_iff.mp H
   obtain ⟨⟨t372, t373⟩, A70, H⟩ := H
   replace H : (if t372 < 0 then (some x10_1) else (spec_l15Ways.l1 k1 l1 a2 a3 t373 x10_1 t372 (([a2, t372] : List Int)))) = some r := H
   have A7 := Aside0.mk A70
   clear A70
   by_cases c8 : t372 < 0
   ·rw [if_pos c8] at H
    have c8b0 : decide (t372 < 0) = true := decide_eq_true c8
    clear c8
    obtain rfl := Option.some.inj H
    obtain ⟨Ao9, co9, eo9⟩ := Kd.R_slice HO_9.out
    subst eo9
    go_wp2_with (first | (refine goesL_ (some 21) rfl rfl Try.func108 (by kernel_rfl) rfl #[.slice A1 l1.length c1, .slice Ao9 x9_1.length co9, .int .i64 a2] rfl tm_ ?_; (with_reducible refine (spec_l15Next.calls k1 _ _ l1 (fun k_ => some k_ = (.slice Ao9 x9_1.length co9 : Value).ownBlock) (.slice Ao9 x9_1.length co9) x9_1 a2 t372 t373 w _ ?side1 ?side2 ?side3 ?side4 A7.out).mono ?_); (case side1 => exact hB HB); (case side2 => exact Kd.C_kept_came k47_heap HR1.out (hB HB) (fun k_ hs_ => (fun e_ => Kd.R_base HO_9.out k_ e_.symm) hs_)); (case side3 => exact HC1.out); (case side4 => exact Kd.R_tight rfl HO_9.out); rintro e w10 ⟨rfl, hy0, hb, hkp⟩; refine ⟨_, rfl, ?_⟩; replace HO_9 := Aside0.mk (Kd.R_reok rfl hy0 (fun k_ e_ => HO_9.out.1 k_ e_)); replace HO_10 := Aside0.mk (Kd.S_mono (ok' := fun k_ => no_ (.slice Ao9 x9_1.length co9) k_) (Kd.S_keptB (HO_10.out) hkp (fun k_ hk_ hs_ => (hk_) hs_)) (fun k_ hk_ => hk_.1)); replace HB := Aside0.mk (hb); clear hb))
    go_ret
    exact ⟨_, rt_, by (with_reducible repeat (first | apply Kd.S_alloc | apply Kd.S_drewN | apply Kd.S_drew)); exact Kd.S_mono HO_10.out (fun _ hk => trivial), hB HB⟩
   rw [if_neg c8] at H
   have c8b0 : decide (t372 < 0) = false := decide_eq_false c8
   clear c8
   obtain ⟨y374, hy374⟩ : ∃ y_ : List Int, y_ = (([a2, t372] : List Int)) := ⟨_, rfl⟩
   replace H : (spec_l15Ways.l1 k1 l1 a2 a3 t373 x10_1 t372 y374) = some r := by first | (rw [hy374]; with_reducible exact H) | (have H2_ := (Option.bind_some _ _).symm.trans H; rw [hy374]; with_reducible exact H2_) | (have H2_ := (Option.bind_some _ _).symm.trans H; with_reducible exact H2_) | with_reducible exact H | (rw [hy374]; exact H) | exact H
   have Ny374 := Aside0.mk hy374
   clear hy374
   have H' := Aside0.mk H
   clear H
   obtain ⟨Ao11, co11, eo11⟩ := Kd.R_slice HO_9.out
   subst eo11
   go_wp2_with (first | (refine goesL_ (some 21) rfl rfl Try.func108 (by kernel_rfl) rfl #[.slice A1 l1.length c1, .slice Ao11 x9_1.length co11, .int .i64 a2] rfl tm_ ?_; (with_reducible refine (spec_l15Next.calls k1 _ _ l1 (fun k_ => some k_ = (.slice Ao11 x9_1.length co11 : Value).ownBlock) (.slice Ao11 x9_1.length co11) x9_1 a2 t372 t373 w _ ?side1 ?side2 ?side3 ?side4 A7.out).mono ?_); (case side1 => exact hB HB); (case side2 => exact Kd.C_kept_came k47_heap HR1.out (hB HB) (fun k_ hs_ => (fun e_ => Kd.R_base HO_9.out k_ e_.symm) hs_)); (case side3 => exact HC1.out); (case side4 => exact Kd.R_tight rfl HO_9.out); rintro e w12 ⟨rfl, hy0, hb, hkp⟩; refine ⟨_, rfl, ?_⟩; replace HO_9 := Aside0.mk (Kd.R_reok rfl hy0 (fun k_ e_ => HO_9.out.1 k_ e_)); replace HO_10 := Aside0.mk (Kd.S_mono (ok' := fun k_ => no_ (.slice Ao11 x9_1.length co11) k_) (Kd.S_keptB (HO_10.out) hkp (fun k_ hk_ hs_ => (hk_) hs_)) (fun k_ hk_ => hk_.1)); replace HB := Aside0.mk (hb); clear hb) | ((with_reducible refine gate_dst (N := 27) rfl ?_); refine Kd.R_lit (Kd.int .i64) _ 3 ?hg (N := 27) ?hd (xs := ([a2, t372] : List Int)) (inner := [.int .i64 a2, .int .i64 t372]) (ok := fun _ => True) (okp := fun _ => True) ?hr ?hp (fun _ hk => hk) trivial (Below.refl _ _) (Nat.le_refl _) (by simp) ?_; (case hd => rfl); (case hg => rfl); (case hr => first | (go_simp; done) | (go_simp; rfl)); (case hp => exact (Reps.one (show Kd.M (Kd.int .i64) _ _ _ a2 [.int .i64 a2] from rfl) (Reps.one (show Kd.M (Kd.int .i64) _ _ _ t372 [.int .i64 t372] from rfl) (Reps.none _ _)))); intro v375 w13 ho14 hb hg_ hnew_; clear hg_ hnew_; (first | rw [← Ny374.out] at ho14 | (simp only [Int.reduceToNat] at ho14; rw [← Ny374.out] at ho14)); have HO376 := Aside0.mk (Kd.R_lower (Kd.R_new' ho14 (rl_ HO_9)) (below_size (hB HB))); replace HO_9 := re_ HO_9 ho14 hb; replace HO_10 := Aside0.mk (Kd.S_elder' (sa HO_10.out) (Kd.R_base ho14) hb); replace HB := bst_ HB hb; clear hb ho14))
   go_loopg [11, 12] k1 (fun kq v11 v12 w' => ∃ (x9_2 : List Int) (x11_2 : Int) (x12_2 : List Int), v11 = .int .i64 x11_2 ∧ Aside0 (spec_l15Ways.l1 kq l1 a2 a3 x9_2 x10_1 x11_2 x12_2 = some r) ∧ Aside0 (kq ≤ k1) ∧ Aside0 (Kd.R (Kd.int .i64) 3 w' w.heap.size (fun k_ => no_ v12 k_) (.slice Ao11 x9_1.length co11) x9_2) ∧ Aside0 (Kd.S (Kd.slice 3 (Kd.int .i64)) 24 w' w.heap.size (fun k_ => no_ (.slice Ao11 x9_1.length co11) k_ ∧ no_ v12 k_) u10 x10_1) ∧ Aside0 (Kd.R (Kd.int .i64) 3 w' w.heap.size (fun k_ => no_ (.slice Ao11 x9_1.length co11) k_) v12 x12_2) ∧ Aside0 (Below w.heap.size w w'))
   case atStart => exact ⟨(t373), (t372), (y374), (by first | rfl | (simp; done) | (simp [*]; done)), H', ⟨Nat.le_refl _⟩, rm_ HO_9 (fun _ hk => hk.2), ⟨by (with_reducible repeat (first | apply Kd.S_alloc | apply Kd.S_drewN | apply Kd.S_drew)); exact HO_10.out⟩, rm_ HO376 (fun _ hk => hk.2), ⟨hB HB⟩⟩
   case round =>
    clear H'
    try clear c1
    try clear c8
    try clear c8b0
    obtain ⟨x9_2, x11_2, x12_2, rfl, HA, HK2, HO_9, HO_10, HO_12, HB⟩ := hrel
    have hl9_2 := (Kd.R_reads' HO_9.out).1
    rw [hl9_2] at HO_9
    (try simp only [hl9_2])
    (try simp only [hl9_2] at HO_10)
    (try simp only [hl9_2] at HO_12)
    cases gk with
    | zero => exact absurd HA.out (by simp [spec_l15Ways.l1])
    | succ k2 =>
     have H := HA.out
     clear HA
     simp only [spec_l15Ways.l1] at H
     by_cases c15 : x11_2 = a3
     ·rw [if_pos c15] at H
      have c15b0 : (x11_2 == a3) = true := beq_iff_eq.mpr c15
      have c15b1 : (x11_2 != a3) = false := bne_eq_false_iff_eq.mpr c15
      clear c15
      by_cases c16 : x10_1.length < 5864062014805
      rotate_left
      ·rw [if_neg c16] at H
       exact absurd H (by simp)
      rw [if_pos c16] at H
      have LMc16 := Aside0.mk c16
      clear c16
      obtain ⟨y377, hy377⟩ : ∃ y_ : List (List Int), y_ = (x10_1 ++ [x12_2]) := ⟨_, rfl⟩
      replace H : (spec_l15Ways.l0 k2 l1 a2 a3 x9_2 y377) = some r := by first | (rw [hy377]; with_reducible exact H) | (have H2_ := (Option.bind_some _ _).symm.trans H; rw [hy377]; with_reducible exact H2_) | (have H2_ := (Option.bind_some _ _).symm.trans H; with_reducible exact H2_) | with_reducible exact H | (rw [hy377]; exact H) | exact H
      have Ny377 := Aside0.mk hy377
      clear hy377
      have H' := Aside0.mk H
      clear H
      obtain ⟨Ao18, co18, eo18⟩ := Kd.R_slice HO_12.out
      subst eo18
      go_wp2_with (first | ((with_reducible refine gate_builtin (b := .append) (xs := #[.tmp 39, .tmp 41]) rfl ?_); at_builtin; refine Kd.S_append (Kd.slice 3 (Kd.int .i64)) (w0 := w) w.heap.size rfl (.tmp 39) (.tmp 41) 36 24 (.slice none 0 0) 24 rfl Try.underlying36 info24 rfl (by decide) (by omega) u10 x10_1 x12_2 [.slice Ao18 x12_2.length co18] (fun k_ => no_ (.slice Ao11 x9_2.length co11) k_) (fun k_ => some k_ = (.slice Ao18 x12_2.length co18 : Value).ownBlock) rfl rfl ?aP (fun k_ hk_ => ((Kd.R_mono (ok' := fun k_ => ((fun k_ => no_ (.slice Ao11 x9_2.length co11) k_)) k_ ∧ some k_ ≠ (u10 : Value).ownBlock) (Kd.R_apart' (HO_12.out) (Kd.S_typed HO_10.out) (by decide)) (fun k_ hk => hk))).1 k_ hk_.symm) ?aF ?aO ?aB ?aS ?aL ?_; (case aP => exact Kd.M_row (Kd.R_mono (Kd.R_tight rfl (Kd.R_mono (ok' := fun k_ => ((fun k_ => no_ (.slice Ao11 x9_2.length co11) k_)) k_ ∧ some k_ ≠ (u10 : Value).ownBlock) (Kd.R_apart' (HO_12.out) (Kd.S_typed HO_10.out) (by decide)) (fun k_ hk => hk))) (fun _ h_ => h_))); (case aB => exact (hB HB)); (case aF => exact (fun k_ hk => Kd.fresh' (rl_ HO_9) k_ hk)); (case aO => exact (by (with_reducible repeat (first | apply Kd.S_alloc | apply Kd.S_drewN | apply Kd.S_drew)); exact Kd.S_mono HO_10.out (fun k_ hk => ⟨hk.1, fun e_ => hk.2 e_⟩))); (case aS => exact (below_size (hB HB))); (case aL => have := LMc16.out; omega); intro v378 w17 ho hb hg hat; rw [← Ny377.out] at ho; have HO379 := Aside0.mk (ho); replace HO_9 := Aside0.mk (Kd.R_over' (ra HO_9.out) (Kd.S_typed (sa HO_10.out)) (by decide) hg); replace HB := Aside0.mk (hb); clear HO_10 HO_12; clear ho hb hg hat))
      (try simp only [← hl9_2])
      go_roundg k2
      case measure => have := HK1.out; have := HK2.out; omega
      case rel => exact ⟨(x9_2), (y377), H', ⟨by have := HK1.out; have := HK2.out; omega⟩, ⟨by (try simp only [hl9_2]); (with_reducible repeat (first | apply Kd.R_alloc | apply Kd.R_drewN | apply Kd.R_drew)); exact Kd.R_mono HO_9.out (fun _ hk => trivial)⟩, ⟨by (try simp only [hl9_2]); (with_reducible repeat (first | apply Kd.S_alloc | apply Kd.S_drewN | apply Kd.S_drew)); exact HO379.out⟩, ⟨hB HB⟩⟩
     rw [if_neg c15] at H
     have c15b0 : (x11_2 == a3) = false := beq_eq_false_iff_ne.mpr c15
     have c15b1 : (x11_2 != a3) = true := bne_iff_ne.mpr c15
     replace H := Option.bind_eq_some_iff.mp H
     obtain ⟨⟨t380, t381⟩, A190, H⟩ := H
     replace H : (if x12_2.length < 17592186044416 then (spec_l15Ways.l1 k2 l1 a2 a3 t381 x10_1 t380 (x12_2 ++ [t380])) else (none)) = some r := H
     have A19 := Aside0.mk A190
     clear A190
     by_cases c20 : x12_2.length < 17592186044416
     rotate_left
     ·rw [if_neg c20] at H
      exact absurd H (by simp)
     rw [if_pos c20] at H
     have LMc20 := Aside0.mk c20
     clear c20
     obtain ⟨y382, hy382⟩ : ∃ y_ : List Int, y_ = (x12_2 ++ [t380]) := ⟨_, rfl⟩
     replace H : (spec_l15Ways.l1 k2 l1 a2 a3 t381 x10_1 t380 y382) = some r := by first | (rw [hy382]; with_reducible exact H) | (have H2_ := (Option.bind_some _ _).symm.trans H; rw [hy382]; with_reducible exact H2_) | (have H2_ := (Option.bind_some _ _).symm.trans H; with_reducible exact H2_) | with_reducible exact H | (rw [hy382]; exact H) | exact H
     have Ny382 := Aside0.mk hy382
     clear hy382
     have H' := Aside0.mk H
     clear H
     go_wp2_with (first | (refine goesL_ (some 34) rfl rfl Try.func108 (by kernel_rfl) rfl #[.slice A1 l1.length c1, .slice Ao11 x9_2.length co11, .int .i64 x11_2] rfl tm_ ?_; (with_reducible refine (spec_l15Next.calls k2 _ _ l1 (fun k_ => some k_ = (.slice Ao11 x9_2.length co11 : Value).ownBlock) (.slice Ao11 x9_2.length co11) x9_2 x11_2 t380 t381 w _ ?side1 ?side2 ?side3 ?side4 A19.out).mono ?_); (case side1 => exact hB HB); (case side2 => exact Kd.C_kept_came k47_heap HR1.out (hB HB) (fun k_ hs_ => (fun e_ => Kd.R_base HO_9.out k_ e_.symm) hs_)); (case side3 => exact HC1.out); (case side4 => exact Kd.R_tight rfl HO_9.out); rintro e w21 ⟨rfl, hy0, hb, hkp⟩; refine ⟨_, rfl, ?_⟩; replace HO_9 := Aside0.mk (Kd.R_reok rfl hy0 (fun k_ e_ => HO_9.out.1 k_ e_)); replace HO_10 := Aside0.mk (Kd.S_mono (ok' := fun k_ => no_ (.slice Ao11 x9_2.length co11) k_ ∧ some k_ ≠ (u12 : Value).ownBlock) (Kd.S_keptB (HO_10.out) hkp (fun k_ hk_ hs_ => (hk_.1) hs_)) (fun k_ hk_ => ⟨hk_.1.1, hk_.1.2⟩)); replace HO_12 := Aside0.mk (Kd.R_mono (ok' := fun k_ => no_ (.slice Ao11 x9_2.length co11) k_) (Kd.R_keptB (HO_12.out) hkp (fun k_ hk_ hs_ => (hk_) hs_)) (fun k_ hk_ => hk_.1)); replace HB := Aside0.mk (hb); clear hb) | ((with_reducible refine gate_builtin (b := .append) (xs := #[.tmp 35, .tmp 37]) rfl ?_); at_builtin; refine Kd.R_append (Kd.int .i64) (w0 := w) w.heap.size rfl (.tmp 35) (.tmp 37) 24 3 (.int .i64 0) 8 rfl Try.underlying24 info3 rfl (by decide) (by omega) u12 x12_2 t380 [.int .i64 t380] (fun k_ => no_ (.slice Ao11 x9_2.length co11) k_) (fun _ => False) rfl rfl ?aP (fun _ hk => hk.elim) ?aF ?aO ?aB ?aS ?aL ?_; (case aP => exact rfl); (case aB => exact (hB HB)); (case aF => exact (fun k_ hk => Kd.fresh' (rl_ HO_9) k_ hk)); (case aO => exact (ra HO_12.out)); (case aS => exact (below_size (hB HB))); (case aL => have := LMc20.out; omega); intro v383 w22 ho hb hg hat; rw [← Ny382.out] at ho; have HO384 := Aside0.mk (ho); replace HO_9 := Aside0.mk (Kd.R_after (ok := (fun _ => True)) (rm_ HO_9 (fun _ hk => ⟨trivial, hk⟩)).out hg hat); replace HO_10 := Aside0.mk (Kd.S_after (ok := (fun k_ => no_ (.slice Ao11 x9_2.length co11) k_)) (sa HO_10.out) hg hat); replace HB := Aside0.mk (hb); clear HO_12; clear ho hb hg hat))
     (try simp only [← hl9_2])
     go_roundg k2
     case measure => have := HK1.out; have := HK2.out; omega
     case rel => exact ⟨(t381), (t380), (y382), (by first | rfl | (simp; done) | (simp [*]; done)), H', ⟨by have := HK1.out; have := HK2.out; omega⟩, ⟨by (try simp only [hl9_2]); (with_reducible repeat (first | apply Kd.R_alloc | apply Kd.R_drewN | apply Kd.R_drew)); exact Kd.R_mono HO_9.out (fun _ hk => hk.2)⟩, ⟨by (try simp only [hl9_2]); (with_reducible repeat (first | apply Kd.S_alloc | apply Kd.S_drewN | apply Kd.S_drew)); exact HO_10.out⟩, ⟨by (try simp only [hl9_2]); (with_reducible repeat (first | apply Kd.R_alloc | apply Kd.R_drewN | apply Kd.R_drew)); exact HO384.out⟩, ⟨hB HB⟩⟩

-- NOT PRINTED: function 18 (spec_BackupFor)


def KeepSz (w w' : World) (_ : Nat) (_ : Option Nat) : Prop := w.heap.size ≤ w'.heap.size
theorem KeepSz.refl (w : World) (g : Nat) (row : Option Nat) : KeepSz w w g row := Nat.le_refl _
theorem KeepSz.of_grown {w w1 : World} {row : Option Nat} (h : w.grownBy w1 row) (g : Nat) : KeepSz w w1 g row := h.size
theorem KeepSz.of_below {w w1 : World} (h : Below w.heap.size w w1) (g : Nat) (row : Option Nat) : KeepSz w w1 g row := h.size
theorem KeepSz.of_all {w w1 : World} {g : Nat} {row : Option Nat} (h : KeepAll w w1 g row) : KeepSz w w1 g row := keepA_size h
theorem KeepSz.trans {w w1 w2 : World} {g : Nat} {row row1 : Option Nat} (h : KeepSz w w1 g row) (k : KeepSz w1 w2 g row1) (_ : row1 = row ∨ ∃ b, row1 = some b ∧ w.heap.size ≤ b) : KeepSz w w2 g row := Nat.le_trans h k
theorem keepS_drewN {w W : World} {g : Nat} {row : Option Nat} (h : KeepSz w W g row) (m : Nat) : KeepSz w (W.drewN m) g row := h
theorem keepS_drew {w W : World} {g : Nat} {row : Option Nat} (h : KeepSz w W g row) : KeepSz w W.drew g row := h
theorem keepS_alloc {w W : World} {g : Nat} (h : KeepSz w W g none) (o : Obj) : KeepSz w (W.alloc o) g none := Nat.le_trans h (by simp)
theorem keepS_size {w W : World} {g : Nat} {row : Option Nat} (h : KeepSz w W g row) : w.heap.size ≤ W.heap.size := h
section
variable {wb w0 W : World} {g : Nat} {f0 : Int} {f1 : List (S47)} {A2 : Option Addr} {c2 : Nat} {f2 : List Int}
theorem IsF109.ge (h : IsF109 wb w0 W g f0 f1 A2 c2 f2) : w0.heap.size ≤ g := by
  obtain ⟨_, _, _, h2, _⟩ := h
  exact h2
theorem IsF109.grown {W1 : World} {row : Option Nat} (h : IsF109 wb w0 W g f0 f1 A2 c2 f2) (hw : W.grownBy W1 row) (hne : some g ≠ row) : IsF109 wb w0 W1 g f0 f1 A2 c2 f2 := by
  obtain ⟨A1, c1, h1, h2, h3⟩ := h
  exact ⟨A1, c1, blk_grown h1 hw hne, h2, h3⟩
theorem IsF109.below {W1 : World} (h : IsF109 wb w0 W g f0 f1 A2 c2 f2) (hw : Below W.heap.size W W1) : IsF109 wb w0 W1 g f0 f1 A2 c2 f2 := h.grown (grown_of_below hw none) (by simp)
theorem IsF109.alloc (h : IsF109 wb w0 W g f0 f1 A2 c2 f2) (o : Obj) : IsF109 wb w0 (W.alloc o) g f0 f1 A2 c2 f2 := h.below (below_alloc (Below.refl _ _) o)
end
theorem below_weaken_ {wb w0 W : World} (h : Below wb.heap.size wb w0) (k : Below w0.heap.size w0 W) : Below wb.heap.size w0 W := ⟨k.os, k.tape, k.output, k.size, fun i hi => k.block i (Nat.lt_of_lt_of_le hi h.size)⟩
mutual
def impl_flow_ways.l0 : Nat → Int → Int → List (List Int) → Int → List (S47) → List Int → Option ((List (List Int)) × Int)
 | 0, _, _, _, _, _, _ => none
 | k + 1, x1, x2, x7, x1000, x1001, x1002 => impl_flow_ways.l1 k x1 x2 x7 (([x1] : List Int)) x1 x1000 x1001 x1002
def impl_flow_ways.l1 : Nat → Int → Int → List (List Int) → List Int → Int → Int → List (S47) → List Int → Option ((List (List Int)) × Int)
 | 0, _, _, _, _, _, _, _, _ => none
 | k + 1, x1, x2, x7, x8, x9, x1000, x1001, x1002 => if x9 = x2 then (if x7.length < 5864062014805 then (impl_flow_ways.l0 k x1 x2 (x7 ++ [x8]) x1000 x1001 x1002) else (none)) else (impl_flow_ways.l2 k x1 x2 x7 x8 x9 (-1) 0 x1000 x1001 x1002)
def impl_flow_ways.l2 : Nat → Int → Int → List (List Int) → List Int → Int → Int → Int → Int → List (S47) → List Int → Option ((List (List Int)) × Int)
 | 0, _, _, _, _, _, _, _, _, _, _ => none
 | k + 1, x1, x2, x7, x8, x9, x10, x11, x1000, x1001, x1002 => if x11 < x1000 then (impl_flow_ways.j3 k x1 x2 x7 x8 x9 x10 x11 (decide (x10 < 0)) x1000 x1001 x1002) else (impl_flow_ways.j3 k x1 x2 x7 x8 x9 x10 x11 false x1000 x1001 x1002)
def impl_flow_ways.j3 : Nat → Int → Int → List (List Int) → List Int → Int → Int → Int → Bool → Int → List (S47) → List Int → Option ((List (List Int)) × Int)
 | 0, _, _, _, _, _, _, _, _, _, _, _ => none
 | k + 1, x1, x2, x7, x8, x9, x10, x11, x29, x1000, x1001, x1002 => if x29 = true then ((impl_flow_edge.f k x1000 x1001 x1002 x9 x11).bind fun bt397 => (if bt397.1 ≥ 0 then (if 0 ≤ bt397.1 then (if bt397.1 < (x1002.length : Int) then (if (rd x1002 bt397.1) = bt397.2.1 then (impl_flow_ways.l2 k x1 x2 x7 x8 x9 x11 (wrap64 (x11 + 1)) bt397.2.2 x1001 (x1002.set bt397.1.toNat 0)) else (impl_flow_ways.l2 k x1 x2 x7 x8 x9 x10 (wrap64 (x11 + 1)) bt397.2.2 x1001 x1002)) else (none)) else (none)) else (impl_flow_ways.l2 k x1 x2 x7 x8 x9 x10 (wrap64 (x11 + 1)) bt397.2.2 x1001 x1002))) else (if x10 < 0 then (some (x7, x1000)) else (if x8.length < 17592186044416 then (impl_flow_ways.l1 k x1 x2 x7 (x8 ++ [x10]) x10 x1000 x1001 x1002) else (none)))
end
def impl_flow_ways.f (k : Nat) (s0_0 : Int) (s0_1 : List (S47)) (s0_2 : List Int) (a1 : Int) (a2 : Int) : Option ((List (List Int)) × Int) := impl_flow_ways.l0 k a1 a2 ([] : List (List Int)) s0_0 s0_1 s0_2
theorem impl_flow_ways.mono_l : ∀ k, (∀ y0 y1 y2 y3 y4 y5, LeO (impl_flow_ways.l0 k y0 y1 y2 y3 y4 y5) (impl_flow_ways.l0 (k + 1) y0 y1 y2 y3 y4 y5)) ∧ (∀ y0 y1 y2 y3 y4 y5 y6 y7, LeO (impl_flow_ways.l1 k y0 y1 y2 y3 y4 y5 y6 y7) (impl_flow_ways.l1 (k + 1) y0 y1 y2 y3 y4 y5 y6 y7)) ∧ (∀ y0 y1 y2 y3 y4 y5 y6 y7 y8 y9, LeO (impl_flow_ways.l2 k y0 y1 y2 y3 y4 y5 y6 y7 y8 y9) (impl_flow_ways.l2 (k + 1) y0 y1 y2 y3 y4 y5 y6 y7 y8 y9)) ∧ (∀ y0 y1 y2 y3 y4 y5 y6 y7 y8 y9 y10, LeO (impl_flow_ways.j3 k y0 y1 y2 y3 y4 y5 y6 y7 y8 y9 y10) (impl_flow_ways.j3 (k + 1) y0 y1 y2 y3 y4 y5 y6 y7 y8 y9 y10))
 | 0 => ⟨fun _ _ _ _ _ _ r h => by simp [impl_flow_ways.l0] at h, fun _ _ _ _ _ _ _ _ r h => by simp [impl_flow_ways.l1] at h, fun _ _ _ _ _ _ _ _ _ _ r h => by simp [impl_flow_ways.l2] at h, fun _ _ _ _ _ _ _ _ _ _ _ r h => by simp [impl_flow_ways.j3] at h⟩
 | k + 1 => by
  obtain ⟨ih0, ih1, ih2, ih3⟩ := impl_flow_ways.mono_l k
  refine ⟨?_, ?_, ?_, ?_⟩
  ·intro y0 y1 y2 y3 y4 y5
   unfold impl_flow_ways.l0
   repeat' first
   | (with_reducible exact ih0 _ _ _ _ _ _)
   | (with_reducible exact ih1 _ _ _ _ _ _ _ _)
   | (with_reducible exact ih2 _ _ _ _ _ _ _ _ _ _)
   | (with_reducible exact ih3 _ _ _ _ _ _ _ _ _ _ _)
   | (with_reducible exact impl_flow_edge.mono _ _ _ _ _ _)
   | with_reducible first | exact LeO.refl _ | exact LeO.none _ | refine LeO.ite ?_ ?_ | refine LeO.bind ?_ fun _ => ?_
  ·intro y0 y1 y2 y3 y4 y5 y6 y7
   unfold impl_flow_ways.l1
   repeat' first
   | (with_reducible exact ih0 _ _ _ _ _ _)
   | (with_reducible exact ih1 _ _ _ _ _ _ _ _)
   | (with_reducible exact ih2 _ _ _ _ _ _ _ _ _ _)
   | (with_reducible exact ih3 _ _ _ _ _ _ _ _ _ _ _)
   | (with_reducible exact impl_flow_edge.mono _ _ _ _ _ _)
   | with_reducible first | exact LeO.refl _ | exact LeO.none _ | refine LeO.ite ?_ ?_ | refine LeO.bind ?_ fun _ => ?_
  ·intro y0 y1 y2 y3 y4 y5 y6 y7 y8 y9
   unfold impl_flow_ways.l2
   repeat' first
   | (with_reducible exact ih0 _ _ _ _ _ _)
   | (with_reducible exact ih1 _ _ _ _ _ _ _ _)
   | (with_reducible exact ih2 _ _ _ _ _ _ _ _ _ _)
   | (with_reducible exact ih3 _ _ _ _ _ _ _ _ _ _ _)
   | (with_reducible exact impl_flow_edge.mono _ _ _ _ _ _)
   | with_reducible first | exact LeO.refl _ | exact LeO.none _ | refine LeO.ite ?_ ?_ | refine LeO.bind ?_ fun _ => ?_
  ·intro y0 y1 y2 y3 y4 y5 y6 y7 y8 y9 y10
   unfold impl_flow_ways.j3
   repeat' first
   | (with_reducible exact ih0 _ _ _ _ _ _)
   | (with_reducible exact ih1 _ _ _ _ _ _ _ _)
   | (with_reducible exact ih2 _ _ _ _ _ _ _ _ _ _)
   | (with_reducible exact ih3 _ _ _ _ _ _ _ _ _ _ _)
   | (with_reducible exact impl_flow_edge.mono _ _ _ _ _ _)
   | with_reducible first | exact LeO.refl _ | exact LeO.none _ | refine LeO.ite ?_ ?_ | refine LeO.bind ?_ fun _ => ?_
theorem impl_flow_ways.mono : ∀ a0 a1 a2 a3 a4 k, LeO (impl_flow_ways.f k a0 a1 a2 a3 a4) (impl_flow_ways.f (k + 1) a0 a1 a2 a3 a4) := by
 intro a0 a1 a2 a3 a4 k
 obtain ⟨ih0, ih1, ih2, ih3⟩ := impl_flow_ways.mono_l k
 unfold impl_flow_ways.f
 repeat' first
   | (with_reducible exact ih0 _ _ _ _ _ _)
   | (with_reducible exact ih1 _ _ _ _ _ _ _ _)
   | (with_reducible exact ih2 _ _ _ _ _ _ _ _ _ _)
   | (with_reducible exact ih3 _ _ _ _ _ _ _ _ _ _ _)
   | (with_reducible exact impl_flow_edge.mono _ _ _ _ _ _)
   | with_reducible first | exact LeO.refl _ | exact LeO.none _ | refine LeO.ite ?_ ?_ | refine LeO.bind ?_ fun _ => ?_
set_option maxHeartbeats 8000000 in
set_option maxRecDepth 100000 in
theorem impl_flow_ways.calls (k : Nat) (g : Nat) (s0_0 : Int) (s0_1 : List (S47)) (s0_2 : List Int) (a1 : Int) (a2 : Int) (r1 : List (List Int)) (r2 : Int) (A2 : Option Addr) (c2 : Nat) (ok : Nat → Prop) (wb wz w : World) (hI : IsF109 wb wz w g s0_0 s0_1 A2 c2 s0_2) (hO : Kd.R (Kd.int .i64) 3 wz wb.heap.size ok (.slice A2 s0_2.length c2) s0_2) (hbb : Below wb.heap.size wb wz) (hB : Below wz.heap.size wz w) (h : impl_flow_ways.f k s0_0 s0_1 s0_2 a1 a2 = some (r1, r2)) :
  Calls Try.prog 109 #[.pointer (some ⟨g, 0, none⟩), .int .i64 a1, .int .i64 a2] w fun e w' => ∃ v0_ : Value, e = .returned (v0_) ∧ Kd.S (Kd.slice 3 (Kd.int .i64)) 24 w' w.heap.size (fun _ => True) v0_ r1 ∧ Below wb.heap.size wb w' := by
 have HI0 := Aside0.mk hI
 have HGL := Aside0.mk (IsF109.lt hI)
 have HU := Aside0.mk hO
 have HD := Aside0.mk hbb
 have HK := Aside0.mk (KeepSz.refl w g none)
 have HB := Aside0.mk hB
 clear hI hO hbb hB
 have H : (impl_flow_ways.l0 k a1 a2 ([] : List (List Int)) s0_0 s0_1 s0_2) = some (r1, r2) := h
 clear h
 have H' := Aside0.mk H
 clear H
 go_enter Try.func109, Try.ntmps109
 go_wp2
 go_loopg [7] k (fun kq v7 w' => ∃ (x7_1 : List (List Int)) (x1000_1 : Int) (x1002_1 : List Int) (w0 : World), Aside0 (impl_flow_ways.l0 kq a1 a2 x7_1 x1000_1 s0_1 x1002_1 = some (r1, r2)) ∧ Aside0 (kq ≤ k) ∧ Aside0 (Kd.S (Kd.slice 3 (Kd.int .i64)) 24 w' w.heap.size (fun _ => True) v7 x7_1) ∧ Aside0 (IsF109 wb w0 w' g x1000_1 s0_1 A2 c2 x1002_1) ∧ Aside0 (Kd.R (Kd.int .i64) 3 w0 wb.heap.size ok (.slice A2 x1002_1.length c2) x1002_1) ∧ Aside0 (Below wb.heap.size wb w0) ∧ Aside0 (KeepSz w w' g none) ∧ Aside0 (Below w0.heap.size w0 w'))
 case atStart => exact ⟨(([] : List (List Int))), (s0_0), s0_2, wz, H', ⟨Nat.le_refl _⟩, ⟨by first | exact Kd.S_nil _ _ _ _ _ | exact Kd.N_nil _ _ _ _ _ | exact Kd.V_nil _ _ _ _ _ | exact Kd.Q_nil _ _ _ _ _ | exact Kd.R_nil _ _ _ _ _⟩, ⟨by repeat (first | (with_reducible first | exact HI0.out | apply IsF109.alloc | apply IsF109.drewN | apply IsF109.drew) | exact HI0.out)⟩, HU, HD, ⟨by repeat (first | (with_reducible first | exact HK.out | apply keepS_drewN | apply keepS_drew | apply keepS_alloc) | exact HK.out)⟩, ⟨by repeat (first | (with_reducible first | exact HB.out | apply below_alloc | apply pw_below_drewN | apply below_drew1) | exact HB.out)⟩⟩
 case round =>
  clear H'
  obtain ⟨x7_1, x1000_1, x1002_1, w0, HA, HK1, HO_7, HI0, HU, HD, HK, HB⟩ := hrel
  cases gk with
  | zero => exact absurd HA.out (by simp [impl_flow_ways.l0])
  | succ k1 =>
   have H := HA.out
   clear HA
   simp only [impl_flow_ways.l0] at H
   obtain ⟨y391, hy391⟩ : ∃ y_ : List Int, y_ = (([a1] : List Int)) := ⟨_, rfl⟩
   replace H : (impl_flow_ways.l1 k1 a1 a2 x7_1 y391 a1 x1000_1 s0_1 x1002_1) = some (r1, r2) := by first | (rw [hy391]; with_reducible exact H) | (have H2_ := (Option.bind_some _ _).symm.trans H; rw [hy391]; with_reducible exact H2_) | (have H2_ := (Option.bind_some _ _).symm.trans H; with_reducible exact H2_) | with_reducible exact H | (rw [hy391]; exact H) | exact H
   have Ny391 := Aside0.mk hy391
   clear hy391
   have H' := Aside0.mk H
   clear H
   go_wp2_with (first | ((with_reducible refine gate_dst (N := 15) rfl ?_); refine Kd.R_lit (Kd.int .i64) _ 3 ?hg (N := 15) ?hd (xs := ([a1] : List Int)) (inner := [.int .i64 a1]) (ok := fun _ => True) (okp := fun _ => True) ?hr ?hp (fun _ hk => hk) trivial (Below.refl _ _) (Nat.le_refl _) (by simp) ?_; (case hd => rfl); (case hg => rfl); (case hr => first | (go_simp; done) | (go_simp; rfl)); (case hp => exact (Reps.one (show Kd.M (Kd.int .i64) _ _ _ a1 [.int .i64 a1] from rfl) (Reps.none _ _))); intro v392 w4 ho5 hb hg_ hnew_; clear hg_ hnew_; (first | rw [← Ny391.out] at ho5 | (simp only [Int.reduceToNat] at ho5; rw [← Ny391.out] at ho5)); have HO393 := Aside0.mk (Kd.R_lower ho5 (keepS_size (w := w) (g := g) (row := none) (by repeat (first | (with_reducible first | exact HK.out | apply keepS_drewN | apply keepS_drew | apply keepS_alloc) | exact HK.out)))); replace HO_7 := Aside0.mk (Kd.S_elder' (sa HO_7.out) (Kd.R_base ho5) hb); replace HK := Aside0.mk (KeepSz.trans (by repeat (first | (with_reducible first | exact HK.out | apply keepS_drewN | apply keepS_drew | apply keepS_alloc) | exact HK.out)) (KeepSz.of_below hb g none) (.inl rfl)); replace HB := Aside0.mk (below_step (by repeat (first | (with_reducible first | exact HB.out | apply below_alloc | apply pw_below_drewN | apply below_drew1) | exact HB.out)) hb); replace HI0 := Aside0.mk (IsF109.below (by repeat (first | (with_reducible first | exact HI0.out | apply IsF109.alloc | apply IsF109.drewN | apply IsF109.drew) | exact HI0.out)) hb); clear hb ho5))
   go_loopg [8, 9] k1 (fun kq v8 v9 w' => ∃ (x8_2 : List Int) (x9_2 : Int) (x1000_2 : Int) (x1002_2 : List Int) (w0 : World), v9 = .int .i64 x9_2 ∧ Aside0 (impl_flow_ways.l1 kq a1 a2 x7_1 x8_2 x9_2 x1000_2 s0_1 x1002_2 = some (r1, r2)) ∧ Aside0 (kq ≤ k1) ∧ Aside0 (Kd.S (Kd.slice 3 (Kd.int .i64)) 24 w' w.heap.size (fun k_ => no_ v8 k_) u7 x7_1) ∧ Aside0 (Kd.R (Kd.int .i64) 3 w' w.heap.size (fun _ => True) v8 x8_2) ∧ Aside0 (IsF109 wb w0 w' g x1000_2 s0_1 A2 c2 x1002_2) ∧ Aside0 (Kd.R (Kd.int .i64) 3 w0 wb.heap.size ok (.slice A2 x1002_2.length c2) x1002_2) ∧ Aside0 (Below wb.heap.size wb w0) ∧ Aside0 (KeepSz w w' g none) ∧ Aside0 (Below w0.heap.size w0 w'))
   case atStart => exact ⟨(y391), (a1), (x1000_1), x1002_1, w0, (by first | rfl | (simp; done) | (simp [*]; done)), H', ⟨Nat.le_refl _⟩, ⟨by (with_reducible repeat (first | apply Kd.S_alloc | apply Kd.S_drewN | apply Kd.S_drew)); exact Kd.S_mono HO_7.out (fun _ hk => hk.2)⟩, ⟨ra HO393.out⟩, ⟨by repeat (first | (with_reducible first | exact HI0.out | apply IsF109.alloc | apply IsF109.drewN | apply IsF109.drew) | exact HI0.out)⟩, HU, HD, ⟨by repeat (first | (with_reducible first | exact HK.out | apply keepS_drewN | apply keepS_drew | apply keepS_alloc) | exact HK.out)⟩, ⟨by repeat (first | (with_reducible first | exact HB.out | apply below_alloc | apply pw_below_drewN | apply below_drew1) | exact HB.out)⟩⟩
   case round =>
    clear H'
    obtain ⟨x8_2, x9_2, x1000_2, x1002_2, w0, rfl, HA, HK2, HO_7, HO_8, HI0, HU, HD, HK, HB⟩ := hrel
    cases gk with
    | zero => exact absurd HA.out (by simp [impl_flow_ways.l1])
    | succ k2 =>
     have H := HA.out
     clear HA
     simp only [impl_flow_ways.l1] at H
     by_cases c6 : x9_2 = a2
     ·rw [if_pos c6] at H
      have c6b0 : (x9_2 == a2) = true := beq_iff_eq.mpr c6
      have c6b1 : (x9_2 != a2) = false := bne_eq_false_iff_eq.mpr c6
      clear c6
      by_cases c7 : x7_1.length < 5864062014805
      rotate_left
      ·rw [if_neg c7] at H
       exact absurd H (by simp)
      rw [if_pos c7] at H
      have LMc7 := Aside0.mk c7
      clear c7
      obtain ⟨y394, hy394⟩ : ∃ y_ : List (List Int), y_ = (x7_1 ++ [x8_2]) := ⟨_, rfl⟩
      replace H : (impl_flow_ways.l0 k2 a1 a2 y394 x1000_2 s0_1 x1002_2) = some (r1, r2) := by first | (rw [hy394]; with_reducible exact H) | (have H2_ := (Option.bind_some _ _).symm.trans H; rw [hy394]; with_reducible exact H2_) | (have H2_ := (Option.bind_some _ _).symm.trans H; with_reducible exact H2_) | with_reducible exact H | (rw [hy394]; exact H) | exact H
      have Ny394 := Aside0.mk hy394
      clear hy394
      have H' := Aside0.mk H
      clear H
      obtain ⟨Ao9, co9, eo9⟩ := Kd.R_slice HO_8.out
      subst eo9
      go_wp2_with (first | ((with_reducible refine gate_builtin (b := .append) (xs := #[.tmp 67, .tmp 69]) rfl ?_); at_builtin; refine Kd.S_append (Kd.slice 3 (Kd.int .i64)) w.heap.size rfl (.tmp 67) (.tmp 69) 36 24 (.slice none 0 0) 24 rfl Try.underlying36 info24 rfl (by decide) (by omega) u7 x7_1 x8_2 [.slice Ao9 x8_2.length co9] (fun _ => True) (fun k_ => some k_ = (.slice Ao9 x8_2.length co9 : Value).ownBlock) rfl rfl ?aP (fun k_ hk_ => ((Kd.R_mono (ok' := fun k_ => ((fun _ => True)) k_ ∧ some k_ ≠ (u7 : Value).ownBlock) (Kd.R_apart' (HO_8.out) (Kd.S_typed HO_7.out) (by decide)) (fun k_ hk => ⟨trivial, hk.2⟩))).1 k_ hk_.symm) ?aF ?aO (Below.refl _ _) ?aS ?aL ?_; (case aP => exact Kd.M_row (Kd.R_mono (Kd.R_tight rfl (Kd.R_mono (ok' := fun k_ => ((fun _ => True)) k_ ∧ some k_ ≠ (u7 : Value).ownBlock) (Kd.R_apart' (HO_8.out) (Kd.S_typed HO_7.out) (by decide)) (fun k_ hk => ⟨trivial, hk.2⟩))) (fun _ h_ => h_))); (case aF => exact (fun _ _ => trivial)); (case aO => exact (by (with_reducible repeat (first | apply Kd.S_alloc | apply Kd.S_drewN | apply Kd.S_drew)); exact Kd.S_mono HO_7.out (fun k_ hk => ⟨trivial, fun e_ => hk e_⟩))); (case aS => exact (keepS_size (w := w) (g := g) (row := none) (by repeat (first | (with_reducible first | exact HK.out | apply keepS_drewN | apply keepS_drew | apply keepS_alloc) | exact HK.out)))); (case aL => have := LMc7.out; omega); intro v395 w8 ho hb hg hat; rw [← Ny394.out] at ho; have HO396 := Aside0.mk (ho); replace HB := Aside0.mk (below_weaken (by repeat (first | (with_reducible first | exact HB.out | apply below_alloc | apply pw_below_drewN | apply below_drew1) | exact HB.out)) (Nat.le_of_lt (Nat.lt_of_le_of_lt (IsF109.ge HI0.out) HGL.out)) hb); replace HI0 := Aside0.mk (IsF109.grown (by repeat (first | (with_reducible first | exact HI0.out | apply IsF109.alloc | apply IsF109.drewN | apply IsF109.drew) | exact HI0.out)) hg (IsS109.own_neS (IsF109.is HI0.out HD.out HU.out) HO_7.out (by decide))); replace HK := Aside0.mk (KeepSz.trans (by repeat (first | (with_reducible first | exact HK.out | apply keepS_drewN | apply keepS_drew | apply keepS_alloc) | exact HK.out)) (KeepSz.of_grown hg g) (Kd.S_base2 HO_7.out)); clear HO_7 HO_8; clear ho hb hg hat))
      go_roundg k2
      case measure => have := HK1.out; have := HK2.out; omega
      case rel => exact ⟨(y394), (x1000_2), x1002_2, w0, H', ⟨by have := HK1.out; have := HK2.out; omega⟩, ⟨by (with_reducible repeat (first | apply Kd.S_alloc | apply Kd.S_drewN | apply Kd.S_drew)); exact HO396.out⟩, ⟨by repeat (first | (with_reducible first | exact HI0.out | apply IsF109.alloc | apply IsF109.drewN | apply IsF109.drew) | exact HI0.out)⟩, HU, HD, ⟨by repeat (first | (with_reducible first | exact HK.out | apply keepS_drewN | apply keepS_drew | apply keepS_alloc) | exact HK.out)⟩, ⟨by repeat (first | (with_reducible first | exact HB.out | apply below_alloc | apply pw_below_drewN | apply below_drew1) | exact HB.out)⟩⟩
     rw [if_neg c6] at H
     have c6b0 : (x9_2 == a2) = false := beq_eq_false_iff_ne.mpr c6
     have c6b1 : (x9_2 != a2) = true := bne_iff_ne.mpr c6
     have H' := Aside0.mk H
     clear H
     go_wp2
     go_loopg [10, 11] k2 (fun kq v10 v11 w' => ∃ (x10_3 : Int) (x11_3 : Int) (x1000_3 : Int) (x1002_3 : List Int) (w0 : World), v10 = .int .i64 x10_3 ∧ v11 = .int .i64 x11_3 ∧ Aside0 (impl_flow_ways.l2 kq a1 a2 x7_1 x8_2 x9_2 x10_3 x11_3 x1000_3 s0_1 x1002_3 = some (r1, r2)) ∧ Aside0 (kq ≤ k2) ∧ Aside0 (Kd.S (Kd.slice 3 (Kd.int .i64)) 24 w' w.heap.size (fun k_ => some k_ ≠ (u8 : Value).ownBlock) u7 x7_1) ∧ Aside0 (Kd.R (Kd.int .i64) 3 w' w.heap.size (fun _ => True) u8 x8_2) ∧ Aside0 (IsF109 wb w0 w' g x1000_3 s0_1 A2 c2 x1002_3) ∧ Aside0 (Kd.R (Kd.int .i64) 3 w0 wb.heap.size ok (.slice A2 x1002_3.length c2) x1002_3) ∧ Aside0 (Below wb.heap.size wb w0) ∧ Aside0 (KeepSz w w' g none) ∧ Aside0 (Below w0.heap.size w0 w'))
     case atStart => exact ⟨((-1)), (0), (x1000_2), x1002_2, w0, (by first | rfl | (simp; done) | (simp [*]; done)), (by first | rfl | (simp; done) | (simp [*]; done)), H', ⟨Nat.le_refl _⟩, ⟨by (with_reducible repeat (first | apply Kd.S_alloc | apply Kd.S_drewN | apply Kd.S_drew)); exact HO_7.out⟩, ⟨ra HO_8.out⟩, ⟨by repeat (first | (with_reducible first | exact HI0.out | apply IsF109.alloc | apply IsF109.drewN | apply IsF109.drew) | exact HI0.out)⟩, HU, HD, ⟨by repeat (first | (with_reducible first | exact HK.out | apply keepS_drewN | apply keepS_drew | apply keepS_alloc) | exact HK.out)⟩, ⟨by repeat (first | (with_reducible first | exact HB.out | apply below_alloc | apply pw_below_drewN | apply below_drew1) | exact HB.out)⟩⟩
     case round =>
      clear H'
      try clear c6
      try clear c6b0
      try clear c6b1
      obtain ⟨x10_3, x11_3, x1000_3, x1002_3, w0, rfl, rfl, HA, HK3, HO_7, HO_8, HI0, HU, HD, HK, HB⟩ := hrel
      cases gk with
      | zero => exact absurd HA.out (by simp [impl_flow_ways.l2])
      | succ k3 =>
       have H := HA.out
       clear HA
       simp only [impl_flow_ways.l2] at H
       have HC10 := Aside0.mk H
       clear H
       go_upto_region 7 with (fail)
       go_cut [29] (fun v29 wc => ∃ (kq : Nat) (x29_9 : Bool), v29 = .bool x29_9 ∧ Aside0 (impl_flow_ways.j3 kq a1 a2 x7_1 x8_2 x9_2 x10_3 x11_3 x29_9 x1000_3 s0_1 x1002_3 = some (r1, r2)) ∧ Aside0 (kq ≤ k3) ∧ Aside0 (Kd.S (Kd.slice 3 (Kd.int .i64)) 24 wc w.heap.size (fun k_ => some k_ ≠ (u8 : Value).ownBlock) u7 x7_1) ∧ Aside0 (Kd.R (Kd.int .i64) 3 wc w.heap.size (fun _ => True) u8 x8_2) ∧ Aside0 (IsF109 wb w0 wc g x1000_3 s0_1 A2 c2 x1002_3) ∧ Aside0 (Kd.R (Kd.int .i64) 3 w0 wb.heap.size ok (.slice A2 x1002_3.length c2) x1002_3) ∧ Aside0 (Below wb.heap.size wb w0) ∧ Aside0 (KeepSz w wc g none) ∧ Aside0 (Below w0.heap.size w0 wc))
       case first =>
        have H := HC10.out
        clear HC10
        by_cases c11 : x11_3 < x1000_3
        rotate_left
        ·rw [if_neg c11] at H
         have c11b0 : decide (x11_3 < x1000_3) = false := decide_eq_false c11
         clear c11
         (first | rw [c11b0] | (simp only [i64_w, i32_w]; rw [c11b0]) | skip)
         have H' := Aside0.mk H
         clear H
         obtain ⟨ASz13_1, cSz13_1, HGz13, hgz13, HSz13_1⟩ := HI0.out
         have hcz13_0 := cellS109_0 HGz13
         have hcz13_1 := cellS109_1 HGz13
         have hcz13_2 := cellS109_2 HGz13
         have hfz13_0 := blk_frozen HGz13 0
         clear HGz13 hgz13
         go_wp2
         go_meet
         case rel => exact ⟨_, (false), (by first | rfl | (simp; done) | (simp [*]; done)), H', ⟨by have := HK1.out; have := HK2.out; have := HK3.out; first | omega | exact Nat.le_refl _⟩, ⟨by (with_reducible repeat (first | apply Kd.S_alloc | apply Kd.S_drewN | apply Kd.S_drew)); exact HO_7.out⟩, ⟨ra HO_8.out⟩, ⟨by repeat (first | (with_reducible first | exact HI0.out | apply IsF109.alloc | apply IsF109.drewN | apply IsF109.drew) | exact HI0.out)⟩, HU, HD, ⟨by repeat (first | (with_reducible first | exact HK.out | apply keepS_drewN | apply keepS_drew | apply keepS_alloc) | exact HK.out)⟩, ⟨by repeat (first | (with_reducible first | exact HB.out | apply below_alloc | apply pw_below_drewN | apply below_drew1) | exact HB.out)⟩⟩
        rw [if_pos c11] at H
        have c11b0 : decide (x11_3 < x1000_3) = true := decide_eq_true c11
        clear c11
        (first | rw [c11b0] | (simp only [i64_w, i32_w]; rw [c11b0]) | skip)
        have H' := Aside0.mk H
        clear H
        obtain ⟨ASz12_1, cSz12_1, HGz12, hgz12, HSz12_1⟩ := HI0.out
        have hcz12_0 := cellS109_0 HGz12
        have hcz12_1 := cellS109_1 HGz12
        have hcz12_2 := cellS109_2 HGz12
        have hfz12_0 := blk_frozen HGz12 0
        clear HGz12 hgz12
        go_wp2
        go_meet
        case rel => exact ⟨_, (decide (x10_3 < 0)), (by first | rfl | (simp; done) | (simp [*]; done)), H', ⟨by have := HK1.out; have := HK2.out; have := HK3.out; first | omega | exact Nat.le_refl _⟩, ⟨by (with_reducible repeat (first | apply Kd.S_alloc | apply Kd.S_drewN | apply Kd.S_drew)); exact HO_7.out⟩, ⟨ra HO_8.out⟩, ⟨by repeat (first | (with_reducible first | exact HI0.out | apply IsF109.alloc | apply IsF109.drewN | apply IsF109.drew) | exact HI0.out)⟩, HU, HD, ⟨by repeat (first | (with_reducible first | exact HK.out | apply keepS_drewN | apply keepS_drew | apply keepS_alloc) | exact HK.out)⟩, ⟨by repeat (first | (with_reducible first | exact HB.out | apply below_alloc | apply pw_below_drewN | apply below_drew1) | exact HB.out)⟩⟩
       case rest =>
        clear HC10
        try clear c6
        try clear c6b0
        try clear c6b1
        obtain ⟨kq, x29_9, rfl, HA, HJ9, HO_7, HO_8, HI0, HU, HD, HK, HB⟩ := hcut
        cases kq with
        | zero => exact absurd HA.out (by simp [impl_flow_ways.j3])
        | succ kj9 =>
         have H := HA.out
         clear HA
         simp only [impl_flow_ways.j3] at H
         by_cases c14 : x29_9 = true
         rotate_left
         ·replace c14 := Bool.eq_false_iff.mpr c14
          subst c14
          rw [if_neg (show ¬ (false = true) by decide)] at H
          by_cases c25 : x10_3 < 0
          ·rw [if_pos c25] at H
           have c25b0 : decide (x10_3 < 0) = true := decide_eq_true c25
           clear c25
           simp only [Option.some.injEq, Prod.mk.injEq] at H
           obtain ⟨rfl, rfl⟩ := H
           go_wp2
           go_ret
           exact ⟨_, rt_, by (with_reducible repeat (first | apply Kd.S_alloc | apply Kd.S_drewN | apply Kd.S_drew)); exact Kd.S_mono HO_7.out (fun _ hk => trivial), Below.trans HD.out (below_weaken_ HD.out (by repeat (first | (with_reducible first | exact HB.out | apply below_alloc | apply pw_below_drewN | apply below_drew1) | exact HB.out)))⟩
          rw [if_neg c25] at H
          have c25b0 : decide (x10_3 < 0) = false := decide_eq_false c25
          clear c25
          by_cases c26 : x8_2.length < 17592186044416
          rotate_left
          ·rw [if_neg c26] at H
           exact absurd H (by simp)
          rw [if_pos c26] at H
          have LMc26 := Aside0.mk c26
          clear c26
          obtain ⟨y401, hy401⟩ : ∃ y_ : List Int, y_ = (x8_2 ++ [x10_3]) := ⟨_, rfl⟩
          replace H : (impl_flow_ways.l1 kj9 a1 a2 x7_1 y401 x10_3 x1000_3 s0_1 x1002_3) = some (r1, r2) := by first | (rw [hy401]; with_reducible exact H) | (have H2_ := (Option.bind_some _ _).symm.trans H; rw [hy401]; with_reducible exact H2_) | (have H2_ := (Option.bind_some _ _).symm.trans H; with_reducible exact H2_) | with_reducible exact H | (rw [hy401]; exact H) | exact H
          have Ny401 := Aside0.mk hy401
          clear hy401
          have H' := Aside0.mk H
          clear H
          go_wp2_with (first | ((with_reducible refine gate_builtin (b := .append) (xs := #[.tmp 62, .tmp 64]) rfl ?_); at_builtin; refine Kd.R_append (Kd.int .i64) w.heap.size rfl (.tmp 62) (.tmp 64) 24 3 (.int .i64 0) 8 rfl Try.underlying24 info3 rfl (by decide) (by omega) u8 x8_2 x10_3 [.int .i64 x10_3] (fun _ => True) (fun _ => False) rfl rfl ?aP (fun _ hk => hk.elim) ?aF ?aO (Below.refl _ _) ?aS ?aL ?_; (case aP => exact rfl); (case aF => exact (fun _ _ => trivial)); (case aO => exact (ra HO_8.out)); (case aS => exact (keepS_size (w := w) (g := g) (row := none) (by repeat (first | (with_reducible first | exact HK.out | apply keepS_drewN | apply keepS_drew | apply keepS_alloc) | exact HK.out)))); (case aL => have := LMc26.out; omega); intro v402 w27 ho hb hg hat; rw [← Ny401.out] at ho; have HO403 := Aside0.mk (ho); replace HO_7 := Aside0.mk (Kd.S_after (ok := (fun _ => True)) (by (with_reducible repeat (first | apply Kd.S_alloc | apply Kd.S_drewN | apply Kd.S_drew)); exact Kd.S_mono HO_7.out (fun _ hk => ⟨trivial, hk⟩)) hg hat); replace HB := Aside0.mk (below_weaken (by repeat (first | (with_reducible first | exact HB.out | apply below_alloc | apply pw_below_drewN | apply below_drew1) | exact HB.out)) (Nat.le_of_lt (Nat.lt_of_le_of_lt (IsF109.ge HI0.out) HGL.out)) hb); replace HI0 := Aside0.mk (IsF109.grown (by repeat (first | (with_reducible first | exact HI0.out | apply IsF109.alloc | apply IsF109.drewN | apply IsF109.drew) | exact HI0.out)) hg (IsS109.own_ne (IsF109.is HI0.out HD.out HU.out) HO_8.out (by decide))); replace HK := Aside0.mk (KeepSz.trans (by repeat (first | (with_reducible first | exact HK.out | apply keepS_drewN | apply keepS_drew | apply keepS_alloc) | exact HK.out)) (KeepSz.of_grown hg g) (Kd.R_base2 HO_8.out)); clear HO_8; clear ho hb hg hat))
          go_roundg kj9
          case measure => have := HK1.out; have := HK2.out; have := HK3.out; have := HJ9.out; omega
          case rel => exact ⟨(y401), (x10_3), (x1000_3), x1002_3, w0, (by first | rfl | (simp; done) | (simp [*]; done)), H', ⟨by have := HK1.out; have := HK2.out; have := HK3.out; have := HJ9.out; omega⟩, ⟨by (with_reducible repeat (first | apply Kd.S_alloc | apply Kd.S_drewN | apply Kd.S_drew)); exact Kd.S_mono HO_7.out (fun _ hk => hk.2)⟩, ⟨ra HO403.out⟩, ⟨by repeat (first | (with_reducible first | exact HI0.out | apply IsF109.alloc | apply IsF109.drewN | apply IsF109.drew) | exact HI0.out)⟩, HU, HD, ⟨by repeat (first | (with_reducible first | exact HK.out | apply keepS_drewN | apply keepS_drew | apply keepS_alloc) | exact HK.out)⟩, ⟨by repeat (first | (with_reducible first | exact HB.out | apply below_alloc | apply pw_below_drewN | apply below_drew1) | exact HB.out)⟩⟩
         subst c14
         rw [if_pos rfl] at H
         replace H := Option.bind_eq_some_iff.mp H
         obtain ⟨⟨t397, t398, t399⟩, A150, H⟩ := H
         replace H : (if t397 ≥ 0 then (if 0 ≤ t397 then (if t397 < (x1002_3.length : Int) then (if (rd x1002_3 t397) = t398 then (impl_flow_ways.l2 kj9 a1 a2 x7_1 x8_2 x9_2 x11_3 (wrap64 (x11_3 + 1)) t399 s0_1 (x1002_3.set t397.toNat 0)) else (impl_flow_ways.l2 kj9 a1 a2 x7_1 x8_2 x9_2 x10_3 (wrap64 (x11_3 + 1)) t399 s0_1 x1002_3)) else (none)) else (none)) else (impl_flow_ways.l2 kj9 a1 a2 x7_1 x8_2 x9_2 x10_3 (wrap64 (x11_3 + 1)) t399 s0_1 x1002_3)) = some (r1, r2) := H
         have A15 := Aside0.mk A150
         clear A150
         by_cases c16 : t397 ≥ 0
         rotate_left
         ·rw [if_neg c16] at H
          have c16b0 : decide (0 ≤ t397) = false := decide_eq_false c16
          clear c16
          have H' := Aside0.mk H
          clear H
          go_wp2_with (first | (refine goesL_ (some 36) rfl rfl Try.func121 (by kernel_rfl) rfl #[.pointer (some ⟨g, 0, none⟩), .int .i64 x9_2, .int .i64 x11_3] rfl tm_ ?_; (with_reducible refine (impl_flow_edge.calls kj9 g x1000_3 s0_1 x1002_3 x9_2 x11_3 t397 t398 t399 w0 _ ?side1 ?side2 A15.out).mono ?_); (case side1 => exact IsF109.is (by repeat (first | (with_reducible first | exact HI0.out | apply IsF109.alloc | apply IsF109.drewN | apply IsF109.drew) | exact HI0.out)) HD.out HU.out); (case side2 => repeat (first | (with_reducible first | exact HB.out | apply below_alloc | apply pw_below_drewN | apply below_drew1) | exact HB.out)); rintro e w24 ⟨rfl, hi, hb, hk⟩; refine ⟨_, rfl, ?_⟩; replace HO_7 := Aside0.mk (Kd.S_mono (Kd.S_keep (IsS109.apartS (show IsS109 w0 _ g x1000_3 s0_1 x1002_3 from IsF109.is (by repeat (first | (with_reducible first | exact HI0.out | apply IsF109.alloc | apply IsF109.drewN | apply IsF109.drew) | exact HI0.out)) HD.out HU.out) (sa HO_7.out) (by decide)) (hk g) (fun _ h => h.2)) (fun _ h => h.1)); replace HO_8 := Aside0.mk (Kd.R_mono (Kd.R_keep (IsS109.apart (show IsS109 w0 _ g x1000_3 s0_1 x1002_3 from IsF109.is (by repeat (first | (with_reducible first | exact HI0.out | apply IsF109.alloc | apply IsF109.drewN | apply IsF109.drew) | exact HI0.out)) HD.out HU.out) (ra HO_8.out) (by decide)) (hk g) (fun _ h => h.2)) (fun _ h => h.1)); replace HK := Aside0.mk (KeepSz.trans (by repeat (first | (with_reducible first | exact HK.out | apply keepS_drewN | apply keepS_drew | apply keepS_alloc) | exact HK.out)) (KeepSz.of_all hk) (.inl rfl)); replace HI0 := Aside0.mk (IsF109.after (by repeat (first | (with_reducible first | exact HI0.out | apply IsF109.alloc | apply IsF109.drewN | apply IsF109.drew) | exact HI0.out)) hi hk); replace HB := Aside0.mk (hb); clear hb hk hi))
          go_roundg kj9
          case measure => have := HK1.out; have := HK2.out; have := HK3.out; have := HJ9.out; omega
          case rel => exact ⟨(x10_3), (wrap64 (x11_3 + 1)), (t399), x1002_3, w0, (by first | rfl | (simp; done) | (simp [*]; done)), (by first | rfl | (simp; done) | (simp [*]; done)), H', ⟨by have := HK1.out; have := HK2.out; have := HK3.out; have := HJ9.out; omega⟩, ⟨by (with_reducible repeat (first | apply Kd.S_alloc | apply Kd.S_drewN | apply Kd.S_drew)); exact HO_7.out⟩, ⟨ra HO_8.out⟩, ⟨by repeat (first | (with_reducible first | exact HI0.out | apply IsF109.alloc | apply IsF109.drewN | apply IsF109.drew) | exact HI0.out)⟩, HU, HD, ⟨by repeat (first | (with_reducible first | exact HK.out | apply keepS_drewN | apply keepS_drew | apply keepS_alloc) | exact HK.out)⟩, ⟨by repeat (first | (with_reducible first | exact HB.out | apply below_alloc | apply pw_below_drewN | apply below_drew1) | exact HB.out)⟩⟩
         rw [if_pos c16] at H
         have c16b0 : decide (0 ≤ t397) = true := decide_eq_true c16
         clear c16
         by_cases c17 : 0 ≤ t397
         rotate_left
         ·rw [if_neg c17] at H
          exact absurd H (by simp)
         rw [if_pos c17] at H
         have c17b0 : decide (0 ≤ t397) = true := decide_eq_true c17
         clear c17
         by_cases c18 : t397 < (x1002_3.length : Int)
         rotate_left
         ·rw [if_neg c18] at H
          exact absurd H (by simp)
         rw [if_pos c18] at H
         have c18b0 : decide (t397 < (x1002_3.length : Int)) = true := decide_eq_true c18
         clear c18
         by_cases c19 : (rd x1002_3 t397) = t398
         rotate_left
         ·rw [if_neg c19] at H
          have c19b0 : ((rd x1002_3 t397) == t398) = false := beq_eq_false_iff_ne.mpr c19
          have c19b1 : ((rd x1002_3 t397) != t398) = true := bne_iff_ne.mpr c19
          have H' := Aside0.mk H
          clear H
          go_wp2_with (first | (refine goesL_ (some 36) rfl rfl Try.func121 (by kernel_rfl) rfl #[.pointer (some ⟨g, 0, none⟩), .int .i64 x9_2, .int .i64 x11_3] rfl tm_ ?_; (with_reducible refine (impl_flow_edge.calls kj9 g x1000_3 s0_1 x1002_3 x9_2 x11_3 t397 t398 t399 w0 _ ?side1 ?side2 A15.out).mono ?_); (case side1 => exact IsF109.is (by repeat (first | (with_reducible first | exact HI0.out | apply IsF109.alloc | apply IsF109.drewN | apply IsF109.drew) | exact HI0.out)) HD.out HU.out); (case side2 => repeat (first | (with_reducible first | exact HB.out | apply below_alloc | apply pw_below_drewN | apply below_drew1) | exact HB.out)); rintro e w22 ⟨rfl, hi, hb, hk⟩; refine ⟨_, rfl, ?_⟩; replace HO_7 := Aside0.mk (Kd.S_mono (Kd.S_keep (IsS109.apartS (show IsS109 w0 _ g x1000_3 s0_1 x1002_3 from IsF109.is (by repeat (first | (with_reducible first | exact HI0.out | apply IsF109.alloc | apply IsF109.drewN | apply IsF109.drew) | exact HI0.out)) HD.out HU.out) (sa HO_7.out) (by decide)) (hk g) (fun _ h => h.2)) (fun _ h => h.1)); replace HO_8 := Aside0.mk (Kd.R_mono (Kd.R_keep (IsS109.apart (show IsS109 w0 _ g x1000_3 s0_1 x1002_3 from IsF109.is (by repeat (first | (with_reducible first | exact HI0.out | apply IsF109.alloc | apply IsF109.drewN | apply IsF109.drew) | exact HI0.out)) HD.out HU.out) (ra HO_8.out) (by decide)) (hk g) (fun _ h => h.2)) (fun _ h => h.1)); replace HK := Aside0.mk (KeepSz.trans (by repeat (first | (with_reducible first | exact HK.out | apply keepS_drewN | apply keepS_drew | apply keepS_alloc) | exact HK.out)) (KeepSz.of_all hk) (.inl rfl)); replace HI0 := Aside0.mk (IsF109.after (by repeat (first | (with_reducible first | exact HI0.out | apply IsF109.alloc | apply IsF109.drewN | apply IsF109.drew) | exact HI0.out)) hi hk); replace HB := Aside0.mk (hb); clear hb hk hi; obtain ⟨ASz23_1, cSz23_1, HGz23, hgz23, HSz23_1⟩ := HI0.out; have hcz23_0 := cellS109_0 HGz23; have hcz23_1 := cellS109_1 HGz23; have hcz23_2 := cellS109_2 HGz23; have hfz23_0 := blk_frozen HGz23 0; clear HGz23 hgz23; have p400 : 0 ≤ (t397 : Int) := od_; have q400 : t397 < (x1002_3.length : Int) := od_; obtain ⟨ad400, e400, hx400_0⟩ := Kd.at_int (Kd.R_reads' HU.out).2.2 t397 p400 q400; cases e400; replace hx400_0 := pw_cell_below HB.out hx400_0; replace p400 := eq_true p400; replace q400 := eq_true q400))
          go_roundg kj9
          case measure => have := HK1.out; have := HK2.out; have := HK3.out; have := HJ9.out; omega
          case rel => exact ⟨(x10_3), (wrap64 (x11_3 + 1)), (t399), x1002_3, w0, (by first | rfl | (simp; done) | (simp [*]; done)), (by first | rfl | (simp; done) | (simp [*]; done)), H', ⟨by have := HK1.out; have := HK2.out; have := HK3.out; have := HJ9.out; omega⟩, ⟨by (with_reducible repeat (first | apply Kd.S_alloc | apply Kd.S_drewN | apply Kd.S_drew)); exact HO_7.out⟩, ⟨ra HO_8.out⟩, ⟨by repeat (first | (with_reducible first | exact HI0.out | apply IsF109.alloc | apply IsF109.drewN | apply IsF109.drew) | exact HI0.out)⟩, HU, HD, ⟨by repeat (first | (with_reducible first | exact HK.out | apply keepS_drewN | apply keepS_drew | apply keepS_alloc) | exact HK.out)⟩, ⟨by repeat (first | (with_reducible first | exact HB.out | apply below_alloc | apply pw_below_drewN | apply below_drew1) | exact HB.out)⟩⟩
         rw [if_pos c19] at H
         have c19b0 : ((rd x1002_3 t397) == t398) = true := beq_iff_eq.mpr c19
         have c19b1 : ((rd x1002_3 t397) != t398) = false := bne_eq_false_iff_eq.mpr c19
         clear c19
         have H' := Aside0.mk H
         clear H
         have pz12 : 0 ≤ (t397 : Int) := od_
         have qz12 : (t397 : Int) < (x1002_3.length : Int) := od_
         obtain ⟨go12, co12, eo12, gb12, gl12, cl12, HG12⟩ := Kd.R_form HU.out (by omega)
         clear pz12 qz12
         (first | cases eo12 | (injection eo12 with ea_ en_ ec_; (first | subst ea_ | (injection ea_ with ea_; subst ea_)); subst ec_; clear en_))
         have GB12 := Aside0.mk gb12
         have GL12 := Aside0.mk gl12
         clear gb12 gl12 HG12
         go_wp2_with (first | (refine goesL_ (some 36) rfl rfl Try.func121 (by kernel_rfl) rfl #[.pointer (some ⟨g, 0, none⟩), .int .i64 x9_2, .int .i64 x11_3] rfl tm_ ?_; (with_reducible refine (impl_flow_edge.calls kj9 g x1000_3 s0_1 x1002_3 x9_2 x11_3 t397 t398 t399 w0 _ ?side1 ?side2 A15.out).mono ?_); (case side1 => exact IsF109.is (by repeat (first | (with_reducible first | exact HI0.out | apply IsF109.alloc | apply IsF109.drewN | apply IsF109.drew) | exact HI0.out)) HD.out HU.out); (case side2 => repeat (first | (with_reducible first | exact HB.out | apply below_alloc | apply pw_below_drewN | apply below_drew1) | exact HB.out)); rintro e w20 ⟨rfl, hi, hb, hk⟩; refine ⟨_, rfl, ?_⟩; replace HO_7 := Aside0.mk (Kd.S_mono (Kd.S_keep (IsS109.apartS (show IsS109 w0 _ g x1000_3 s0_1 x1002_3 from IsF109.is (by repeat (first | (with_reducible first | exact HI0.out | apply IsF109.alloc | apply IsF109.drewN | apply IsF109.drew) | exact HI0.out)) HD.out HU.out) (sa HO_7.out) (by decide)) (hk g) (fun _ h => h.2)) (fun _ h => h.1)); replace HO_8 := Aside0.mk (Kd.R_mono (Kd.R_keep (IsS109.apart (show IsS109 w0 _ g x1000_3 s0_1 x1002_3 from IsF109.is (by repeat (first | (with_reducible first | exact HI0.out | apply IsF109.alloc | apply IsF109.drewN | apply IsF109.drew) | exact HI0.out)) HD.out HU.out) (ra HO_8.out) (by decide)) (hk g) (fun _ h => h.2)) (fun _ h => h.1)); replace HK := Aside0.mk (KeepSz.trans (by repeat (first | (with_reducible first | exact HK.out | apply keepS_drewN | apply keepS_drew | apply keepS_alloc) | exact HK.out)) (KeepSz.of_all hk) (.inl rfl)); replace HI0 := Aside0.mk (IsF109.after (by repeat (first | (with_reducible first | exact HI0.out | apply IsF109.alloc | apply IsF109.drewN | apply IsF109.drew) | exact HI0.out)) hi hk); replace HB := Aside0.mk (hb); clear hb hk hi; obtain ⟨ASz21_1, cSz21_1, HGz21, hgz21, HSz21_1⟩ := HI0.out; have hcz21_0 := cellS109_0 HGz21; have hcz21_1 := cellS109_1 HGz21; have hcz21_2 := cellS109_2 HGz21; have hfz21_0 := blk_frozen HGz21 0; have GZ_ := Aside0.mk hgz21; clear HGz21 hgz21; have p12 : 0 ≤ (t397 : Int) := od_; have q12 : (t397 : Int) < ((x1002_3.length : Int) : Int) := od_; obtain ⟨hx12_0, hf12_0⟩ := Kd.R_celln 0 (Kd.R_below HU.out HB.out) (t397 : Int) p12 q12; replace hx12_0 : World.cell? _ _ = some (.int .i64 (rd x1002_3 t397)) := hx12_0; replace p12 := eq_true p12; replace q12 := eq_true q12) | ((with_reducible refine gate_store (t := 3) (p := 58) rfl ?_); refine store_event (t := 3) (p := 58) (v := ?vo_) (w1 := (w20.setCell ⟨go12, (t397 : Int).toNat, none⟩ (.int .i64 0))) ?hg ?ho ?hn ?hr ?_; (case ho => rfl); (case hg => rfl); (case hn => rfl); (case hr => first | (go_simp; done) | (go_simp; rfl)); intro wn_ hw; have hsz_ : KeepSz w20 wn_ g none := (by rw [hw]; show _ ≤ _; rw [World.size_set_]; exact Nat.le_refl _); have hne_ : go12 ≠ g := (by have := GL12.out; have := GZ_.out; omega); have hlw_ : go12 < w.heap.size := (by have := GL12.out; have := GZ_.out; have := HGL.out; omega); replace HO_7 := Aside0.mk ((by rw [hw]; exact Kd.S_mono (Kd.S_far (p := ⟨go12, (t397 : Int).toNat, none⟩) (Kd.S_bound HO_7.out) (fun k hk => (by have := hk.2.1; show k ≠ go12; omega)) _) (fun _ hk => hk.1)) : Kd.S (Kd.slice 3 (Kd.int .i64)) 24 wn_ w.heap.size (fun k_ => some k_ ≠ (u8 : Value).ownBlock) u7 x7_1); replace HO_8 := Aside0.mk ((by rw [hw]; exact Kd.R_mono (Kd.R_far (p := ⟨go12, (t397 : Int).toNat, none⟩) (Kd.R_bound HO_8.out) (fun k hk => (by have := hk.2.1; show k ≠ go12; omega)) _) (fun _ hk => hk.1)) : Kd.R (Kd.int .i64) 3 wn_ w.heap.size (fun _ => True) u8 x8_2); replace HI0 := Aside0.mk ((by rw [hw]; exact IsF109.put (by repeat (first | (with_reducible first | exact HI0.out | apply IsF109.alloc | apply IsF109.drewN | apply IsF109.drew) | exact HI0.out)) ⟨go12, (t397 : Int).toNat, none⟩ hne_ _ _ _) : IsF109 wb (w0.setCell ⟨go12, (t397 : Int).toNat, none⟩ (.int .i64 0)) wn_ g t399 s0_1 (some ⟨go12, 0, none⟩) c2 (x1002_3.set t397.toNat 0)); replace HU := Aside0.mk ((by rw [List.length_set]; exact (Kd.R_putg HU.out (t397 : Int) 0).1) : Kd.R (Kd.int .i64) 3 (w0.setCell ⟨go12, (t397 : Int).toNat, none⟩ (.int .i64 0)) wb.heap.size ok (.slice (some ⟨go12, 0, none⟩) (x1002_3.set t397.toNat 0).length c2) (x1002_3.set t397.toNat 0)); replace HD := Aside0.mk ((below_set HD.out GB12.out) : Below wb.heap.size wb (w0.setCell ⟨go12, (t397 : Int).toNat, none⟩ (.int .i64 0))); replace HB := Aside0.mk ((by rw [hw, World.size_set_]; exact Below.both HB.out _ _) : Below (w0.setCell ⟨go12, (t397 : Int).toNat, none⟩ (.int .i64 0)).heap.size (w0.setCell ⟨go12, (t397 : Int).toNat, none⟩ (.int .i64 0)) wn_); replace HK := Aside0.mk (KeepSz.trans HK.out hsz_ (.inl rfl)); clear hw hsz_ hne_ hlw_))
         go_roundg kj9
         case measure => have := HK1.out; have := HK2.out; have := HK3.out; have := HJ9.out; omega
         case rel => exact ⟨(x11_3), (wrap64 (x11_3 + 1)), (t399), _, _, (by first | rfl | (simp; done) | (simp [*]; done)), (by first | rfl | (simp; done) | (simp [*]; done)), H', ⟨by have := HK1.out; have := HK2.out; have := HK3.out; have := HJ9.out; omega⟩, ⟨by (with_reducible repeat (first | apply Kd.S_alloc | apply Kd.S_drewN | apply Kd.S_drew)); exact HO_7.out⟩, ⟨ra HO_8.out⟩, ⟨by repeat (first | (with_reducible first | exact HI0.out | apply IsF109.alloc | apply IsF109.drewN | apply IsF109.drew) | exact HI0.out)⟩, HU, HD, ⟨by repeat (first | (with_reducible first | exact HK.out | apply keepS_drewN | apply keepS_drew | apply keepS_alloc) | exact HK.out)⟩, ⟨by repeat (first | (with_reducible first | exact HB.out | apply below_alloc | apply pw_below_drewN | apply below_drew1) | exact HB.out)⟩⟩

def impl_waysApart.f (k : Nat) (a0 : Int) (l1 : List (S47)) (a2 : Int) (a3 : Int) : Option ((List (List Int))) := (impl_flowOf.f k a0 l1 a2 a3).bind fun bt404 => ((impl_flow_ways.f k bt404.1 bt404.2.1 bt404.2.2 a2 a3).bind fun bt408 => (some bt408.1))
theorem impl_waysApart.mono : ∀ a0 a1 a2 a3 k, LeO (impl_waysApart.f k a0 a1 a2 a3) (impl_waysApart.f (k + 1) a0 a1 a2 a3) := by
 intro a0 a1 a2 a3 k
 unfold impl_waysApart.f
 repeat' first
   | (with_reducible exact impl_flow_ways.mono _ _ _ _ _ _)
   | (with_reducible exact impl_flowOf.mono _ _ _ _ _)
   | with_reducible first | exact LeO.refl _ | exact LeO.none _ | refine LeO.ite ?_ ?_ | refine LeO.bind ?_ fun _ => ?_
set_option maxHeartbeats 8000000 in
set_option maxRecDepth 100000 in
theorem impl_waysApart.calls (k : Nat) (a0 : Int) (A1 : Option Addr) (c1 : Nat) (l1 : List (S47)) (a2 : Int) (a3 : Int) (r : List (List Int)) (w : World) (hr1 : Kd.C k47 w A1 l1.length l1) (hc1 : l1.length ≤ c1) (h : impl_waysApart.f k a0 l1 a2 a3 = some r) :
  Calls Try.prog 66 #[.int .i64 a0, .slice A1 l1.length c1, .int .i64 a2, .int .i64 a3] w fun e w' => ∃ v0_ : Value, e = .returned (v0_) ∧ Kd.S (Kd.slice 3 (Kd.int .i64)) 24 w' w.heap.size (fun _ => True) v0_ r ∧ Below w.heap.size w w' := by
 have HR1 := Aside0.mk hr1
 have HC1 := Aside0.mk hc1
 clear hr1 hc1
 have HB := Aside0.mk (Below.refl w.heap.size w)
 have H : ((impl_flowOf.f k a0 l1 a2 a3).bind fun bt404 => ((impl_flow_ways.f k bt404.1 bt404.2.1 bt404.2.2 a2 a3).bind fun bt408 => (some bt408.1))) = some r := h
 clear h
 replace H := Option.bind_eq_some_iff.mp H
 obtain ⟨⟨t404, t405, t406⟩, A50, H⟩ := H
 replace H : ((impl_flow_ways.f k t404 t405 t406 a2 a3).bind fun bt408 => (some bt408.1)) = some r := H
 have A5 := Aside0.mk A50
 clear A50
 replace H := Option.bind_eq_some_iff.mp H
 obtain ⟨⟨t408, t411⟩, A60, H⟩ := H
 replace H : (some t408) = some r := H
 have A6 := Aside0.mk A60
 clear A60
 obtain rfl := Option.some.inj H
 go_enter Try.func66, Try.ntmps66
 go_wp2_with (first | (refine goesL_ (some 13) rfl rfl Try.func62 (by kernel_rfl) rfl #[.int .i64 a0, .slice A1 l1.length c1, .int .i64 a2, .int .i64 a3] rfl tm_ ?_; (with_reducible refine (impl_flowOf.callsO k a0 _ _ l1 a2 a3 t404 t405 t406 _ ?side2 ?side3 A5.out).mono ?_); (case side2 => exact cb_ HR1 HB); (case side3 => exact HC1.out); rintro e w7 ⟨g407, wg, Ag, cg, rfl, hi, hu, hbg, hb⟩; refine ⟨_, rfl, ?_⟩; obtain ⟨wq, HI0, HU, HD, HBW⟩ : ∃ wq, Aside0 (IsF109 wq wg w7 g407 t404 t405 Ag cg t406) ∧ Aside0 (Kd.R (Kd.int .i64) 3 wg wq.heap.size (fun _ => True) (.slice Ag t406.length cg) t406) ∧ Aside0 (Below wq.heap.size wq wg) ∧ Aside0 (Below w.heap.size w wq) := ⟨_, ⟨hi⟩, ⟨hu⟩, ⟨hbg⟩, ⟨hB HB⟩⟩; clear HB; have HB := Aside0.mk hb; clear hi hu hbg hb) | (refine goesL_ (some 16) rfl rfl Try.func109 (by kernel_rfl) rfl #[.pointer (some ⟨g407, 0, none⟩), .int .i64 a2, .int .i64 a3] rfl tm_ ?_; (with_reducible refine (impl_flow_ways.calls k g407 t404 t405 t406 a2 a3 t408 t411 Ag cg (fun _ => True) wq wg _ ?side1 ?side2 ?side3 ?side4 A6.out).mono ?_); (case side1 => repeat (first | (with_reducible first | exact HI0.out | apply IsF109.alloc | apply IsF109.drewN | apply IsF109.drew) | exact HI0.out)); (case side2 => exact HU.out); (case side3 => exact HD.out); (case side4 => repeat (first | (with_reducible first | exact HB.out | apply below_alloc | apply pw_below_drewN | apply below_drew1) | exact HB.out)); rintro e w8 ⟨v409, rfl, ho0, hb⟩; refine ⟨_, rfl, ?_⟩; have HO410 := Aside0.mk (Kd.S_lower ho0 (Nat.le_trans HBW.out.size (Nat.le_trans HD.out.size (below_size (by repeat (first | (with_reducible first | exact HB.out | apply below_alloc | apply pw_below_drewN | apply below_drew1) | exact HB.out)))))); replace HB := bst_ HBW hb; clear hb ho0))
 go_ret
 exact ⟨_, rt_, by (with_reducible repeat (first | apply Kd.S_alloc | apply Kd.S_drewN | apply Kd.S_drew)); exact HO410.out, by repeat (first | (with_reducible first | exact HB.out | apply below_alloc | apply pw_below_drewN | apply below_drew1) | exact HB.out)⟩

def impl_WaysApart.f (k : Nat) (a0 : Int) (l1 : List (S47)) (a2 : Int) (a3 : Int) : Option ((List (List Int)) × Bool) := (impl_goodAt.f k a0 l1 (([a2, a3] : List Int))).bind fun t415 => (if t415 = true then (if a2 = a3 then (some (([] : List (List Int)), false)) else ((impl_waysApart.f k a0 l1 a2 a3).bind fun t416 => (some (t416, true)))) else (some (([] : List (List Int)), false)))
theorem impl_WaysApart.mono : ∀ a0 a1 a2 a3 k, LeO (impl_WaysApart.f k a0 a1 a2 a3) (impl_WaysApart.f (k + 1) a0 a1 a2 a3) := by
 intro a0 a1 a2 a3 k
 unfold impl_WaysApart.f
 repeat' first
   | (with_reducible exact impl_goodAt.mono _ _ _ _)
   | (with_reducible exact impl_waysApart.mono _ _ _ _ _)
   | with_reducible first | exact LeO.refl _ | exact LeO.none _ | refine LeO.ite ?_ ?_ | refine LeO.bind ?_ fun _ => ?_
set_option maxHeartbeats 8000000 in
set_option maxRecDepth 100000 in
theorem impl_WaysApart.calls (k : Nat) (a0 : Int) (A1 : Option Addr) (c1 : Nat) (l1 : List (S47)) (a2 : Int) (a3 : Int) (r1 : List (List Int)) (r2 : Bool) (w : World) (hr1 : Kd.C k47 w A1 l1.length l1) (hc1 : l1.length ≤ c1) (h : impl_WaysApart.f k a0 l1 a2 a3 = some (r1, r2)) :
  Calls Try.prog 21 #[.int .i64 a0, .slice A1 l1.length c1, .int .i64 a2, .int .i64 a3] w fun e w' => ∃ v0_ : Value, e = .returned (.tuple #[v0_, .bool r2]) ∧ Kd.S (Kd.slice 3 (Kd.int .i64)) 24 w' w.heap.size (fun _ => True) v0_ r1 ∧ Below w.heap.size w w' := by
 have HR1 := Aside0.mk hr1
 have HC1 := Aside0.mk hc1
 clear hr1 hc1
 have HB := Aside0.mk (Below.refl w.heap.size w)
 have H : ((impl_goodAt.f k a0 l1 (([a2, a3] : List Int))).bind fun t415 => (if t415 = true then (if a2 = a3 then (some (([] : List (List Int)), false)) else ((impl_waysApart.f k a0 l1 a2 a3).bind fun t416 => (some (t416, true)))) else (some (([] : List (List Int)), false)))) = some (r1, r2) := h
 clear h
 obtain ⟨y412, hy412⟩ : ∃ y_ : List Int, y_ = (([a2, a3] : List Int)) := ⟨_, rfl⟩
 replace H : ((impl_goodAt.f k a0 l1 y412).bind fun t415 => (if t415 = true then (if a2 = a3 then (some (([] : List (List Int)), false)) else ((impl_waysApart.f k a0 l1 a2 a3).bind fun t416 => (some (t416, true)))) else (some (([] : List (List Int)), false)))) = some (r1, r2) := by first | (rw [hy412]; with_reducible exact H) | (have H2_ := (Option.bind_some _ _).symm.trans H; rw [hy412]; with_reducible exact H2_) | (have H2_ := (Option.bind_some _ _).symm.trans H; with_reducible exact H2_) | with_reducible exact H | (rw [hy412]; exact H) | exact H
 have Ny412 := Aside0.mk hy412
 clear hy412
 replace H := Option.bind_eq_some_iff.mp H
 obtain ⟨t415, A50, H⟩ := H
 replace H : (if t415 = true then (if a2 = a3 then (some (([] : List (List Int)), false)) else ((impl_waysApart.f k a0 l1 a2 a3).bind fun t416 => (some (t416, true)))) else (some (([] : List (List Int)), false))) = some (r1, r2) := H
 have A5 := Aside0.mk A50
 clear A50
 by_cases c6 : t415 = true
 rotate_left
 ·replace c6 := Bool.eq_false_iff.mpr c6
  subst c6
  rw [if_neg (show ¬ (false = true) by decide)] at H
  simp only [Option.some.injEq, Prod.mk.injEq] at H
  obtain ⟨rfl, rfl⟩ := H
  go_enter Try.func21, Try.ntmps21
  go_wp2_with (first | ((with_reducible refine gate_dst (N := 14) rfl ?_); refine Kd.R_lit (Kd.int .i64) _ 3 ?hg (N := 14) ?hd (xs := ([a2, a3] : List Int)) (inner := [.int .i64 a2, .int .i64 a3]) (ok := fun _ => True) (okp := fun _ => True) ?hr ?hp (fun _ hk => hk) trivial (Below.refl _ _) (Nat.le_refl _) (by simp) ?_; (case hd => rfl); (case hg => rfl); (case hr => first | (go_simp; done) | (go_simp; rfl)); (case hp => exact (Reps.one (show Kd.M (Kd.int .i64) _ _ _ a2 [.int .i64 a2] from rfl) (Reps.one (show Kd.M (Kd.int .i64) _ _ _ a3 [.int .i64 a3] from rfl) (Reps.none _ _)))); intro v413 w18 ho19 hb hg_ hnew_; clear hg_ hnew_; (first | rw [← Ny412.out] at ho19 | (simp only [Int.reduceToNat] at ho19; rw [← Ny412.out] at ho19)); have HO414 := Aside0.mk (Kd.R_lower ho19 (below_size (hB HB))); replace HB := bst_ HB hb; clear hb ho19; obtain ⟨Ao20, co20, eo20⟩ := Kd.R_slice HO414.out; subst eo20) | (refine goesL_ (some 15) rfl rfl Try.func61 (by kernel_rfl) rfl #[.int .i64 a0, .slice A1 l1.length c1, .slice Ao20 y412.length co20] rfl tm_ ?_; (with_reducible refine (impl_goodAt.calls k a0 _ _ l1 _ _ y412 false _ ?side1 ?side2 ?side3 ?side4 A5.out).mono ?_); (case side1 => exact cb_ HR1 HB); (case side2 => exact HC1.out); (case side3 => exact ca (Kd.R_reads' HO414.out).2.2); (case side4 => exact (Kd.R_reads' HO414.out).2.1); rintro e w21 ⟨rfl, hb⟩; refine ⟨_, rfl, ?_⟩; replace HO414 := rb_ HO414 hb; replace HB := bst_ HB hb; clear hb))
  go_ret2
  exact ⟨_, rt_, by first | exact Kd.S_nil _ _ _ _ _ | exact Kd.N_nil _ _ _ _ _ | exact Kd.V_nil _ _ _ _ _ | exact Kd.Q_nil _ _ _ _ _ | exact Kd.R_nil _ _ _ _ _, hB HB⟩
 subst c6
 rw [if_pos rfl] at H
 by_cases c7 : a2 = a3
 ·rw [if_pos c7] at H
  have c7b0 : (a2 == a3) = true := beq_iff_eq.mpr c7
  have c7b1 : (a2 != a3) = false := bne_eq_false_iff_eq.mpr c7
  clear c7
  simp only [Option.some.injEq, Prod.mk.injEq] at H
  obtain ⟨rfl, rfl⟩ := H
  go_enter Try.func21, Try.ntmps21
  go_wp2_with (first | ((with_reducible refine gate_dst (N := 14) rfl ?_); refine Kd.R_lit (Kd.int .i64) _ 3 ?hg (N := 14) ?hd (xs := ([a2, a3] : List Int)) (inner := [.int .i64 a2, .int .i64 a3]) (ok := fun _ => True) (okp := fun _ => True) ?hr ?hp (fun _ hk => hk) trivial (Below.refl _ _) (Nat.le_refl _) (by simp) ?_; (case hd => rfl); (case hg => rfl); (case hr => first | (go_simp; done) | (go_simp; rfl)); (case hp => exact (Reps.one (show Kd.M (Kd.int .i64) _ _ _ a2 [.int .i64 a2] from rfl) (Reps.one (show Kd.M (Kd.int .i64) _ _ _ a3 [.int .i64 a3] from rfl) (Reps.none _ _)))); intro v413 w8 ho9 hb hg_ hnew_; clear hg_ hnew_; (first | rw [← Ny412.out] at ho9 | (simp only [Int.reduceToNat] at ho9; rw [← Ny412.out] at ho9)); have HO414 := Aside0.mk (Kd.R_lower ho9 (below_size (hB HB))); replace HB := bst_ HB hb; clear hb ho9; obtain ⟨Ao10, co10, eo10⟩ := Kd.R_slice HO414.out; subst eo10) | (refine goesL_ (some 15) rfl rfl Try.func61 (by kernel_rfl) rfl #[.int .i64 a0, .slice A1 l1.length c1, .slice Ao10 y412.length co10] rfl tm_ ?_; (with_reducible refine (impl_goodAt.calls k a0 _ _ l1 _ _ y412 true _ ?side1 ?side2 ?side3 ?side4 A5.out).mono ?_); (case side1 => exact cb_ HR1 HB); (case side2 => exact HC1.out); (case side3 => exact ca (Kd.R_reads' HO414.out).2.2); (case side4 => exact (Kd.R_reads' HO414.out).2.1); rintro e w11 ⟨rfl, hb⟩; refine ⟨_, rfl, ?_⟩; replace HO414 := rb_ HO414 hb; replace HB := bst_ HB hb; clear hb))
  go_ret2
  exact ⟨_, rt_, by first | exact Kd.S_nil _ _ _ _ _ | exact Kd.N_nil _ _ _ _ _ | exact Kd.V_nil _ _ _ _ _ | exact Kd.Q_nil _ _ _ _ _ | exact Kd.R_nil _ _ _ _ _, hB HB⟩
 rw [if_neg c7] at H
 have c7b0 : (a2 == a3) = false := beq_eq_false_iff_ne.mpr c7
 have c7b1 : (a2 != a3) = true := bne_iff_ne.mpr c7
 replace H := Option.bind_eq_some_iff.mp H
 obtain ⟨t416, A120, H⟩ := H
 replace H : (some (t416, true)) = some (r1, r2) := H
 have A12 := Aside0.mk A120
 clear A120
 simp only [Option.some.injEq, Prod.mk.injEq] at H
 obtain ⟨rfl, rfl⟩ := H
 go_enter Try.func21, Try.ntmps21
 go_wp2_with (first | ((with_reducible refine gate_dst (N := 14) rfl ?_); refine Kd.R_lit (Kd.int .i64) _ 3 ?hg (N := 14) ?hd (xs := ([a2, a3] : List Int)) (inner := [.int .i64 a2, .int .i64 a3]) (ok := fun _ => True) (okp := fun _ => True) ?hr ?hp (fun _ hk => hk) trivial (Below.refl _ _) (Nat.le_refl _) (by simp) ?_; (case hd => rfl); (case hg => rfl); (case hr => first | (go_simp; done) | (go_simp; rfl)); (case hp => exact (Reps.one (show Kd.M (Kd.int .i64) _ _ _ a2 [.int .i64 a2] from rfl) (Reps.one (show Kd.M (Kd.int .i64) _ _ _ a3 [.int .i64 a3] from rfl) (Reps.none _ _)))); intro v413 w13 ho14 hb hg_ hnew_; clear hg_ hnew_; (first | rw [← Ny412.out] at ho14 | (simp only [Int.reduceToNat] at ho14; rw [← Ny412.out] at ho14)); have HO414 := Aside0.mk (Kd.R_lower ho14 (below_size (hB HB))); replace HB := bst_ HB hb; clear hb ho14; obtain ⟨Ao15, co15, eo15⟩ := Kd.R_slice HO414.out; subst eo15) | (refine goesL_ (some 15) rfl rfl Try.func61 (by kernel_rfl) rfl #[.int .i64 a0, .slice A1 l1.length c1, .slice Ao15 y412.length co15] rfl tm_ ?_; (with_reducible refine (impl_goodAt.calls k a0 _ _ l1 _ _ y412 true _ ?side1 ?side2 ?side3 ?side4 A5.out).mono ?_); (case side1 => exact cb_ HR1 HB); (case side2 => exact HC1.out); (case side3 => exact ca (Kd.R_reads' HO414.out).2.2); (case side4 => exact (Kd.R_reads' HO414.out).2.1); rintro e w16 ⟨rfl, hb⟩; refine ⟨_, rfl, ?_⟩; replace HO414 := rb_ HO414 hb; replace HB := bst_ HB hb; clear hb) | (refine goesL_ (some 26) rfl rfl Try.func66 (by kernel_rfl) rfl #[.int .i64 a0, .slice A1 l1.length c1, .int .i64 a2, .int .i64 a3] rfl tm_ ?_; (with_reducible refine (impl_waysApart.calls k a0 _ _ l1 a2 a3 t416 _ ?side1 ?side2 A12.out).mono ?_); (case side1 => exact cb_ HR1 HB); (case side2 => exact HC1.out); rintro e w17 ⟨v417, rfl, ho0, hb⟩; refine ⟨_, rfl, ?_⟩; have HO418 := Aside0.mk (Kd.S_lower (Kd.S_new' ho0 (rl_ HO414)) (below_size (hB HB))); replace HO414 := rb_ HO414 hb; replace HB := bst_ HB hb; clear hb ho0))
 go_ret2
 exact ⟨_, rt_, by (with_reducible repeat (first | apply Kd.S_alloc | apply Kd.S_drewN | apply Kd.S_drew)); exact Kd.S_mono HO418.out (fun _ hk => trivial), hB HB⟩

-- NOT PRINTED: function 19 (impl_BackupFor)

-- NOT PRINTED: function 4 (laws_FnExactBackupFor)

def spec_WaysApart.f (k : Nat) (a0 : Int) (l1 : List (S47)) (a2 : Int) (a3 : Int) : Option ((List (List Int)) × Bool) := (spec_l15Two.f k a0 l1 a2 a3).bind fun t429 => (if t429 = true then ((spec_l15Ways.f k a0 l1 a2 a3).bind fun t430 => (some (t430, true))) else (some (([] : List (List Int)), false)))
theorem spec_WaysApart.mono : ∀ a0 a1 a2 a3 k, LeO (spec_WaysApart.f k a0 a1 a2 a3) (spec_WaysApart.f (k + 1) a0 a1 a2 a3) := by
 intro a0 a1 a2 a3 k
 unfold spec_WaysApart.f
 repeat' first
   | (with_reducible exact spec_l15Two.mono _ _ _ _ _)
   | (with_reducible exact spec_l15Ways.mono _ _ _ _ _)
   | with_reducible first | exact LeO.refl _ | exact LeO.none _ | refine LeO.ite ?_ ?_ | refine LeO.bind ?_ fun _ => ?_
set_option maxHeartbeats 8000000 in
set_option maxRecDepth 100000 in
theorem spec_WaysApart.calls (k : Nat) (a0 : Int) (A1 : Option Addr) (c1 : Nat) (l1 : List (S47)) (a2 : Int) (a3 : Int) (r1 : List (List Int)) (r2 : Bool) (w : World) (hr1 : Kd.C k47 w A1 l1.length l1) (hc1 : l1.length ≤ c1) (h : spec_WaysApart.f k a0 l1 a2 a3 = some (r1, r2)) :
  Calls Try.prog 20 #[.int .i64 a0, .slice A1 l1.length c1, .int .i64 a2, .int .i64 a3] w fun e w' => ∃ v0_ : Value, e = .returned (.tuple #[v0_, .bool r2]) ∧ Kd.S (Kd.slice 3 (Kd.int .i64)) 24 w' w.heap.size (fun _ => True) v0_ r1 ∧ Below w.heap.size w w' := by
 have HR1 := Aside0.mk hr1
 have HC1 := Aside0.mk hc1
 clear hr1 hc1
 have HB := Aside0.mk (Below.refl w.heap.size w)
 have H : ((spec_l15Two.f k a0 l1 a2 a3).bind fun t429 => (if t429 = true then ((spec_l15Ways.f k a0 l1 a2 a3).bind fun t430 => (some (t430, true))) else (some (([] : List (List Int)), false)))) = some (r1, r2) := h
 clear h
 replace H := Option.bind_eq_some_iff.mp H
 obtain ⟨t429, A50, H⟩ := H
 replace H : (if t429 = true then ((spec_l15Ways.f k a0 l1 a2 a3).bind fun t430 => (some (t430, true))) else (some (([] : List (List Int)), false))) = some (r1, r2) := H
 have A5 := Aside0.mk A50
 clear A50
 by_cases c6 : t429 = true
 rotate_left
 ·replace c6 := Bool.eq_false_iff.mpr c6
  subst c6
  rw [if_neg (show ¬ (false = true) by decide)] at H
  simp only [Option.some.injEq, Prod.mk.injEq] at H
  obtain ⟨rfl, rfl⟩ := H
  go_enter Try.func20, Try.ntmps20
  go_wp2_with (first | (refine goesL_ (some 14) rfl rfl Try.func57 (by kernel_rfl) rfl #[.int .i64 a0, .slice A1 l1.length c1, .int .i64 a2, .int .i64 a3] rfl tm_ ?_; (with_reducible refine (spec_l15Two.calls k a0 _ _ l1 a2 a3 false _ ?side1 ?side2 A5.out).mono ?_); (case side1 => exact ca HR1.out); (case side2 => exact HC1.out); rintro e w10 ⟨rfl, hb⟩; refine ⟨_, rfl, ?_⟩; replace HB := bst_ HB hb; clear hb))
  go_ret2
  exact ⟨_, rt_, by first | exact Kd.S_nil _ _ _ _ _ | exact Kd.N_nil _ _ _ _ _ | exact Kd.V_nil _ _ _ _ _ | exact Kd.Q_nil _ _ _ _ _ | exact Kd.R_nil _ _ _ _ _, hB HB⟩
 subst c6
 rw [if_pos rfl] at H
 replace H := Option.bind_eq_some_iff.mp H
 obtain ⟨t430, A70, H⟩ := H
 replace H : (some (t430, true)) = some (r1, r2) := H
 have A7 := Aside0.mk A70
 clear A70
 simp only [Option.some.injEq, Prod.mk.injEq] at H
 obtain ⟨rfl, rfl⟩ := H
 go_enter Try.func20, Try.ntmps20
 go_wp2_with (first | (refine goesL_ (some 14) rfl rfl Try.func57 (by kernel_rfl) rfl #[.int .i64 a0, .slice A1 l1.length c1, .int .i64 a2, .int .i64 a3] rfl tm_ ?_; (with_reducible refine (spec_l15Two.calls k a0 _ _ l1 a2 a3 true _ ?side1 ?side2 A5.out).mono ?_); (case side1 => exact ca HR1.out); (case side2 => exact HC1.out); rintro e w8 ⟨rfl, hb⟩; refine ⟨_, rfl, ?_⟩; replace HB := bst_ HB hb; clear hb) | (refine goesL_ (some 20) rfl rfl Try.func65 (by kernel_rfl) rfl #[.int .i64 a0, .slice A1 l1.length c1, .int .i64 a2, .int .i64 a3] rfl tm_ ?_; (with_reducible refine (spec_l15Ways.calls k a0 _ _ l1 a2 a3 t430 _ ?side1 ?side2 A7.out).mono ?_); (case side1 => exact cb_ HR1 HB); (case side2 => exact HC1.out); rintro e w9 ⟨v431, rfl, ho0, hb⟩; refine ⟨_, rfl, ?_⟩; have HO432 := Aside0.mk (Kd.S_lower ho0 (below_size (hB HB))); replace HB := bst_ HB hb; clear hb ho0))
 go_ret2
 exact ⟨_, rt_, by (with_reducible repeat (first | apply Kd.S_alloc | apply Kd.S_drewN | apply Kd.S_drew)); exact HO432.out, hB HB⟩

end Go.Proofs.Ythambdfgkfkcmaa.P
