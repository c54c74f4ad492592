import Derived.Shelf.Sort.Plain
import Derived.Shelf.Slices.In.SortNone
import Derived.Sort.OwnSortedInts
import Derived.Test.YtfkjnpgpofcinaaF0
import Derived.Test.YtfkjnpgpofcinaaF1
namespace Go.Proofs.Ytfkjnpgpofcinaa.P
open Go.RowKit Go.Proofs.YtfkjnpgpofcinaaW.PrintWords Go.Proofs.YtfkjnpgpofcinaaW.PrintLast Go.Proofs.YtfkjnpgpofcinaaW.PrintMore
attribute [local go_sem] max2_int min2_int max_two min_two max_three min_three max_four min_four   -- for this text's walks alone
set_option linter.unusedVariables false
set_option linter.unusedSimpArgs false
attribute [local go_sem high] eqA45 eqA76 eqA83

def impl_rising.l0 : Nat → List Int → Int → Option (Bool)
 | 0, _, _ => none
 | k + 1, x0, x3 => if x3 < (x0.length : Int) then (if 0 ≤ (wrap64 (x3 - 1)) then (if (wrap64 (x3 - 1)) < (x0.length : Int) then (if 0 ≤ x3 then (if (rd x0 (wrap64 (x3 - 1))) ≥ (rd x0 x3) then (some false) else (impl_rising.l0 k x0 (wrap64 (x3 + 1)))) else (none)) else (none)) else (none)) else (some true)
def impl_rising.f (k : Nat) (l0 : List Int) : Option (Bool) := impl_rising.l0 k l0 1
theorem impl_rising.mono_l : ∀ k, (∀ y0 y1, LeO (impl_rising.l0 k y0 y1) (impl_rising.l0 (k + 1) y0 y1))
 | 0 => fun _ _ r h => by simp [impl_rising.l0] at h
 | k + 1 => by
  have ih0 := impl_rising.mono_l k
  ·intro y0 y1
   unfold impl_rising.l0
   repeat' first
   | (with_reducible exact ih0 _ _)
   | (with_reducible exact LeO.refl _)
   | (with_reducible exact LeO.none _)
   | (with_reducible refine LeO.ite ?_ ?_)
   | (with_reducible refine LeO.bind ?_ (fun _ => ?_))
theorem impl_rising.mono : ∀ a0 k, LeO (impl_rising.f k a0) (impl_rising.f (k + 1) a0) := by
 intro a0 k
 have ih0 := impl_rising.mono_l k
 unfold impl_rising.f
 repeat' first
   | (with_reducible exact ih0 _ _)
   | (with_reducible exact LeO.refl _)
   | (with_reducible exact LeO.none _)
   | (with_reducible refine LeO.ite ?_ ?_)
   | (with_reducible refine LeO.bind ?_ (fun _ => ?_))
set_option maxHeartbeats 8000000 in
set_option maxRecDepth 100000 in
theorem impl_rising.calls (k : Nat) (A0 : Option Addr) (c0 : Nat) (l0 : List Int) (r : Bool) (w : World) (hr0 : Kd.C (Kd.int .i64) w A0 l0.length l0) (hc0 : l0.length ≤ c0) (h : impl_rising.f k l0 = some r) :
  Calls Try.prog 126 #[.slice A0 l0.length c0] w fun e w' => e = .returned (.bool r) ∧ Drawn0 w w' := by
 have HR0 := Aside0.mk hr0
 have HC0 := Aside0.mk hc0
 clear hr0 hc0
 have H : (impl_rising.l0 k l0 1) = some r := h
 clear h
 have H' := Aside0.mk H
 clear H
 go_enter Try.func126, Try.ntmps126
 go_wp2
 repeat (go_quiet (fail); try go_wp2)
 go_loopg [3] k (fun kq v3 w' => ∃ (x3_1 : Int), v3 = .int .i64 x3_1 ∧ Aside0 (impl_rising.l0 kq l0 x3_1 = some r) ∧ Aside0 (kq ≤ k) ∧ Drawn0 w w')
 case atStart => exact ⟨(1), (by first | rfl | (simp; done) | (simp [*]; done)), H', ⟨Nat.le_refl _⟩, by repeat (first | exact Drawn0.refl _ | apply Drawn0.step)⟩
 case round =>
  clear H'
  obtain ⟨x3_1, rfl, HA, HK1, ⟨m1, rfl⟩⟩ := hrel
  cases gk with
  | zero => exact absurd HA.out (by simp [impl_rising.l0])
  | succ k1 =>
   have H := HA.out
   clear HA
   simp only [impl_rising.l0] at H
   by_cases c2 : x3_1 < (l0.length : Int)
   rotate_left
   ·rw [if_neg c2] at H
    have c2b0 : decide (x3_1 < (l0.length : Int)) = false := decide_eq_false c2
    clear c2
    obtain rfl := Option.some.inj H
    go_wp2
    repeat (go_quiet (fail); try go_wp2)
    go_ret
    exact ⟨by first | rfl | (simp; done) | (simp [*]; done), by repeat (first | exact Drawn0.refl _ | apply Drawn0.step)⟩
   rw [if_pos c2] at H
   have c2b0 : decide (x3_1 < (l0.length : Int)) = true := decide_eq_true c2
   clear c2
   obtain ⟨ji3, hji3⟩ : ∃ j_ : Int, (wrap64 (x3_1 - 1)) = j_ := ⟨_, rfl⟩
   replace H : (if 0 ≤ (ji3) then (if (ji3) < (l0.length : Int) then (if 0 ≤ x3_1 then (if (rd l0 (ji3)) ≥ (rd l0 x3_1) then (some false) else (impl_rising.l0 k1 l0 (wrap64 (x3_1 + 1)))) else (none)) else (none)) else (none)) = some r := by first | (rw [hji3] at H; exact H) | (simp only [hji3] at H ⊢; exact H)
   have hji3w : (IntKind.i64.wrap (x3_1 - 1)) = ji3 := (i64_w _).trans hji3
   by_cases c4 : 0 ≤ (ji3)
   rotate_left
   ·rw [if_neg c4] at H
    exact absurd H (by simp)
   rw [if_pos c4] at H
   have c4b0 : decide (0 ≤ (ji3)) = true := decide_eq_true c4
   clear c4
   by_cases c5 : (ji3) < (l0.length : Int)
   rotate_left
   ·rw [if_neg c5] at H
    exact absurd H (by simp)
   rw [if_pos c5] at H
   have c5b0 : decide ((ji3) < (l0.length : Int)) = true := decide_eq_true c5
   clear c5
   by_cases c6 : 0 ≤ x3_1
   rotate_left
   ·rw [if_neg c6] at H
    exact absurd H (by simp)
   rw [if_pos c6] at H
   have c6b0 : decide (0 ≤ x3_1) = true := decide_eq_true c6
   clear c6
   by_cases c7 : (rd l0 (ji3)) ≥ (rd l0 x3_1)
   ·rw [if_pos c7] at H
    have c7b0 : decide ((rd l0 x3_1) ≤ (rd l0 (ji3))) = true := decide_eq_true c7
    clear c7
    obtain rfl := Option.some.inj H
    have p233 : 0 ≤ ((ji3) : Int) := of_decide_eq_true (by first | (with_reducible assumption) | assumption)
    have q233 : (ji3) < (l0.length : Int) := of_decide_eq_true (by first | (with_reducible assumption) | assumption)
    obtain ⟨ad233, e233, hx233_0⟩ := Kd.at_int HR0.out (ji3) p233 q233
    cases e233
    replace p233 := eq_true p233
    replace q233 := eq_true q233
    have p234 : 0 ≤ (x3_1 : Int) := of_decide_eq_true (by first | (with_reducible assumption) | assumption)
    have q234 : x3_1 < (l0.length : Int) := of_decide_eq_true (by first | (with_reducible assumption) | assumption)
    obtain ⟨ad234, e234, hx234_0⟩ := Kd.at_int HR0.out x3_1 p234 q234
    obtain rfl : ad233 = ad234 := (by injection e234)
    replace p234 := eq_true p234
    replace q234 := eq_true q234
    go_wp2
    repeat (go_quiet (fail); try go_wp2)
    go_ret
    exact ⟨by first | rfl | (simp; done) | (simp only [← hji3] <;> (first | rfl | simp)) | (simp [*]; done), by repeat (first | exact Drawn0.refl _ | apply Drawn0.step)⟩
   rw [if_neg c7] at H
   have c7b0 : decide ((rd l0 x3_1) ≤ (rd l0 (ji3))) = false := decide_eq_false c7
   clear c7
   have H' := Aside0.mk H
   clear H
   have p233 : 0 ≤ ((ji3) : Int) := of_decide_eq_true (by first | (with_reducible assumption) | assumption)
   have q233 : (ji3) < (l0.length : Int) := of_decide_eq_true (by first | (with_reducible assumption) | assumption)
   obtain ⟨ad233, e233, hx233_0⟩ := Kd.at_int HR0.out (ji3) p233 q233
   cases e233
   replace p233 := eq_true p233
   replace q233 := eq_true q233
   have p234 : 0 ≤ (x3_1 : Int) := of_decide_eq_true (by first | (with_reducible assumption) | assumption)
   have q234 : x3_1 < (l0.length : Int) := of_decide_eq_true (by first | (with_reducible assumption) | assumption)
   obtain ⟨ad234, e234, hx234_0⟩ := Kd.at_int HR0.out x3_1 p234 q234
   obtain rfl : ad233 = ad234 := (by injection e234)
   replace p234 := eq_true p234
   replace q234 := eq_true q234
   go_wp2
   repeat (go_quiet (fail); try go_wp2)
   go_roundg k1
   case measure => have := HK1.out; omega
   case rel => exact ⟨(wrap64 (x3_1 + 1)), (by first | rfl | (simp; done) | (simp [*]; done)), H', ⟨by have := HK1.out; omega⟩, by repeat (first | exact Drawn0.refl _ | apply Drawn0.step)⟩

def impl_goodWants.f (k : Nat) (l0 : List Int) : Option (Bool) := (impl_rising.f k l0).bind fun t235 => (if t235 = true then ((impl_allIn.f k l0 0 11).bind fun t236 => (some t236)) else (some false))
theorem impl_goodWants.mono : ∀ a0 k, LeO (impl_goodWants.f k a0) (impl_goodWants.f (k + 1) a0) := by
 intro a0 k
 unfold impl_goodWants.f
 repeat' first
   | (with_reducible exact impl_allIn.mono _ _ _ _)
   | (with_reducible exact impl_rising.mono _ _)
   | (with_reducible exact LeO.refl _)
   | (with_reducible exact LeO.none _)
   | (with_reducible refine LeO.ite ?_ ?_)
   | (with_reducible refine LeO.bind ?_ (fun _ => ?_))
set_option maxHeartbeats 8000000 in
set_option maxRecDepth 100000 in
theorem impl_goodWants.calls (k : Nat) (A0 : Option Addr) (c0 : Nat) (l0 : List Int) (r : Bool) (w : World) (hr0 : Kd.C (Kd.int .i64) w A0 l0.length l0) (hc0 : l0.length ≤ c0) (h : impl_goodWants.f k l0 = some r) :
  Calls Try.prog 78 #[.slice A0 l0.length c0] w fun e w' => e = .returned (.bool r) ∧ Drawn0 w w' := by
 have HR0 := Aside0.mk hr0
 have HC0 := Aside0.mk hc0
 clear hr0 hc0
 have H : ((impl_rising.f k l0).bind fun t235 => (if t235 = true then ((impl_allIn.f k l0 0 11).bind fun t236 => (some t236)) else (some false))) = some r := h
 clear h
 replace H := Option.bind_eq_some_iff.mp H
 obtain ⟨t235, A20, H⟩ := H
 replace H : (if t235 = true then ((impl_allIn.f k l0 0 11).bind fun t236 => (some t236)) else (some false)) = some r := H
 have A2 := Aside0.mk A20
 clear A20
 by_cases c3 : t235 = true
 rotate_left
 ·replace c3 := Bool.eq_false_iff.mpr c3
  subst c3
  rw [if_neg (show ¬ (false = true) by decide)] at H
  obtain rfl := Option.some.inj H
  go_enter Try.func78, Try.ntmps78
  go_wp2_with (first | ((with_reducible refine gate_callee (f := 126) rfl ?_); refine goesL_ (some 4) rfl rfl Try.func126 (by kernel_rfl) rfl #[.slice A0 l0.length c0] rfl tm_ ?_; (with_reducible refine (impl_rising.calls k _ _ l0 false _ ?side1 ?side2 A2.out).mono ?_); (case side1 => exact ca HR0.out); (case side2 => exact HC0.out); rintro e w' ⟨rfl, ⟨nd, rfl⟩⟩; refine ⟨_, rfl, ?_⟩))
  go_ret
  exact ⟨by first | rfl | (simp; done) | (simp [*]; done), by repeat (first | exact Drawn0.refl _ | apply Drawn0.step)⟩
 subst c3
 rw [if_pos rfl] at H
 replace H := Option.bind_eq_some_iff.mp H
 obtain ⟨t236, A40, H⟩ := H
 replace H : (some t236) = some r := H
 have A4 := Aside0.mk A40
 clear A40
 obtain rfl := Option.some.inj H
 go_enter Try.func78, Try.ntmps78
 go_wp2_with (first | ((with_reducible refine gate_callee (f := 126) rfl ?_); refine goesL_ (some 4) rfl rfl Try.func126 (by kernel_rfl) rfl #[.slice A0 l0.length c0] rfl tm_ ?_; (with_reducible refine (impl_rising.calls k _ _ l0 true _ ?side1 ?side2 A2.out).mono ?_); (case side1 => exact ca HR0.out); (case side2 => exact HC0.out); rintro e w' ⟨rfl, ⟨nd, rfl⟩⟩; refine ⟨_, rfl, ?_⟩) | (go_at_call 89; (with_reducible refine (impl_allIn.calls k _ _ l0 0 11 t236 _ ?side1 ?side2 A4.out).mono ?_); (case side1 => exact ca HR0.out); (case side2 => exact HC0.out); rintro e w' ⟨rfl, ⟨nd, rfl⟩⟩))
 go_ret
 exact ⟨by first | rfl | (simp; done) | (simp [*]; done), by repeat (first | exact Drawn0.refl _ | apply Drawn0.step)⟩

def slices_Index_int_int.l0 : Nat → List Int → Int → Int → Int → Option (Int)
 | 0, _, _, _, _ => none
 | k + 1, x0, x1, x7, x8 => if x8 < x7 then (if 0 ≤ x8 then (if x8 < (x0.length : Int) then (if x1 = (rd x0 x8) then (some x8) else (slices_Index_int_int.l0 k x0 x1 x7 (wrap64 (x8 + 1)))) else (none)) else (none)) else (some (-1))
def slices_Index_int_int.f (k : Nat) (l0 : List Int) (a1 : Int) : Option (Int) := slices_Index_int_int.l0 k l0 a1 (l0.length : Int) 0
theorem slices_Index_int_int.mono_l : ∀ k, (∀ y0 y1 y2 y3, LeO (slices_Index_int_int.l0 k y0 y1 y2 y3) (slices_Index_int_int.l0 (k + 1) y0 y1 y2 y3))
 | 0 => fun _ _ _ _ r h => by simp [slices_Index_int_int.l0] at h
 | k + 1 => by
  have ih0 := slices_Index_int_int.mono_l k
  ·intro y0 y1 y2 y3
   unfold slices_Index_int_int.l0
   repeat' first
   | (with_reducible exact ih0 _ _ _ _)
   | (with_reducible exact LeO.refl _)
   | (with_reducible exact LeO.none _)
   | (with_reducible refine LeO.ite ?_ ?_)
   | (with_reducible refine LeO.bind ?_ (fun _ => ?_))
theorem slices_Index_int_int.mono : ∀ a0 a1 k, LeO (slices_Index_int_int.f k a0 a1) (slices_Index_int_int.f (k + 1) a0 a1) := by
 intro a0 a1 k
 have ih0 := slices_Index_int_int.mono_l k
 unfold slices_Index_int_int.f
 repeat' first
   | (with_reducible exact ih0 _ _ _ _)
   | (with_reducible exact LeO.refl _)
   | (with_reducible exact LeO.none _)
   | (with_reducible refine LeO.ite ?_ ?_)
   | (with_reducible refine LeO.bind ?_ (fun _ => ?_))
set_option maxHeartbeats 8000000 in
set_option maxRecDepth 100000 in
theorem slices_Index_int_int.calls (k : Nat) (A0 : Option Addr) (c0 : Nat) (l0 : List Int) (a1 : Int) (r : Int) (w : World) (hr0 : Kd.C (Kd.int .i64) w A0 l0.length l0) (hc0 : l0.length ≤ c0) (h : slices_Index_int_int.f k l0 a1 = some r) :
  Calls Try.prog 135 #[.slice A0 l0.length c0, .int .i64 a1] w fun e w' => e = .returned (.int .i64 r) ∧ Drawn0 w w' := by
 have HR0 := Aside0.mk hr0
 have HC0 := Aside0.mk hc0
 clear hr0 hc0
 have H : (slices_Index_int_int.l0 k l0 a1 (l0.length : Int) 0) = some r := h
 clear h
 have H' := Aside0.mk H
 clear H
 go_enter Try.func135, Try.ntmps135
 go_wp2
 go_loopg [8] k (fun kq v8 w' => ∃ (x8_1 : Int), v8 = .int .i64 x8_1 ∧ Aside0 (slices_Index_int_int.l0 kq l0 a1 (l0.length : Int) x8_1 = some r) ∧ Aside0 (kq ≤ k) ∧ Drawn0 w w')
 case atStart => exact ⟨(0), (by first | rfl | (simp; done) | (simp [*]; done)), H', ⟨Nat.le_refl _⟩, by repeat (first | exact Drawn0.refl _ | apply Drawn0.step)⟩
 case round =>
  clear H'
  obtain ⟨x8_1, rfl, HA, HK1, ⟨m1, rfl⟩⟩ := hrel
  cases gk with
  | zero => exact absurd HA.out (by simp [slices_Index_int_int.l0])
  | succ k1 =>
   have H := HA.out
   clear HA
   simp only [slices_Index_int_int.l0] at H
   by_cases c3 : x8_1 < (l0.length : Int)
   rotate_left
   ·rw [if_neg c3] at H
    have c3b0 : decide (x8_1 < (l0.length : Int)) = false := decide_eq_false c3
    clear c3
    obtain rfl := Option.some.inj H
    go_wp2
    go_ret
    exact ⟨by first | rfl | (simp; done) | (simp [*]; done), by repeat (first | exact Drawn0.refl _ | apply Drawn0.step)⟩
   rw [if_pos c3] at H
   have c3b0 : decide (x8_1 < (l0.length : Int)) = true := decide_eq_true c3
   clear c3
   by_cases c4 : 0 ≤ x8_1
   rotate_left
   ·rw [if_neg c4] at H
    exact absurd H (by simp)
   rw [if_pos c4] at H
   have c4b0 : decide (0 ≤ x8_1) = true := decide_eq_true c4
   clear c4
   by_cases c5 : x8_1 < (l0.length : Int)
   rotate_left
   ·rw [if_neg c5] at H
    exact absurd H (by simp)
   rw [if_pos c5] at H
   have c5b0 : decide (x8_1 < (l0.length : Int)) = true := decide_eq_true c5
   clear c5
   by_cases c6 : a1 = (rd l0 x8_1)
   ·rw [if_pos c6] at H
    have c6b0 : (a1 == (rd l0 x8_1)) = true := beq_iff_eq.mpr c6
    have c6b1 : (a1 != (rd l0 x8_1)) = false := bne_eq_false_iff_eq.mpr c6
    clear c6
    obtain rfl := Option.some.inj H
    have p237 : 0 ≤ (x8_1 : Int) := of_decide_eq_true (by first | (with_reducible assumption) | assumption)
    have q237 : x8_1 < (l0.length : Int) := of_decide_eq_true (by first | (with_reducible assumption) | assumption)
    obtain ⟨ad237, e237, hx237_0⟩ := Kd.at_int HR0.out x8_1 p237 q237
    cases e237
    replace p237 := eq_true p237
    replace q237 := eq_true q237
    go_wp2
    go_ret
    exact ⟨by first | rfl | (simp; done) | (simp [*]; done), by repeat (first | exact Drawn0.refl _ | apply Drawn0.step)⟩
   rw [if_neg c6] at H
   have c6b0 : (a1 == (rd l0 x8_1)) = false := beq_eq_false_iff_ne.mpr c6
   have c6b1 : (a1 != (rd l0 x8_1)) = true := bne_iff_ne.mpr c6
   have H' := Aside0.mk H
   clear H
   have p237 : 0 ≤ (x8_1 : Int) := of_decide_eq_true (by first | (with_reducible assumption) | assumption)
   have q237 : x8_1 < (l0.length : Int) := of_decide_eq_true (by first | (with_reducible assumption) | assumption)
   obtain ⟨ad237, e237, hx237_0⟩ := Kd.at_int HR0.out x8_1 p237 q237
   cases e237
   replace p237 := eq_true p237
   replace q237 := eq_true q237
   go_wp2
   go_roundg k1
   case measure => have := HK1.out; omega
   case rel => exact ⟨(wrap64 (x8_1 + 1)), (by first | rfl | (simp; done) | (simp [*]; done)), H', ⟨by have := HK1.out; omega⟩, by repeat (first | exact Drawn0.refl _ | apply Drawn0.step)⟩

def slices_Contains_int_int.f (k : Nat) (l0 : List Int) (a1 : Int) : Option (Bool) := (slices_Index_int_int.f k l0 a1).bind fun t238 => (some (decide (t238 ≥ 0)))
theorem slices_Contains_int_int.mono : ∀ a0 a1 k, LeO (slices_Contains_int_int.f k a0 a1) (slices_Contains_int_int.f (k + 1) a0 a1) := by
 intro a0 a1 k
 unfold slices_Contains_int_int.f
 repeat' first
   | (with_reducible exact slices_Index_int_int.mono _ _ _)
   | (with_reducible exact LeO.refl _)
   | (with_reducible exact LeO.none _)
   | (with_reducible refine LeO.ite ?_ ?_)
   | (with_reducible refine LeO.bind ?_ (fun _ => ?_))
set_option maxHeartbeats 8000000 in
set_option maxRecDepth 100000 in
theorem slices_Contains_int_int.calls (k : Nat) (A0 : Option Addr) (c0 : Nat) (l0 : List Int) (a1 : Int) (r : Bool) (w : World) (hr0 : Kd.C (Kd.int .i64) w A0 l0.length l0) (hc0 : l0.length ≤ c0) (h : slices_Contains_int_int.f k l0 a1 = some r) :
  Calls Try.prog 97 #[.slice A0 l0.length c0, .int .i64 a1] w fun e w' => e = .returned (.bool r) ∧ Drawn0 w w' := by
 have HR0 := Aside0.mk hr0
 have HC0 := Aside0.mk hc0
 clear hr0 hc0
 have H : ((slices_Index_int_int.f k l0 a1).bind fun t238 => (some (decide (t238 ≥ 0)))) = some r := h
 clear h
 replace H := Option.bind_eq_some_iff.mp H
 obtain ⟨t238, A30, H⟩ := H
 replace H : (some (decide (t238 ≥ 0))) = some r := H
 have A3 := Aside0.mk A30
 clear A30
 obtain rfl := Option.some.inj H
 go_enter Try.func97, Try.ntmps97
 go_wp2_with (first | ((with_reducible refine gate_callee (f := 135) rfl ?_); refine goesL_ (some 7) rfl rfl Try.func135 (by kernel_rfl) rfl #[.slice A0 l0.length c0, .int .i64 a1] rfl tm_ ?_; (with_reducible refine (slices_Index_int_int.calls k _ _ l0 a1 t238 _ ?side1 ?side2 A3.out).mono ?_); (case side1 => exact ca HR0.out); (case side2 => exact HC0.out); rintro e w' ⟨rfl, ⟨nd, rfl⟩⟩; refine ⟨_, rfl, ?_⟩))
 go_ret
 exact ⟨by first | rfl | (simp; done) | (simp [*]; done), by repeat (first | exact Drawn0.refl _ | apply Drawn0.step)⟩

def impl_branches.l0 : Nat → List Int → Int → List Int → List Int → Int → Int → Option (List Int)
 | 0, _, _, _, _, _, _ => none
 | k + 1, x0, x1, x5, x8, x9, x10 => if x10 < x9 then (if 0 ≤ x10 then (if x10 < (x8.length : Int) then (if (rd x8 x10) = x1 then (if x5.length < 17592186044416 then (impl_branches.l0 k x0 x1 (x5 ++ [x10]) x8 x9 (wrap64 (x10 + 1))) else (none)) else (if 0 ≤ x1 then (if x1 < (x0.length : Int) then (if (rd x0 x1) = x10 then (if x5.length < 17592186044416 then (impl_branches.l0 k x0 x1 (x5 ++ [x10]) x8 x9 (wrap64 (x10 + 1))) else (none)) else (impl_branches.l0 k x0 x1 x5 x8 x9 (wrap64 (x10 + 1)))) else (none)) else (none))) else (none)) else (none)) else (some x5)
def impl_branches.f (k : Nat) (l0 : List Int) (a1 : Int) : Option (List Int) := impl_branches.l0 k l0 a1 ([] : List Int) l0 (l0.length : Int) 0
theorem impl_branches.mono_l : ∀ k, (∀ y0 y1 y2 y3 y4 y5, LeO (impl_branches.l0 k y0 y1 y2 y3 y4 y5) (impl_branches.l0 (k + 1) y0 y1 y2 y3 y4 y5))
 | 0 => fun _ _ _ _ _ _ r h => by simp [impl_branches.l0] at h
 | k + 1 => by
  have ih0 := impl_branches.mono_l k
  ·intro y0 y1 y2 y3 y4 y5
   unfold impl_branches.l0
   repeat' first
   | (with_reducible exact ih0 _ _ _ _ _ _)
   | (with_reducible exact LeO.refl _)
   | (with_reducible exact LeO.none _)
   | (with_reducible refine LeO.ite ?_ ?_)
   | (with_reducible refine LeO.bind ?_ (fun _ => ?_))
theorem impl_branches.mono : ∀ a0 a1 k, LeO (impl_branches.f k a0 a1) (impl_branches.f (k + 1) a0 a1) := by
 intro a0 a1 k
 have ih0 := impl_branches.mono_l k
 unfold impl_branches.f
 repeat' first
   | (with_reducible exact ih0 _ _ _ _ _ _)
   | (with_reducible exact LeO.refl _)
   | (with_reducible exact LeO.none _)
   | (with_reducible refine LeO.ite ?_ ?_)
   | (with_reducible refine LeO.bind ?_ (fun _ => ?_))
set_option maxHeartbeats 8000000 in
set_option maxRecDepth 100000 in
theorem impl_branches.calls (k : Nat) (A0 : Option Addr) (c0 : Nat) (l0 : List Int) (a1 : Int) (r : List Int) (w : World) (hr0 : Kd.C (Kd.int .i64) w A0 l0.length l0) (hc0 : l0.length ≤ c0) (h : impl_branches.f k l0 a1 = some r) :
  Calls Try.prog 98 #[.slice A0 l0.length c0, .int .i64 a1] w fun e w' => ∃ v0_ : Value, e = .returned (v0_) ∧ Kd.R (Kd.int .i64) 3 w' w.heap.size (fun _ => True) v0_ r ∧ Below w.heap.size w w' := by
 have HR0 := Aside0.mk hr0
 have HC0 := Aside0.mk hc0
 clear hr0 hc0
 have HB := Aside0.mk (Below.refl w.heap.size w)
 have H : (impl_branches.l0 k l0 a1 ([] : List Int) l0 (l0.length : Int) 0) = some r := h
 clear h
 have H' := Aside0.mk H
 clear H
 go_enter Try.func98, Try.ntmps98
 go_wp2
 go_loopg [5, 10] k (fun kq v5 v10 w' => ∃ (x5_1 : List Int) (x10_1 : Int), v10 = .int .i64 x10_1 ∧ Aside0 (impl_branches.l0 kq l0 a1 x5_1 l0 (l0.length : Int) x10_1 = some r) ∧ Aside0 (kq ≤ k) ∧ Aside0 (Kd.R (Kd.int .i64) 3 w' w.heap.size (fun _ => True) v5 x5_1) ∧ Aside0 (Below w.heap.size w w'))
 case atStart => exact ⟨(([] : List Int)), (0), (by first | rfl | (simp; done) | (simp [*]; done)), H', ⟨Nat.le_refl _⟩, ⟨by first | exact Kd.R_nil _ _ _ _ _ | exact Kd.N_nil _ _ _ _ _ | exact Kd.V_nil _ _ _ _ _ | exact Kd.Q_nil _ _ _ _ _ | exact Kd.S_nil _ _ _ _ _⟩, ⟨hB HB⟩⟩
 case round =>
  clear H'
  obtain ⟨x5_1, x10_1, rfl, HA, HK1, HO_5, HB⟩ := hrel
  cases gk with
  | zero => exact absurd HA.out (by simp [impl_branches.l0])
  | succ k1 =>
   have H := HA.out
   clear HA
   simp only [impl_branches.l0] at H
   by_cases c3 : x10_1 < (l0.length : Int)
   rotate_left
   ·rw [if_neg c3] at H
    have c3b0 : decide (x10_1 < (l0.length : Int)) = false := decide_eq_false c3
    clear c3
    obtain rfl := Option.some.inj H
    go_wp2
    go_ret
    exact ⟨_, by first | rfl | (simp [errW_none, errW_some] <;> rfl) | (simp [*, errW_none, errW_some] <;> rfl), by (with_reducible repeat (first | apply Kd.R_alloc | apply Kd.R_drewN | apply Kd.R_drew)); exact HO_5.out, by repeat (first | (with_reducible first | exact HB.out | apply below_alloc | apply pw_below_drewN | apply below_drew1) | exact HB.out)⟩
   rw [if_pos c3] at H
   have c3b0 : decide (x10_1 < (l0.length : Int)) = true := decide_eq_true c3
   clear c3
   by_cases c4 : 0 ≤ x10_1
   rotate_left
   ·rw [if_neg c4] at H
    exact absurd H (by simp)
   rw [if_pos c4] at H
   have c4b0 : decide (0 ≤ x10_1) = true := decide_eq_true c4
   clear c4
   by_cases c5 : x10_1 < (l0.length : Int)
   rotate_left
   ·rw [if_neg c5] at H
    exact absurd H (by simp)
   rw [if_pos c5] at H
   have c5b0 : decide (x10_1 < (l0.length : Int)) = true := decide_eq_true c5
   clear c5
   by_cases c6 : (rd l0 x10_1) = a1
   ·rw [if_pos c6] at H
    have c6b0 : ((rd l0 x10_1) == a1) = true := beq_iff_eq.mpr c6
    have c6b1 : ((rd l0 x10_1) != a1) = false := bne_eq_false_iff_eq.mpr c6
    clear c6
    by_cases c7 : x5_1.length < 17592186044416
    rotate_left
    ·rw [if_neg c7] at H
     exact absurd H (by simp)
    rw [if_pos c7] at H
    have LMc7 := Aside0.mk c7
    clear c7
    obtain ⟨y240, hy240⟩ : ∃ y_ : List Int, y_ = (x5_1 ++ [x10_1]) := ⟨_, rfl⟩
    replace H : (impl_branches.l0 k1 l0 a1 y240 l0 (l0.length : Int) (wrap64 (x10_1 + 1))) = some r := by first | (rw [hy240]; with_reducible exact H) | (have H2_ := (Option.bind_some _ _).symm.trans H; rw [hy240]; with_reducible exact H2_) | (have H2_ := (Option.bind_some _ _).symm.trans H; with_reducible exact H2_) | with_reducible exact H | (rw [hy240]; exact H) | exact H
    have Ny240 := Aside0.mk hy240
    clear hy240
    have H' := Aside0.mk H
    clear H
    have p239 : 0 ≤ (x10_1 : Int) := of_decide_eq_true (by first | (with_reducible assumption) | assumption)
    have q239 : x10_1 < (l0.length : Int) := of_decide_eq_true (by first | (with_reducible assumption) | assumption)
    obtain ⟨ad239, e239, hx239_0⟩ := Kd.at_int HR0.out x10_1 p239 q239
    cases e239
    replace hx239_0 := (HB.out.cell (World.block_lt_of_cell? w _ hx239_0)).trans hx239_0
    replace p239 := eq_true p239
    replace q239 := eq_true q239
    go_wp2_with (first | ((with_reducible refine gate_builtin (b := .append) (xs := #[.tmp 26, .tmp 28]) rfl ?_); at_builtin; refine Kd.R_append (Kd.int .i64) (w0 := w) w.heap.size rfl (.tmp 26) (.tmp 28) 22 3 (.int .i64 0) 8 rfl Try.underlying22 info3 rfl (by decide) (by omega) u5 x5_1 x10_1 [.int .i64 x10_1] (fun _ => True) (fun _ => False) rfl rfl ?aP (fun _ hk => hk.elim) ?aF ?aO ?aB ?aS ?aL ?_; (case aP => exact rfl); (case aB => exact (hB HB)); (case aF => exact (fun _ _ => trivial)); (case aO => exact (ra HO_5.out)); (case aS => exact (below_size (hB HB))); (case aL => have := LMc7.out; omega); intro v241 w8 ho hb hg hat; rw [← Ny240.out] at ho; have HO242 := Aside0.mk (ho); replace HB := Aside0.mk (hb); clear HO_5; clear ho hb hg hat))
    go_roundg k1
    case measure => have := HK1.out; omega
    case rel => exact ⟨(y240), (wrap64 (x10_1 + 1)), (by first | rfl | (simp; done) | (simp [*]; done)), H', ⟨by have := HK1.out; omega⟩, ⟨ra HO242.out⟩, ⟨hB HB⟩⟩
   rw [if_neg c6] at H
   have c6b0 : ((rd l0 x10_1) == a1) = false := beq_eq_false_iff_ne.mpr c6
   have c6b1 : ((rd l0 x10_1) != a1) = true := bne_iff_ne.mpr c6
   by_cases c9 : 0 ≤ a1
   rotate_left
   ·rw [if_neg c9] at H
    exact absurd H (by simp)
   rw [if_pos c9] at H
   have c9b0 : decide (0 ≤ a1) = true := decide_eq_true c9
   clear c9
   by_cases c10 : a1 < (l0.length : Int)
   rotate_left
   ·rw [if_neg c10] at H
    exact absurd H (by simp)
   rw [if_pos c10] at H
   have c10b0 : decide (a1 < (l0.length : Int)) = true := decide_eq_true c10
   clear c10
   by_cases c11 : (rd l0 a1) = x10_1
   rotate_left
   ·rw [if_neg c11] at H
    have c11b0 : ((rd l0 a1) == x10_1) = false := beq_eq_false_iff_ne.mpr c11
    have c11b1 : ((rd l0 a1) != x10_1) = true := bne_iff_ne.mpr c11
    have H' := Aside0.mk H
    clear H
    have p239 : 0 ≤ (x10_1 : Int) := of_decide_eq_true (by first | (with_reducible assumption) | assumption)
    have q239 : x10_1 < (l0.length : Int) := of_decide_eq_true (by first | (with_reducible assumption) | assumption)
    obtain ⟨ad239, e239, hx239_0⟩ := Kd.at_int HR0.out x10_1 p239 q239
    cases e239
    replace hx239_0 := (HB.out.cell (World.block_lt_of_cell? w _ hx239_0)).trans hx239_0
    replace p239 := eq_true p239
    replace q239 := eq_true q239
    have p243 : 0 ≤ (a1 : Int) := of_decide_eq_true (by first | (with_reducible assumption) | assumption)
    have q243 : a1 < (l0.length : Int) := of_decide_eq_true (by first | (with_reducible assumption) | assumption)
    obtain ⟨ad243, e243, hx243_0⟩ := Kd.at_int HR0.out a1 p243 q243
    obtain rfl : ad239 = ad243 := (by injection e243)
    replace hx243_0 := (HB.out.cell (World.block_lt_of_cell? w _ hx243_0)).trans hx243_0
    replace p243 := eq_true p243
    replace q243 := eq_true q243
    go_wp2
    go_roundg k1
    case measure => have := HK1.out; omega
    case rel => exact ⟨(x5_1), (wrap64 (x10_1 + 1)), (by first | rfl | (simp; done) | (simp [*]; done)), H', ⟨by have := HK1.out; omega⟩, ⟨ra HO_5.out⟩, ⟨hB HB⟩⟩
   rw [if_pos c11] at H
   have c11b0 : ((rd l0 a1) == x10_1) = true := beq_iff_eq.mpr c11
   have c11b1 : ((rd l0 a1) != x10_1) = false := bne_eq_false_iff_eq.mpr c11
   clear c11
   by_cases c12 : x5_1.length < 17592186044416
   rotate_left
   ·rw [if_neg c12] at H
    exact absurd H (by simp)
   rw [if_pos c12] at H
   have LMc12 := Aside0.mk c12
   clear c12
   obtain ⟨y244, hy244⟩ : ∃ y_ : List Int, y_ = (x5_1 ++ [x10_1]) := ⟨_, rfl⟩
   replace H : (impl_branches.l0 k1 l0 a1 y244 l0 (l0.length : Int) (wrap64 (x10_1 + 1))) = some r := by first | (rw [hy244]; with_reducible exact H) | (have H2_ := (Option.bind_some _ _).symm.trans H; rw [hy244]; with_reducible exact H2_) | (have H2_ := (Option.bind_some _ _).symm.trans H; with_reducible exact H2_) | with_reducible exact H | (rw [hy244]; exact H) | exact H
   have Ny244 := Aside0.mk hy244
   clear hy244
   have H' := Aside0.mk H
   clear H
   have p239 : 0 ≤ (x10_1 : Int) := of_decide_eq_true (by first | (with_reducible assumption) | assumption)
   have q239 : x10_1 < (l0.length : Int) := of_decide_eq_true (by first | (with_reducible assumption) | assumption)
   obtain ⟨ad239, e239, hx239_0⟩ := Kd.at_int HR0.out x10_1 p239 q239
   cases e239
   replace hx239_0 := (HB.out.cell (World.block_lt_of_cell? w _ hx239_0)).trans hx239_0
   replace p239 := eq_true p239
   replace q239 := eq_true q239
   have p243 : 0 ≤ (a1 : Int) := of_decide_eq_true (by first | (with_reducible assumption) | assumption)
   have q243 : a1 < (l0.length : Int) := of_decide_eq_true (by first | (with_reducible assumption) | assumption)
   obtain ⟨ad243, e243, hx243_0⟩ := Kd.at_int HR0.out a1 p243 q243
   obtain rfl : ad239 = ad243 := (by injection e243)
   replace hx243_0 := (HB.out.cell (World.block_lt_of_cell? w _ hx243_0)).trans hx243_0
   replace p243 := eq_true p243
   replace q243 := eq_true q243
   go_wp2_with (first | ((with_reducible refine gate_builtin (b := .append) (xs := #[.tmp 26, .tmp 28]) rfl ?_); at_builtin; refine Kd.R_append (Kd.int .i64) (w0 := w) w.heap.size rfl (.tmp 26) (.tmp 28) 22 3 (.int .i64 0) 8 rfl Try.underlying22 info3 rfl (by decide) (by omega) u5 x5_1 x10_1 [.int .i64 x10_1] (fun _ => True) (fun _ => False) rfl rfl ?aP (fun _ hk => hk.elim) ?aF ?aO ?aB ?aS ?aL ?_; (case aP => exact rfl); (case aB => exact (hB HB)); (case aF => exact (fun _ _ => trivial)); (case aO => exact (ra HO_5.out)); (case aS => exact (below_size (hB HB))); (case aL => have := LMc12.out; omega); intro v245 w13 ho hb hg hat; rw [← Ny244.out] at ho; have HO246 := Aside0.mk (ho); replace HB := Aside0.mk (hb); clear HO_5; clear ho hb hg hat))
   go_roundg k1
   case measure => have := HK1.out; omega
   case rel => exact ⟨(y244), (wrap64 (x10_1 + 1)), (by first | rfl | (simp; done) | (simp [*]; done)), H', ⟨by have := HK1.out; omega⟩, ⟨ra HO246.out⟩, ⟨hB HB⟩⟩

mutual
def impl_spread.l0 : Nat → List Int → List (S76) → List (S138) → Option ((List (S76)))
 | 0, _, _, _ => none
 | k + 1, x0, x5, x6 => if (x6.length : Int) > 0 then (if 0 < (x6.length : Int) then ((impl_branches.f k x0 ((rd_T138 x6 0).f0)).bind fun t252 => (impl_spread.l1 k x0 x5 x6 t252 (t252.length : Int) 0 ((rd_T138 x6 0).f0) ((rd_T138 x6 0).f1))) else (none)) else (some x5)
def impl_spread.l1 : Nat → List Int → List (S76) → List (S138) → List Int → Int → Int → Int → Int → Option ((List (S76)))
 | 0, _, _, _, _, _, _, _, _ => none
 | k + 1, x0, x5, x6, x24, x25, x26, x252000, x252001 => if x26 < x25 then (if 0 ≤ x26 then (if x26 < (x24.length : Int) then (if (rd x24 x26) = x252001 then (impl_spread.l1 k x0 x5 x6 x24 x25 (wrap64 (x26 + 1)) x252000 x252001) else (if x5.length < 8796093022208 then (if x6.length < 8796093022208 then (impl_spread.l1 k x0 (x5 ++ [(⟨x252000, rd x24 x26⟩ : S76)]) (x6 ++ [(⟨rd x24 x26, x252000⟩ : S138)]) x24 x25 (wrap64 (x26 + 1)) x252000 x252001) else (none)) else (none))) else (none)) else (none)) else (if 1 ≤ (x6.length : Int) then (impl_spread.l0 k x0 x5 (x6.drop (1 : Int).toNat)) else (none))
end
def impl_spread.f (k : Nat) (l0 : List Int) (a1 : Int) : Option ((List (S76))) := impl_spread.l0 k l0 ([] : List (S76)) (([(⟨a1, (-1)⟩ : S138)] : List (S138)))
theorem impl_spread.mono_l : ∀ k, (∀ y0 y1 y2, LeO (impl_spread.l0 k y0 y1 y2) (impl_spread.l0 (k + 1) y0 y1 y2)) ∧ (∀ y0 y1 y2 y3 y4 y5 y6 y7, LeO (impl_spread.l1 k y0 y1 y2 y3 y4 y5 y6 y7) (impl_spread.l1 (k + 1) y0 y1 y2 y3 y4 y5 y6 y7))
 | 0 => ⟨fun _ _ _ r h => by simp [impl_spread.l0] at h, fun _ _ _ _ _ _ _ _ r h => by simp [impl_spread.l1] at h⟩
 | k + 1 => by
  obtain ⟨ih0, ih1⟩ := impl_spread.mono_l k
  refine ⟨?_, ?_⟩
  ·intro y0 y1 y2
   unfold impl_spread.l0
   repeat' first
   | (with_reducible exact ih0 _ _ _)
   | (with_reducible exact ih1 _ _ _ _ _ _ _ _)
   | (with_reducible exact impl_branches.mono _ _ _)
   | (with_reducible exact LeO.refl _)
   | (with_reducible exact LeO.none _)
   | (with_reducible refine LeO.ite ?_ ?_)
   | (with_reducible refine LeO.bind ?_ (fun _ => ?_))
  ·intro y0 y1 y2 y3 y4 y5 y6 y7
   unfold impl_spread.l1
   repeat' first
   | (with_reducible exact ih0 _ _ _)
   | (with_reducible exact ih1 _ _ _ _ _ _ _ _)
   | (with_reducible exact impl_branches.mono _ _ _)
   | (with_reducible exact LeO.refl _)
   | (with_reducible exact LeO.none _)
   | (with_reducible refine LeO.ite ?_ ?_)
   | (with_reducible refine LeO.bind ?_ (fun _ => ?_))
theorem impl_spread.mono : ∀ a0 a1 k, LeO (impl_spread.f k a0 a1) (impl_spread.f (k + 1) a0 a1) := by
 intro a0 a1 k
 obtain ⟨ih0, ih1⟩ := impl_spread.mono_l k
 unfold impl_spread.f
 repeat' first
   | (with_reducible exact ih0 _ _ _)
   | (with_reducible exact ih1 _ _ _ _ _ _ _ _)
   | (with_reducible exact impl_branches.mono _ _ _)
   | (with_reducible exact LeO.refl _)
   | (with_reducible exact LeO.none _)
   | (with_reducible refine LeO.ite ?_ ?_)
   | (with_reducible refine LeO.bind ?_ (fun _ => ?_))
set_option maxHeartbeats 8000000 in
set_option maxRecDepth 100000 in
theorem impl_spread.calls (k : Nat) (A0 : Option Addr) (c0 : Nat) (l0 : List Int) (a1 : Int) (r : List (S76)) (w : World) (hr0 : Kd.C (Kd.int .i64) w A0 l0.length l0) (hc0 : l0.length ≤ c0) (h : impl_spread.f k l0 a1 = some r) :
  Calls Try.prog 103 #[.slice A0 l0.length c0, .int .i64 a1] w fun e w' => ∃ v0_ : Value, e = .returned (v0_) ∧ Kd.R k76 76 w' w.heap.size (fun _ => True) v0_ r ∧ Below w.heap.size w w' := by
 have hu138 := Try.underlying138
 have hu76 := Try.underlying76
 have HR0 := Aside0.mk hr0
 have HC0 := Aside0.mk hc0
 clear hr0 hc0
 have HB := Aside0.mk (Below.refl w.heap.size w)
 have H : (impl_spread.l0 k l0 ([] : List (S76)) (([(⟨a1, (-1)⟩ : S138)] : List (S138)))) = some r := h
 clear h
 obtain ⟨y247, hy247⟩ : ∃ y_ : List (S138), y_ = (([(⟨a1, (-1)⟩ : S138)] : List (S138))) := ⟨_, rfl⟩
 replace H : (impl_spread.l0 k l0 ([] : List (S76)) y247) = some r := by first | (rw [hy247]; with_reducible exact H) | (have H2_ := (Option.bind_some _ _).symm.trans H; rw [hy247]; with_reducible exact H2_) | (have H2_ := (Option.bind_some _ _).symm.trans H; with_reducible exact H2_) | with_reducible exact H | (rw [hy247]; exact H) | exact H
 have Ny247 := Aside0.mk hy247
 clear hy247
 have H' := Aside0.mk H
 clear H
 go_enter Try.func103, Try.ntmps103
 go_wp2_with (first | ((with_reducible refine gate_dst (N := 12) rfl ?_); refine Kd.R_lit k138 _ 138 ?hg (N := 12) ?hd (xs := ([(⟨a1, (-1)⟩ : S138)] : List (S138))) (inner := [.int .i64 a1, .int .i64 (-1)]) (ok := fun _ => True) (okp := fun _ => True) ?hr ?hp (fun _ hk => hk) trivial (Below.refl _ _) (Nat.le_refl _) (by simp) ?_; (case hd => rfl); (case hg => rfl); (case hr => first | (go_simp; done) | (go_simp; rfl)); (case hp => exact (Reps.c2 (show Kd.M k138 _ _ _ (⟨a1, (-1)⟩ : S138) [.int .i64 a1, .int .i64 (-1)] from (k138_mkM _ _ _ (⟨a1, (-1)⟩ : S138) )) (Reps.none _ _))); intro v248 w3 ho4 hb hg_ hnew_; clear hg_ hnew_; (first | rw [← Ny247.out] at ho4 | (simp only [Int.reduceToNat] at ho4; rw [← Ny247.out] at ho4)); have HO249 := Aside0.mk (Kd.R_lower ho4 (below_size (hB HB))); replace HB := bst_ HB hb; clear hb ho4))
 go_loopg [5, 6] k (fun kq v5 v6 w' => ∃ (x5_1 : List (S76)) (x6_1 : List (S138)), Aside0 (impl_spread.l0 kq l0 x5_1 x6_1 = some r) ∧ Aside0 (kq ≤ k) ∧ Aside0 (Kd.R k76 76 w' w.heap.size (fun _ => True) v5 x5_1) ∧ Aside0 (Kd.Q k138 138 w' w.heap.size (fun _ => True) v6 x6_1) ∧ Aside0 (Below w.heap.size w w'))
 case atStart => exact ⟨(([] : List (S76))), (y247), H', ⟨Nat.le_refl _⟩, ⟨by first | exact Kd.R_nil _ _ _ _ _ | exact Kd.N_nil _ _ _ _ _ | exact Kd.V_nil _ _ _ _ _ | exact Kd.Q_nil _ _ _ _ _ | exact Kd.S_nil _ _ _ _ _⟩, ⟨Kd.Q_of_R (ra HO249.out)⟩, ⟨hB HB⟩⟩
 case round =>
  clear H'
  try clear c2
  obtain ⟨x5_1, x6_1, HA, HK1, HO_5, HO_6, HB⟩ := hrel
  cases gk with
  | zero => exact absurd HA.out (by simp [impl_spread.l0])
  | succ k1 =>
   have H := HA.out
   clear HA
   simp only [impl_spread.l0] at H
   by_cases c5 : (x6_1.length : Int) > 0
   rotate_left
   ·rw [if_neg c5] at H
    have c5b0 : decide (0 < (x6_1.length : Int)) = false := decide_eq_false c5
    have c5b1 : decide (0 < x6_1.length) = false := decide_eq_false (by omega)
    clear c5
    obtain rfl := Option.some.inj H
    obtain ⟨Ao27, co27, eo27, _⟩ := Kd.Q_slice HO_6.out
    subst eo27
    go_wp2
    go_ret
    exact ⟨_, by first | rfl | (simp [errW_none, errW_some] <;> rfl) | (simp [*, errW_none, errW_some] <;> rfl), by (with_reducible repeat (first | apply Kd.R_alloc | apply Kd.R_drewN | apply Kd.R_drew)); exact HO_5.out, by repeat (first | (with_reducible first | exact HB.out | apply below_alloc | apply pw_below_drewN | apply below_drew1) | exact HB.out)⟩
   rw [if_pos c5] at H
   have c5b0 : decide (0 < (x6_1.length : Int)) = true := decide_eq_true c5
   have c5b1 : decide (0 < x6_1.length) = true := decide_eq_true (by omega)
   clear c5
   by_cases c6 : 0 < (x6_1.length : Int)
   rotate_left
   ·rw [if_neg c6] at H
    exact absurd H (by simp)
   rw [if_pos c6] at H
   have c6b0 : decide (0 < (x6_1.length : Int)) = true := decide_eq_true c6
   have c6b1 : decide (0 < x6_1.length) = true := decide_eq_true (by omega)
   clear c6
   replace H := Option.bind_eq_some_iff.mp H
   obtain ⟨t252, A70, H⟩ := H
   replace H : (impl_spread.l1 k1 l0 x5_1 x6_1 t252 (t252.length : Int) 0 ((rd_T138 x6_1 0).f0) ((rd_T138 x6_1 0).f1)) = some r := H
   have A7 := Aside0.mk A70
   clear A70
   have H' := Aside0.mk H
   clear H
   obtain ⟨Ao8, co8, eo8, _⟩ := Kd.Q_slice HO_6.out
   subst eo8
   have p250 : 0 ≤ (0 : Int) := (by omega)
   have q250 : 0 < (x6_1.length : Int) := of_decide_eq_true (by first | (with_reducible assumption) | assumption)
   obtain ⟨ad250, e250, hx250_0, hx250_1⟩ := at_T138 (Kd.Q_reads' HO_6.out).2.2 0 p250 q250
   cases e250
   have qi250 : (0 < x6_1.length) = True := eq_true (by omega)
   (try rw [show ((0 : Int)).toNat = 0 from rfl] at hx250_0)
   (try rw [show 0 * 2 = 0 from rfl] at hx250_0)
   (try rw [Addr.add_zero'] at hx250_0)
   (try rw [show ((0 : Int)).toNat = 0 from rfl] at hx250_1)
   (try rw [show 0 * 2 = 0 from rfl] at hx250_1)
   (try rw [Addr.add_zero'] at hx250_1)
   replace p250 := eq_true p250
   replace q250 := eq_true q250
   go_wp2_with (first | ((with_reducible refine gate_dst (N := 7) rfl ?_); refine box_event ?hg (N := 7) ?hd (cs := #[.int .i64 0, .int .i64 0]) (t := 138) ?hr ?_; (case hd => rfl); (case hg => rfl); (case hr => first | (go_simp; done) | (go_simp; rfl)); intro gb251 hg w9 hbox hb; have BK251 := Aside0.mk (hbox); have GW251 := gw_ hg HB; have GE251 := gw_ hg HB; replace HO_5 := rb_ HO_5 hb; replace HO_6 := Aside0.mk (Kd.Q_below (Kd.Q_elderB (by (with_reducible repeat (first | apply Kd.Q_alloc | apply Kd.Q_drewN | apply Kd.Q_drew)); exact HO_6.out) gb251 (Nat.le_of_eq hg.symm)) hb); replace HB := bst_ HB hb; clear hb hbox hg; have hcz10_0 : w9.cell? ⟨gb251, 0, none⟩ = some (.int .i64 0) := bc_ BK251 0; have hcz10_1 : w9.cell? ⟨gb251, 1, none⟩ = some (.int .i64 0) := bc_ BK251 1; have hfz10_0 := blk_frozen BK251.out 0; have hfz10_1 := blk_frozen BK251.out 1) | ((with_reducible refine gate_callee (f := 98) rfl ?_); refine goesL_ (some 24) rfl rfl Try.func98 (by kernel_rfl) rfl #[.slice A0 l0.length c0, .int .i64 ((rd_T138 x6_1 0).f0)] rfl tm_ ?_; (with_reducible refine (impl_branches.calls k1 _ _ l0 ((rd_T138 x6_1 0).f0) t252 _ ?side1 ?side2 A7.out).mono ?_); (case side1 => exact Kd.C_below HR0.out (hB HB)); (case side2 => exact HC0.out); rintro e w11 ⟨v253, rfl, ho0, hb⟩; refine ⟨_, rfl, ?_⟩; have HO254 := Aside0.mk (Kd.R_lower ho0 (below_size (hB HB))); replace HO_5 := Aside0.mk (Kd.R_below (ra (Kd.R_mono (Kd.R_far (p := ⟨gb251, 1, none⟩) (Kd.R_far (p := ⟨gb251, 0, none⟩) (Kd.R_types HO_5.out BK251.out (by decide)) (fun _ hk => hk.2) (.int .i64 ((rd_T138 x6_1 0).f0))) (fun _ hk => hk.2) (.int .i64 ((rd_T138 x6_1 0).f1))) (fun _ h_ => h_.1))) hb); replace HO_6 := Aside0.mk (Kd.Q_below (by (with_reducible repeat (first | apply Kd.Q_alloc | apply Kd.Q_drewN | apply Kd.Q_drew)); exact (Kd.Q_mono (Kd.Q_far (p := ⟨gb251, 1, none⟩) (Kd.Q_far (p := ⟨gb251, 0, none⟩) (Kd.Q_mono HO_6.out (fun k_ hk => (⟨hk, hk.2⟩ : _ ∧ k_ ≠ gb251))) (fun _ hk => hk.2) (.int .i64 ((rd_T138 x6_1 0).f0))) (fun _ hk => hk.2) (.int .i64 ((rd_T138 x6_1 0).f1))) (fun _ h_ => h_.1))) hb); replace BK251 := Aside0.mk (blk_below (g := gb251) (o := .cells #[.int .i64 ((rd_T138 x6_1 0).f0), .int .i64 ((rd_T138 x6_1 0).f1)] 138 (0, 0)) (by (with_reducible repeat (first | refine blk_drewN ?_ _ | refine blk_drew ?_ | refine blk_alloc ?_ _)); refine blk_put (cs := #[.int .i64 ((rd_T138 x6_1 0).f0), .int .i64 0]) ?_ 1 _ rfl; (with_reducible repeat (first | refine blk_drewN ?_ _ | refine blk_drew ?_ | refine blk_alloc ?_ _)); refine blk_put (cs := #[.int .i64 0, .int .i64 0]) ?_ 0 _ rfl; (with_reducible repeat (first | refine blk_drewN ?_ _ | refine blk_drew ?_ | refine blk_alloc ?_ _)); exact BK251.out) hb); replace HB := bst_ HB hb; clear hb ho0; obtain ⟨Ao12, co12, eo12⟩ := Kd.R_slice HO254.out; subst eo12))
   go_loopg [5, 6, 26] k1 (fun kq v5 v6 v26 w' => ∃ (x5_2 : List (S76)) (x6_2 : List (S138)) (x26_2 : Int), v26 = .int .i64 x26_2 ∧ Aside0 (impl_spread.l1 kq l0 x5_2 x6_2 t252 (t252.length : Int) x26_2 ((rd_T138 x6_1 0).f0) ((rd_T138 x6_1 0).f1) = some r) ∧ Aside0 (kq ≤ k1) ∧ Aside0 (Kd.R k76 76 w' w.heap.size (fun _ => True) v5 x5_2) ∧ Aside0 (Kd.Q k138 138 w' w.heap.size (fun k_ => k_ ≠ gb251) v6 x6_2) ∧ Aside0 (Kd.R (Kd.int .i64) 3 w' w.heap.size (fun _ => True) (.slice Ao12 t252.length co12) t252) ∧ Aside0 (w'.heap[gb251]? = some (.cells #[.int .i64 ((rd_T138 x6_1 0).f0), .int .i64 ((rd_T138 x6_1 0).f1)] 138 (0, 0))) ∧ Aside0 (Below w.heap.size w w'))
   case atStart => exact ⟨(x5_1), (x6_1), (0), (by first | rfl | (simp; done) | (simp [*]; done)), H', ⟨Nat.le_refl _⟩, ⟨ra HO_5.out⟩, ⟨by (with_reducible repeat (first | apply Kd.Q_alloc | apply Kd.Q_drewN | apply Kd.Q_drew)); exact Kd.Q_mono HO_6.out (fun _ hk => hk.2)⟩, ⟨ra HO254.out⟩, ⟨by (with_reducible repeat (first | refine blk_drewN ?_ _ | refine blk_drew ?_ | refine blk_alloc ?_ _)); exact BK251.out⟩, ⟨hB HB⟩⟩
   case round =>
    clear H'
    try clear c2
    try clear c5
    try clear c5b0
    try clear c5b1
    try clear c6
    try clear c6b0
    try clear c6b1
    try clear hcz10_0
    try clear hcz10_1
    try clear hfz10_0
    try clear hfz10_1
    try clear hx250_0
    try clear hx250_1
    try clear p250
    try clear q250
    obtain ⟨x5_2, x6_2, x26_2, rfl, HA, HK2, HO_5, HO_6, HO_24, BK251, HB⟩ := hrel
    cases gk with
    | zero => exact absurd HA.out (by simp [impl_spread.l1])
    | succ k2 =>
     have H := HA.out
     clear HA
     simp only [impl_spread.l1] at H
     by_cases c13 : x26_2 < (t252.length : Int)
     rotate_left
     ·rw [if_neg c13] at H
      have c13b0 : decide (x26_2 < (t252.length : Int)) = false := decide_eq_false c13
      clear c13
      by_cases c24 : 1 ≤ (x6_2.length : Int)
      rotate_left
      ·rw [if_neg c24] at H
       exact absurd H (by simp)
      rw [if_pos c24] at H
      have c24b0 := eq_true c24
      have c24b1 : decide (1 ≤ (x6_2.length : Int)) = true := decide_eq_true c24
      clear c24
      obtain ⟨y262, hy262⟩ : ∃ y_ : List (S138), y_ = (x6_2.drop (1 : Int).toNat) := ⟨_, rfl⟩
      replace H : (impl_spread.l0 k2 l0 x5_2 y262) = some r := by first | (rw [hy262]; with_reducible exact H) | (have H2_ := (Option.bind_some _ _).symm.trans H; rw [hy262]; with_reducible exact H2_) | (have H2_ := (Option.bind_some _ _).symm.trans H; with_reducible exact H2_) | with_reducible exact H | (rw [hy262]; exact H) | exact H
      have Ny262 := Aside0.mk hy262
      clear hy262
      have H' := Aside0.mk H
      clear H
      obtain ⟨Ao25, co25, eo25, _⟩ := Kd.Q_slice HO_6.out
      subst eo25
      have q26 : (1 : Int) ≤ ((x6_2.length : Int) : Int) := of_decide_eq_true (by first | (with_reducible assumption) | assumption)
      obtain ⟨i026, hi026, _, hsz26, _⟩ := info_parts info138
      have hcut26 := cut_from (P := Try.prog) 139 138 .i64 Try.underlying139 hi026 2 hsz26 Ao25 x6_2.length co25 1 (by omega) q26
      have hr26 := Kd.Q_drop (k := (1 : Int).toNat) HO_6.out (by omega)
      obtain ⟨A26, hA26⟩ : ∃ A1, A1 = (if co25 = (1 : Int).toNat then Ao25 else (Ao25 : Option Addr).map (·.add ((1 : Int).toNat * 2))) := ⟨_, rfl⟩
      obtain ⟨c26, hc26⟩ : ∃ c1, c1 = co25 - (1 : Int).toNat := ⟨_, rfl⟩
      have hy26 : y262.length = x6_2.length - (1 : Int).toNat := (by rw [Ny262.out, List.length_drop])
      rw [← Ny262.out] at hr26
      rw [← hy26, ← hA26, ← hc26] at hcut26
      replace hr26 : Kd.Q k138 138 wr w.heap.size (fun k_ => k_ ≠ gb251) (.slice A26 y262.length c26) y262 := (by rw [hA26, hc26, hy26]; exact hr26)
      have HE26 : Aside0 ((Value.slice A26 y262.length c26).ownBlock = (.slice Ao25 x6_2.length co25 : Value).ownBlock) := ⟨by rw [hA26]; split <;> (cases (Ao25 : Option Addr) <;> rfl)⟩
      clear hy26 hi026 hsz26 HO_6 hA26 hc26
      have HO264 := Aside0.mk hr26
      clear hr26
      replace q26 := eq_true q26
      go_wp2
      go_roundg k2
      case measure => have := HK1.out; have := HK2.out; omega
      case rel => exact ⟨(x5_2), (y262), H', ⟨by have := HK1.out; have := HK2.out; omega⟩, ⟨ra HO_5.out⟩, ⟨by (with_reducible repeat (first | apply Kd.Q_alloc | apply Kd.Q_drewN | apply Kd.Q_drew)); exact Kd.Q_mono HO264.out (fun _ hk => trivial)⟩, ⟨hB HB⟩⟩
     rw [if_pos c13] at H
     have c13b0 : decide (x26_2 < (t252.length : Int)) = true := decide_eq_true c13
     clear c13
     by_cases c14 : 0 ≤ x26_2
     rotate_left
     ·rw [if_neg c14] at H
      exact absurd H (by simp)
     rw [if_pos c14] at H
     have c14b0 : decide (0 ≤ x26_2) = true := decide_eq_true c14
     clear c14
     by_cases c15 : x26_2 < (t252.length : Int)
     rotate_left
     ·rw [if_neg c15] at H
      exact absurd H (by simp)
     rw [if_pos c15] at H
     have c15b0 : decide (x26_2 < (t252.length : Int)) = true := decide_eq_true c15
     clear c15
     by_cases c16 : (rd t252 x26_2) = ((rd_T138 x6_1 0).f1)
     ·rw [if_pos c16] at H
      have c16b0 : ((rd t252 x26_2) == ((rd_T138 x6_1 0).f1)) = true := beq_iff_eq.mpr c16
      have c16b1 : ((rd t252 x26_2) != ((rd_T138 x6_1 0).f1)) = false := bne_eq_false_iff_eq.mpr c16
      clear c16
      have H' := Aside0.mk H
      clear H
      have p255 : 0 ≤ (x26_2 : Int) := of_decide_eq_true (by first | (with_reducible assumption) | assumption)
      have q255 : x26_2 < (t252.length : Int) := of_decide_eq_true (by first | (with_reducible assumption) | assumption)
      obtain ⟨ad255, e255, hx255_0⟩ := Kd.at_int (Kd.R_reads' HO_24.out).2.2 x26_2 p255 q255
      cases e255
      replace p255 := eq_true p255
      replace q255 := eq_true q255
      have hcz17_0 : wr.cell? ⟨gb251, 0, none⟩ = some (.int .i64 ((rd_T138 x6_1 0).f0)) := bc_ BK251 0
      have hcz17_1 : wr.cell? ⟨gb251, 1, none⟩ = some (.int .i64 ((rd_T138 x6_1 0).f1)) := bc_ BK251 1
      have hfz17_0 := blk_frozen BK251.out 0
      have hfz17_1 := blk_frozen BK251.out 1
      go_wp2
      go_roundg k2
      case measure => have := HK1.out; have := HK2.out; omega
      case rel => exact ⟨(x5_2), (x6_2), (wrap64 (x26_2 + 1)), (by first | rfl | (simp; done) | (simp [*]; done)), H', ⟨by have := HK1.out; have := HK2.out; omega⟩, ⟨ra HO_5.out⟩, ⟨by (with_reducible repeat (first | apply Kd.Q_alloc | apply Kd.Q_drewN | apply Kd.Q_drew)); exact HO_6.out⟩, ⟨ra HO_24.out⟩, ⟨by (with_reducible repeat (first | refine blk_drewN ?_ _ | refine blk_drew ?_ | refine blk_alloc ?_ _)); exact BK251.out⟩, ⟨hB HB⟩⟩
     rw [if_neg c16] at H
     have c16b0 : ((rd t252 x26_2) == ((rd_T138 x6_1 0).f1)) = false := beq_eq_false_iff_ne.mpr c16
     have c16b1 : ((rd t252 x26_2) != ((rd_T138 x6_1 0).f1)) = true := bne_iff_ne.mpr c16
     by_cases c18 : x5_2.length < 8796093022208
     rotate_left
     ·rw [if_neg c18] at H
      exact absurd H (by simp)
     rw [if_pos c18] at H
     have LMc18 := Aside0.mk c18
     clear c18
     obtain ⟨y256, hy256⟩ : ∃ y_ : List (S76), y_ = (x5_2 ++ [(⟨((rd_T138 x6_1 0).f0), rd t252 x26_2⟩ : S76)]) := ⟨_, rfl⟩
     replace H : (if x6_2.length < 8796093022208 then (impl_spread.l1 k2 l0 y256 (x6_2 ++ [(⟨rd t252 x26_2, ((rd_T138 x6_1 0).f0)⟩ : S138)]) t252 (t252.length : Int) (wrap64 (x26_2 + 1)) ((rd_T138 x6_1 0).f0) ((rd_T138 x6_1 0).f1)) else (none)) = some r := by first | (rw [hy256]; with_reducible exact H) | (have H2_ := (Option.bind_some _ _).symm.trans H; rw [hy256]; with_reducible exact H2_) | (have H2_ := (Option.bind_some _ _).symm.trans H; with_reducible exact H2_) | with_reducible exact H | (rw [hy256]; exact H) | exact H
     have Ny256 := Aside0.mk hy256
     clear hy256
     by_cases c19 : x6_2.length < 8796093022208
     rotate_left
     ·rw [if_neg c19] at H
      exact absurd H (by simp)
     rw [if_pos c19] at H
     have LMc19 := Aside0.mk c19
     clear c19
     obtain ⟨y259, hy259⟩ : ∃ y_ : List (S138), y_ = (x6_2 ++ [(⟨rd t252 x26_2, ((rd_T138 x6_1 0).f0)⟩ : S138)]) := ⟨_, rfl⟩
     replace H : (impl_spread.l1 k2 l0 y256 y259 t252 (t252.length : Int) (wrap64 (x26_2 + 1)) ((rd_T138 x6_1 0).f0) ((rd_T138 x6_1 0).f1)) = some r := by first | (rw [hy259]; with_reducible exact H) | (have H2_ := (Option.bind_some _ _).symm.trans H; rw [hy259]; with_reducible exact H2_) | (have H2_ := (Option.bind_some _ _).symm.trans H; with_reducible exact H2_) | with_reducible exact H | (rw [hy259]; exact H) | exact H
     have Ny259 := Aside0.mk hy259
     clear hy259
     have H' := Aside0.mk H
     clear H
     have p255 : 0 ≤ (x26_2 : Int) := of_decide_eq_true (by first | (with_reducible assumption) | assumption)
     have q255 : x26_2 < (t252.length : Int) := of_decide_eq_true (by first | (with_reducible assumption) | assumption)
     obtain ⟨ad255, e255, hx255_0⟩ := Kd.at_int (Kd.R_reads' HO_24.out).2.2 x26_2 p255 q255
     cases e255
     replace p255 := eq_true p255
     replace q255 := eq_true q255
     have hcz20_0 : wr.cell? ⟨gb251, 0, none⟩ = some (.int .i64 ((rd_T138 x6_1 0).f0)) := bc_ BK251 0
     have hcz20_1 : wr.cell? ⟨gb251, 1, none⟩ = some (.int .i64 ((rd_T138 x6_1 0).f1)) := bc_ BK251 1
     have hfz20_0 := blk_frozen BK251.out 0
     have hfz20_1 := blk_frozen BK251.out 1
     go_wp2_with (first | ((with_reducible refine gate_builtin (b := .append) (xs := #[.tmp 34, .tmp 39]) rfl ?_); at_builtin; refine Kd.R_append k76 (w0 := w) w.heap.size rfl (.tmp 34) (.tmp 39) 23 76 (.agg #[(.int .i64 0), (.int .i64 0)]) 16 rfl Try.underlying23 info76 rfl (by decide) (by omega) u5 x5_2 (⟨((rd_T138 x6_1 0).f0), rd t252 x26_2⟩ : S76) [.int .i64 ((rd_T138 x6_1 0).f0), .int .i64 (rd t252 x26_2)] (fun _ => True) (fun _ => False) rfl rfl ?aP (fun _ hk => hk.elim) ?aF ?aO ?aB ?aS ?aL ?_; (case aP => exact k76_mkM _ _ _ (⟨((rd_T138 x6_1 0).f0), rd t252 x26_2⟩ : S76)); (case aB => exact (hB HB)); (case aF => exact (fun _ _ => trivial)); (case aO => exact (ra HO_5.out)); (case aS => exact (below_size (hB HB))); (case aL => have := LMc18.out; omega); intro v257 w21 ho hb hg hat; rw [← Ny256.out] at ho; have HO258 := Aside0.mk (ho); replace HO_6 := Aside0.mk (Kd.Q_over' (by (with_reducible repeat (first | apply Kd.Q_alloc | apply Kd.Q_drewN | apply Kd.Q_drew)); exact HO_6.out) (Kd.R_typed (ra HO_5.out)) (by decide) hg); replace HO_24 := Aside0.mk (Kd.R_over' (ra HO_24.out) (Kd.R_typed (ra HO_5.out)) (by decide) hg); replace BK251 := Aside0.mk (blk_grown (g := gb251) (o := .cells #[.int .i64 ((rd_T138 x6_1 0).f0), .int .i64 ((rd_T138 x6_1 0).f1)] 138 (0, 0)) (ba BK251.out) hg (Kd.R_ne HO_5.out BK251.out (by decide))); replace HB := Aside0.mk (hb); clear HO_5; clear ho hb hg hat; have hcz22_0 : w21.cell? ⟨gb251, 0, none⟩ = some (.int .i64 ((rd_T138 x6_1 0).f0)) := bc_ BK251 0; have hcz22_1 : w21.cell? ⟨gb251, 1, none⟩ = some (.int .i64 ((rd_T138 x6_1 0).f1)) := bc_ BK251 1; have hfz22_0 := blk_frozen BK251.out 0; have hfz22_1 := blk_frozen BK251.out 1) | ((with_reducible refine gate_builtin (b := .append) (xs := #[.tmp 41, .tmp 46]) rfl ?_); at_builtin; refine Kd.Q_append k138 (w0 := w) w.heap.size rfl (.tmp 41) (.tmp 46) 139 138 (.agg #[(.int .i64 0), (.int .i64 0)]) 16 rfl Try.underlying139 info138 rfl (by decide) (by omega) u6 x6_2 (⟨rd t252 x26_2, ((rd_T138 x6_1 0).f0)⟩ : S138) [.int .i64 (rd t252 x26_2), .int .i64 ((rd_T138 x6_1 0).f0)] (fun k_ => k_ ≠ gb251) (fun _ => False) rfl rfl ?aP (fun _ hk => hk.elim) ?aF ?aO ?aB ?aS ?aL ?_; (case aP => exact k138_mkM _ _ _ (⟨rd t252 x26_2, ((rd_T138 x6_1 0).f0)⟩ : S138)); (case aB => exact (hB HB)); (case aF => exact (fun k_ hk => Kd.freshB (g := gb251) (o := .cells #[.int .i64 ((rd_T138 x6_1 0).f0), .int .i64 ((rd_T138 x6_1 0).f1)] 138 (0, 0)) (ba BK251.out) k_ hk)); (case aO => exact (by (with_reducible repeat (first | apply Kd.Q_alloc | apply Kd.Q_drewN | apply Kd.Q_drew)); exact HO_6.out)); (case aS => exact (below_size (hB HB))); (case aL => have := LMc19.out; omega); intro v260 w23 ho hb hg hat; rw [← Ny259.out] at ho; have HO261 := Aside0.mk (ho); replace HO_24 := Aside0.mk (Kd.R_over' (ra HO_24.out) (Kd.Q_typed (by (with_reducible repeat (first | apply Kd.Q_alloc | apply Kd.Q_drewN | apply Kd.Q_drew)); exact HO_6.out)) (by decide) hg); replace BK251 := Aside0.mk (blk_grown (g := gb251) (o := .cells #[.int .i64 ((rd_T138 x6_1 0).f0), .int .i64 ((rd_T138 x6_1 0).f1)] 138 (0, 0)) (ba BK251.out) hg (Kd.Q_away HO_6.out (fun _ hk => hk))); replace HO258 := Aside0.mk (Kd.R_over' (ra HO258.out) (Kd.Q_typed (by (with_reducible repeat (first | apply Kd.Q_alloc | apply Kd.Q_drewN | apply Kd.Q_drew)); exact HO_6.out)) (by decide) hg); replace HB := Aside0.mk (hb); clear HO_6; clear ho hb hg hat))
     go_roundg k2
     case measure => have := HK1.out; have := HK2.out; omega
     case rel => exact ⟨(y256), (y259), (wrap64 (x26_2 + 1)), (by first | rfl | (simp; done) | (simp [*]; done)), H', ⟨by have := HK1.out; have := HK2.out; omega⟩, ⟨ra HO258.out⟩, ⟨by (with_reducible repeat (first | apply Kd.Q_alloc | apply Kd.Q_drewN | apply Kd.Q_drew)); exact HO261.out⟩, ⟨ra HO_24.out⟩, ⟨by (with_reducible repeat (first | refine blk_drewN ?_ _ | refine blk_drew ?_ | refine blk_alloc ?_ _)); exact BK251.out⟩, ⟨hB HB⟩⟩

def sort_ren : Go.Shelf.Ren := ⟨fun | 125 => 149 | 128 => 166 | 129 => 167 | 189 => 136 | 215 => 168 | 216 => 150 | 257 => 148 | 294 => 158 | 295 => 159 | 296 => 160 | 297 => 161 | 298 => 162 | 299 => 163 | 300 => 164 | 301 => 165 | 328 => 171 | 329 => 172 | 330 => 173 | 331 => 174 | 332 => 175 | 343 => 178 | n => n, fun | 0 => 0 | 3 => 3 | 4 => 4 | 5 => 5 | 9 => 9 | 28 => 22 | 46 => 146 | 51 => 165 | 53 => 103 | 131 => 59 | 182 => 159 | 183 => 160 | 218 => 168 | 222 => 172 | 228 => 175 | 229 => 176 | n => n, fun n => n⟩
theorem sort_lays : Go.Proofs.Lays.n189 Try.prog sort_ren := {
  mixed := by kernel_rfl
  f125 := Try.func149.trans (congrArg some (by kernel_rfl))
  f128 := Try.func166.trans (congrArg some (by kernel_rfl))
  f129 := Try.func167.trans (congrArg some (by kernel_rfl))
  f189 := Try.func136.trans (congrArg some (by kernel_rfl))
  f215 := Try.func168.trans (congrArg some (by kernel_rfl))
  f216 := Try.func150.trans (congrArg some (by kernel_rfl))
  f257 := Try.func148.trans (congrArg some (by kernel_rfl))
  f294 := Try.func158.trans (congrArg some (by kernel_rfl))
  f295 := Try.func159.trans (congrArg some (by kernel_rfl))
  f296 := Try.func160.trans (congrArg some (by kernel_rfl))
  f297 := Try.func161.trans (congrArg some (by kernel_rfl))
  f298 := Try.func162.trans (congrArg some (by kernel_rfl))
  f299 := Try.func163.trans (congrArg some (by kernel_rfl))
  f300 := Try.func164.trans (congrArg some (by kernel_rfl))
  f301 := Try.func165.trans (congrArg some (by kernel_rfl))
  f328 := Try.func171.trans (congrArg some (by kernel_rfl))
  f329 := Try.func172.trans (congrArg some (by kernel_rfl))
  f330 := Try.func173.trans (congrArg some (by kernel_rfl))
  f331 := Try.func174.trans (congrArg some (by kernel_rfl))
  f332 := Try.func175.trans (congrArg some (by kernel_rfl))
  f343 := Try.func178.trans (congrArg some (by kernel_rfl))
  t0 := Try.underlying0
  a0 := Try.isAgg0
  z0 := Try.sizeOf0
  v0 := Try.zeroValue0
  t3 := Try.underlying3
  a3 := Try.isAgg3
  z3 := Try.sizeOf3
  v3 := Try.zeroValue3
  t4 := Try.underlying4
  a4 := Try.isAgg4
  z4 := Try.sizeOf4
  v4 := Try.zeroValue4
  t5 := Try.underlying5
  a5 := Try.isAgg5
  z5 := Try.sizeOf5
  v5 := Try.zeroValue5
  t9 := Try.underlying9
  a9 := Try.isAgg9
  z9 := Try.sizeOf9
  v9 := Try.zeroValue9
  t28 := Try.underlying22
  a28 := Try.isAgg22
  z28 := Try.sizeOf22
  v28 := Try.zeroValue22
  t46 := Try.underlying146
  a46 := Try.isAgg146
  z46 := Try.sizeOf146
  v46 := Try.zeroValue146
  t51 := Try.underlying165
  a51 := Try.isAgg165
  z51 := Try.sizeOf165
  v51 := Try.zeroValue165
  t53 := Try.underlying103
  a53 := Try.isAgg103
  z53 := Try.sizeOf103
  v53 := Try.zeroValue103
  t131 := Try.underlying59
  a131 := Try.isAgg59
  z131 := Try.sizeOf59
  v131 := Try.zeroValue59
  t182 := Try.underlying159
  a182 := Try.isAgg159
  z182 := Try.sizeOf159
  v182 := Try.zeroValue159
  t183 := Try.underlying160
  a183 := Try.isAgg160
  z183 := Try.sizeOf160
  v183 := Try.zeroValue160
  t218 := Try.underlying168
  a218 := Try.isAgg168
  z218 := Try.sizeOf168
  v218 := Try.zeroValue168
  t222 := Try.underlying172
  a222 := Try.isAgg172
  z222 := Try.sizeOf172
  v222 := Try.zeroValue172
  t228 := Try.underlying175
  a228 := Try.isAgg175
  z228 := Try.sizeOf175
  v228 := Try.zeroValue175
  t229 := Try.underlying176
  a229 := Try.isAgg176
  z229 := Try.sizeOf176
  v229 := Try.zeroValue176 }
theorem srt_reps {w : World} {base : Nat} {ok : Nat → Prop} {xs : List Int} {inner : List Value} (h : Reps ((Kd.int .i64).M w base ok) 1 xs inner) : inner = xs.map (Value.int .i64) := by
 have hl : inner.length = xs.length := by have := h.1; omega
 apply List.ext_getElem (by simpa using hl)
 intro j h1 h2
 have hj : j < xs.length := by omega
 have h3 : (inner.drop (j * 1)).take 1 = [Value.int .i64 xs[j]] := h.2 j xs[j] (List.getElem?_eq_getElem hj)
 have h4 := congrArg (fun l => l[0]?) h3
 simp only [Nat.mul_one, List.getElem?_take, List.getElem?_drop, Nat.zero_lt_one, if_true, Nat.add_zero, List.getElem?_cons_zero] at h4
 rw [List.getElem?_eq_getElem h1] at h4
 simpa using h4
theorem srt_ints {w : World} {base : Nat} {ok : Nat → Prop} (xs : List Int) : Reps ((Kd.int .i64).M w base ok) 1 xs (xs.map (Value.int .i64)) := by
 refine ⟨by rw [List.length_map]; exact (Nat.mul_one _).symm, fun j p hj => ?_⟩
 show ((xs.map (Value.int .i64)).drop (j * 1)).take 1 = [Value.int .i64 p]
 obtain ⟨hlt, rfl⟩ := List.getElem?_eq_some_iff.1 hj
 rw [Nat.mul_one, List.drop_eq_getElem_cons (by simpa using hlt)]
 simp
def slices_Sort_int_int.f (l0 : List Int) : Option (List Int) := if l0.length < 4611686018427387904 then some (l0.mergeSort fun x y => decide (x ≤ y)) else none
set_option maxHeartbeats 8000000 in
set_option maxRecDepth 100000 in
theorem slices_Sort_int_int.calls (P0_ : Nat → Prop) (u9000_ : Value) (l0 : List Int) (r : List Int) (w0 w : World) (hB : Below w0.heap.size w0 w) (ho0 : Kd.R (Kd.int .i64) 3 w w0.heap.size P0_ u9000_ l0) (h : slices_Sort_int_int.f l0 = some r) :
  Calls Try.prog 136 #[u9000_] w fun e w' => e = .returned (.tuple #[]) ∧ Kd.R (Kd.int .i64) 3 w' w0.heap.size (fun k_ => (P0_ k_ ∨ w.heap.size ≤ k_)) u9000_ r ∧ Below w0.heap.size w0 w' ∧ Kept w w' (fun k_ => P0_ k_) := by
 have hf : l0.length < 4611686018427387904 ∧ r = l0.mergeSort fun x y => decide (x ≤ y) := by
  unfold slices_Sort_int_int.f at h
  split at h
  · exact ⟨by assumption, (Option.some.inj h).symm⟩
  · cases h
 obtain ⟨hsz, rfl⟩ := hf
 clear h
 obtain ⟨hok, inner, ⟨hil, hcase⟩, hr⟩ := ho0
 have hin := srt_reps hr
 subst hin
 have hml : (l0.mergeSort fun x y => decide (x ≤ y)).length = l0.length := List.length_mergeSort _
 rcases hcase with ⟨rfl, hn⟩ | ⟨g, cap, cur, rfl, hbg, hg, hnc, hcm, hcs, htk⟩
 · have h0 : l0 = [] := List.length_eq_zero_iff.1 hn
   subst h0
   refine (Any.slices_Sort_int_none sort_lays none 0 w).mono ?_
   rintro e w' ⟨rfl, rfl⟩
   rw [show (([] : List Int).mergeSort fun x y => decide (x ≤ y)) = [] by simp]
   exact ⟨rfl, Kd.R_nil _ _ _ _ _, hB, Kept.refl _ _⟩
 · have hP : P0_ g := hok g rfl
   have htk1 : cur.toList.take l0.length = l0.map (Value.int .i64) := by rw [← htk, show (Kd.int .i64).sz = 1 from rfl, Nat.mul_one]
   have hgl : g < w.heap.size := (Array.getElem?_eq_some_iff.1 hg).1
   refine (Any.slices_Sort_int sort_lays g 0 cap l0 w (holds_of_blockI hg htk1) hgl hsz).mono ?_
   rintro e w' ⟨rfl, n, os, rfl⟩
   have hgr := grownBy_sortedI (w := w) (g := g) (n := n) (os := os) (l0.mergeSort fun x y => decide (x ≤ y)).toArray
   refine ⟨rfl, ⟨fun k hk => ?_, (l0.mergeSort fun x y => decide (x ≤ y)).map (Value.int .i64), ?_, srt_ints _⟩, hB.grown hgr hB.size (fun k hk => ?_), ⟨hgr.size, fun k hk hn => hgr.block k hk (fun he => hn ?_)⟩⟩
   · have : g = k := by simpa [Value.ownBlock] using hk
     exact .inl (this ▸ hP)
   · rw [hml]
     exact ownsRow_sortedI hml hbg hg hnc hcm hcs
   · injection hk with hk
     omega
   · injection he with he
     exact he ▸ hP

mutual
def impl_behind.l0 : Nat → Int → Int → List Int → List (S76) → Int → Int → Option (List Int)
 | 0, _, _, _, _, _, _ => none
 | k + 1, x1, x2, x7, x14, x15, x16 => if x16 < x15 then (if 0 ≤ x16 then (if x16 < (x14.length : Int) then (if ((rd_T76 x14 x16).f0) = x2 then (impl_behind.j1 k x1 x2 x7 x14 x15 x16 (((rd_T76 x14 x16).f1) == x1) ((rd_T76 x14 x16).f0) ((rd_T76 x14 x16).f1)) else (impl_behind.j1 k x1 x2 x7 x14 x15 x16 false ((rd_T76 x14 x16).f0) ((rd_T76 x14 x16).f1))) else (none)) else (none)) else ((slices_Sort_int_int.f x7).bind fun t392 => (some t392))
def impl_behind.j1 : Nat → Int → Int → List Int → List (S76) → Int → Int → Bool → Int → Int → Option (List Int)
 | 0, _, _, _, _, _, _, _, _, _ => none
 | k + 1, x1, x2, x7, x14, x15, x16, x29, x395000, x395001 => if x29 = true then (impl_behind.l0 k x1 x2 x7 x14 x15 (wrap64 (x16 + 1))) else ((slices_Contains_int_int.f k x7 x395000).bind fun t395 => (if t395 = true then (if x7.length < 17592186044416 then (impl_behind.l0 k x1 x2 (x7 ++ [x395001]) x14 x15 (wrap64 (x16 + 1))) else (none)) else (impl_behind.l0 k x1 x2 x7 x14 x15 (wrap64 (x16 + 1)))))
end
def impl_behind.f (k : Nat) (l0 : List Int) (a1 : Int) (a2 : Int) : Option (List Int) := (impl_spread.f k l0 a2).bind fun t389 => (impl_behind.l0 k a1 a2 (([a2] : List Int)) t389 (t389.length : Int) 0)
theorem impl_behind.mono_l : ∀ k, (∀ y0 y1 y2 y3 y4 y5, LeO (impl_behind.l0 k y0 y1 y2 y3 y4 y5) (impl_behind.l0 (k + 1) y0 y1 y2 y3 y4 y5)) ∧ (∀ y0 y1 y2 y3 y4 y5 y6 y7 y8, LeO (impl_behind.j1 k y0 y1 y2 y3 y4 y5 y6 y7 y8) (impl_behind.j1 (k + 1) y0 y1 y2 y3 y4 y5 y6 y7 y8))
 | 0 => ⟨fun _ _ _ _ _ _ r h => by simp [impl_behind.l0] at h, fun _ _ _ _ _ _ _ _ _ r h => by simp [impl_behind.j1] at h⟩
 | k + 1 => by
  obtain ⟨ih0, ih1⟩ := impl_behind.mono_l k
  refine ⟨?_, ?_⟩
  ·intro y0 y1 y2 y3 y4 y5
   unfold impl_behind.l0
   repeat' first
   | (with_reducible exact ih0 _ _ _ _ _ _)
   | (with_reducible exact ih1 _ _ _ _ _ _ _ _ _)
   | (with_reducible exact impl_spread.mono _ _ _)
   | (with_reducible exact slices_Contains_int_int.mono _ _ _)
   | (with_reducible exact LeO.refl _)
   | (with_reducible exact LeO.none _)
   | (with_reducible refine LeO.ite ?_ ?_)
   | (with_reducible refine LeO.bind ?_ (fun _ => ?_))
  ·intro y0 y1 y2 y3 y4 y5 y6 y7 y8
   unfold impl_behind.j1
   repeat' first
   | (with_reducible exact ih0 _ _ _ _ _ _)
   | (with_reducible exact ih1 _ _ _ _ _ _ _ _ _)
   | (with_reducible exact impl_spread.mono _ _ _)
   | (with_reducible exact slices_Contains_int_int.mono _ _ _)
   | (with_reducible exact LeO.refl _)
   | (with_reducible exact LeO.none _)
   | (with_reducible refine LeO.ite ?_ ?_)
   | (with_reducible refine LeO.bind ?_ (fun _ => ?_))
theorem impl_behind.mono : ∀ a0 a1 a2 k, LeO (impl_behind.f k a0 a1 a2) (impl_behind.f (k + 1) a0 a1 a2) := by
 intro a0 a1 a2 k
 obtain ⟨ih0, ih1⟩ := impl_behind.mono_l k
 unfold impl_behind.f
 repeat' first
   | (with_reducible exact ih0 _ _ _ _ _ _)
   | (with_reducible exact ih1 _ _ _ _ _ _ _ _ _)
   | (with_reducible exact impl_spread.mono _ _ _)
   | (with_reducible exact slices_Contains_int_int.mono _ _ _)
   | (with_reducible exact LeO.refl _)
   | (with_reducible exact LeO.none _)
   | (with_reducible refine LeO.ite ?_ ?_)
   | (with_reducible refine LeO.bind ?_ (fun _ => ?_))
set_option maxHeartbeats 8000000 in
set_option maxRecDepth 100000 in
theorem impl_behind.calls (k : Nat) (A0 : Option Addr) (c0 : Nat) (l0 : List Int) (a1 : Int) (a2 : Int) (r : List Int) (w : World) (hr0 : Kd.C (Kd.int .i64) w A0 l0.length l0) (hc0 : l0.length ≤ c0) (h : impl_behind.f k l0 a1 a2 = some r) :
  Calls Try.prog 99 #[.slice A0 l0.length c0, .int .i64 a1, .int .i64 a2] w fun e w' => ∃ v0_ : Value, e = .returned (v0_) ∧ Kd.R (Kd.int .i64) 3 w' w.heap.size (fun _ => True) v0_ r ∧ Below w.heap.size w w' := by
 have hu76 := Try.underlying76
 have HR0 := Aside0.mk hr0
 have HC0 := Aside0.mk hc0
 clear hr0 hc0
 have HB := Aside0.mk (Below.refl w.heap.size w)
 have H : ((impl_spread.f k l0 a2).bind fun t389 => (impl_behind.l0 k a1 a2 (([a2] : List Int)) t389 (t389.length : Int) 0)) = some r := h
 clear h
 obtain ⟨y386, hy386⟩ : ∃ y_ : List Int, y_ = (([a2] : List Int)) := ⟨_, rfl⟩
 replace H : ((impl_spread.f k l0 a2).bind fun t389 => (impl_behind.l0 k a1 a2 y386 t389 (t389.length : Int) 0)) = some r := by first | (rw [hy386]; with_reducible exact H) | (have H2_ := (Option.bind_some _ _).symm.trans H; rw [hy386]; with_reducible exact H2_) | (have H2_ := (Option.bind_some _ _).symm.trans H; with_reducible exact H2_) | with_reducible exact H | (rw [hy386]; exact H) | exact H
 have Ny386 := Aside0.mk hy386
 clear hy386
 replace H := Option.bind_eq_some_iff.mp H
 obtain ⟨t389, A40, H⟩ := H
 replace H : (impl_behind.l0 k a1 a2 y386 t389 (t389.length : Int) 0) = some r := H
 have A4 := Aside0.mk A40
 clear A40
 have H' := Aside0.mk H
 clear H
 go_enter Try.func99, Try.ntmps99
 go_wp2_with (first | ((with_reducible refine gate_dst (N := 11) rfl ?_); refine Kd.R_lit (Kd.int .i64) _ 3 ?hg (N := 11) ?hd (xs := ([a2] : List Int)) (inner := [.int .i64 a2]) (ok := fun _ => True) (okp := fun _ => True) ?hr ?hp (fun _ hk => hk) trivial (Below.refl _ _) (Nat.le_refl _) (by simp) ?_; (case hd => rfl); (case hg => rfl); (case hr => first | (go_simp; done) | (go_simp; rfl)); (case hp => exact (Reps.one (show Kd.M (Kd.int .i64) _ _ _ a2 [.int .i64 a2] from rfl) (Reps.none _ _))); intro v387 w5 ho6 hb hg_ hnew_; clear hg_ hnew_; (first | rw [← Ny386.out] at ho6 | (simp only [Int.reduceToNat] at ho6; rw [← Ny386.out] at ho6)); have HO388 := Aside0.mk (Kd.R_lower ho6 (below_size (hB HB))); replace HB := bst_ HB hb; clear hb ho6) | ((with_reducible refine gate_callee (f := 103) rfl ?_); refine goesL_ (some 14) rfl rfl Try.func103 (by kernel_rfl) rfl #[.slice A0 l0.length c0, .int .i64 a2] rfl tm_ ?_; (with_reducible refine (impl_spread.calls k _ _ l0 a2 t389 _ ?side1 ?side2 A4.out).mono ?_); (case side1 => exact ca (Kd.C_below HR0.out HB.out)); (case side2 => exact HC0.out); rintro e w7 ⟨v390, rfl, ho0, hb⟩; refine ⟨_, rfl, ?_⟩; have HO391 := Aside0.mk (Kd.R_lower ho0 (below_size (hB HB))); replace HO388 := rb_ HO388 hb; replace HB := bst_ HB hb; clear hb ho0; obtain ⟨Ao8, co8, eo8⟩ := Kd.R_slice HO391.out; subst eo8))
 go_loopg [7, 16] k (fun kq v7 v16 w' => ∃ (x7_1 : List Int) (x16_1 : Int), v16 = .int .i64 x16_1 ∧ Aside0 (impl_behind.l0 kq a1 a2 x7_1 t389 (t389.length : Int) x16_1 = some r) ∧ Aside0 (kq ≤ k) ∧ Aside0 (Kd.R (Kd.int .i64) 3 w' w.heap.size (fun _ => True) v7 x7_1) ∧ Aside0 (Kd.R k76 76 w' w.heap.size (fun _ => True) (.slice Ao8 t389.length co8) t389) ∧ Aside0 (Below w.heap.size w w'))
 case atStart => exact ⟨(y386), (0), (by first | rfl | (simp; done) | (simp [*]; done)), H', ⟨Nat.le_refl _⟩, ⟨ra HO388.out⟩, ⟨ra HO391.out⟩, ⟨hB HB⟩⟩
 case round =>
  clear H'
  obtain ⟨x7_1, x16_1, rfl, HA, HK1, HO_7, HO_14, HB⟩ := hrel
  cases gk with
  | zero => exact absurd HA.out (by simp [impl_behind.l0])
  | succ k1 =>
   have H := HA.out
   clear HA
   simp only [impl_behind.l0] at H
   by_cases c9 : x16_1 < (t389.length : Int)
   rotate_left
   ·rw [if_neg c9] at H
    have c9b0 : decide (x16_1 < (t389.length : Int)) = false := decide_eq_false c9
    clear c9
    replace H := Option.bind_eq_some_iff.mp H
    obtain ⟨t392, A270, H⟩ := H
    replace H : (some t392) = some r := H
    have A27 := Aside0.mk A270
    clear A270
    obtain rfl := Option.some.inj H
    obtain ⟨Ao28, co28, eo28⟩ := Kd.R_slice HO_7.out
    subst eo28
    go_wp2_with (first | ((with_reducible refine gate_callee (f := 136) rfl ?_); refine goesL_ (some 41) rfl rfl Try.func136 (by kernel_rfl) rfl #[.slice Ao28 x7_1.length co28] rfl tm_ ?_; (with_reducible refine (slices_Sort_int_int.calls (fun k_ => some k_ = (.slice Ao28 x7_1.length co28 : Value).ownBlock) (.slice Ao28 x7_1.length co28) x7_1 t392 w _ ?side1 ?side2 A27.out).mono ?_); (case side1 => repeat (first | (with_reducible first | exact HB.out | apply below_alloc | apply pw_below_drewN | apply below_drew1) | exact HB.out)); (case side2 => exact Kd.R_tight rfl HO_7.out); rintro e w29 ⟨rfl, hy0, hb, hkp⟩; refine ⟨_, rfl, ?_⟩; replace HO_14 := Aside0.mk (Kd.R_mono (ok' := fun k_ => True) (Kd.R_keptB ((Kd.R_apart' HO_14.out (Kd.R_typed HO_7.out) (by decide))) hkp (fun k_ hk_ hs_ => (hk_.2) hs_)) (fun k_ hk_ => trivial)); replace HO_7 := Aside0.mk (Kd.R_reok rfl hy0 (fun k_ e_ => HO_7.out.1 k_ e_)); replace HB := Aside0.mk (hb); clear hb))
    go_ret
    exact ⟨_, by first | rfl | (simp [errW_none, errW_some] <;> rfl) | (simp [*, errW_none, errW_some] <;> rfl), by (with_reducible repeat (first | apply Kd.R_alloc | apply Kd.R_drewN | apply Kd.R_drew)); exact HO_7.out, by repeat (first | (with_reducible first | exact HB.out | apply below_alloc | apply pw_below_drewN | apply below_drew1) | exact HB.out)⟩
   rw [if_pos c9] at H
   have c9b0 : decide (x16_1 < (t389.length : Int)) = true := decide_eq_true c9
   clear c9
   by_cases c10 : 0 ≤ x16_1
   rotate_left
   ·rw [if_neg c10] at H
    exact absurd H (by simp)
   rw [if_pos c10] at H
   have c10b0 : decide (0 ≤ x16_1) = true := decide_eq_true c10
   clear c10
   by_cases c11 : x16_1 < (t389.length : Int)
   rotate_left
   ·rw [if_neg c11] at H
    exact absurd H (by simp)
   rw [if_pos c11] at H
   have c11b0 : decide (x16_1 < (t389.length : Int)) = true := decide_eq_true c11
   clear c11
   have HC12 := Aside0.mk H
   clear H
   have p393 : 0 ≤ (x16_1 : Int) := of_decide_eq_true (by first | (with_reducible assumption) | assumption)
   have q393 : x16_1 < (t389.length : Int) := of_decide_eq_true (by first | (with_reducible assumption) | assumption)
   obtain ⟨ad393, e393, hx393_0, hx393_1⟩ := at_T76 (Kd.R_reads' HO_14.out).2.2 x16_1 p393 q393
   cases e393
   replace p393 := eq_true p393
   replace q393 := eq_true q393
   go_upto_region 5 with (first | ((with_reducible refine gate_dst (N := 9) rfl ?_); refine box_event ?hg (N := 9) ?hd (cs := #[.int .i64 0, .int .i64 0]) (t := 76) ?hr ?_; (case hd => rfl); (case hg => rfl); (case hr => first | (go_simp; done) | (go_simp; rfl)); intro gb394 hg w13 hbox hb; have BK394 := Aside0.mk (hbox); have GW394 := gw_ hg HB; have GE394 := gw_ hg HB; replace HO_7 := rb_ HO_7 hb; replace HO_14 := Aside0.mk (Kd.R_below (Kd.R_elderB (ra HO_14.out) gb394 (Nat.le_of_eq hg.symm)) hb); replace HB := bst_ HB hb; clear hb hbox hg; have hcz14_0 : w13.cell? ⟨gb394, 0, none⟩ = some (.int .i64 0) := bc_ BK394 0; have hcz14_1 : w13.cell? ⟨gb394, 1, none⟩ = some (.int .i64 0) := bc_ BK394 1; have hfz14_0 := blk_frozen BK394.out 0; have hfz14_1 := blk_frozen BK394.out 1))
   (try simp only [Act.put, List.setIfInBounds_toArray, List.set_cons_zero, List.set_cons_succ])
   go_cut [29] (fun v29 wc => ∃ (kq : Nat) (x29_11 : Bool), v29 = .bool x29_11 ∧ Aside0 (impl_behind.j1 kq a1 a2 x7_1 t389 (t389.length : Int) x16_1 x29_11 ((rd_T76 t389 x16_1).f0) ((rd_T76 t389 x16_1).f1) = some r) ∧ Aside0 (kq ≤ k1) ∧ Aside0 (Kd.R (Kd.int .i64) 3 wc w.heap.size (fun _ => True) u7 x7_1) ∧ Aside0 (Kd.R k76 76 wc w.heap.size (fun k_ => k_ ≠ gb394) (.slice (some ad393) t389.length co8) t389) ∧ Aside0 (wc.heap[gb394]? = some (.cells #[.int .i64 ((rd_T76 t389 x16_1).f0), .int .i64 ((rd_T76 t389 x16_1).f1)] 76 (0, 0))) ∧ Aside0 (Below w.heap.size w wc))
   case first =>
    have H := HC12.out
    clear HC12
    by_cases c15 : ((rd_T76 t389 x16_1).f0) = a2
    rotate_left
    ·rw [if_neg c15] at H
     have c15b0 : (((rd_T76 t389 x16_1).f0) == a2) = false := beq_eq_false_iff_ne.mpr c15
     have c15b1 : (((rd_T76 t389 x16_1).f0) != a2) = true := bne_iff_ne.mpr c15
     (first | rw [c15b0] | (simp only [i64_w, i32_w]; rw [c15b0]) | skip)
     have H' := Aside0.mk H
     clear H
     have hcz17_0 : w13.cell? ⟨gb394, 0, none⟩ = some (.int .i64 0) := bc_ BK394 0
     have hcz17_1 : w13.cell? ⟨gb394, 1, none⟩ = some (.int .i64 0) := bc_ BK394 1
     have hfz17_0 := blk_frozen BK394.out 0
     have hfz17_1 := blk_frozen BK394.out 1
     go_wp2
     go_meet
     case rel => exact ⟨_, (false), (by first | rfl | (simp; done) | (simp [*]; done)), H', ⟨by have := HK1.out; first | omega | exact Nat.le_refl _⟩, ⟨by (with_reducible repeat (first | apply Kd.R_alloc | apply Kd.R_drewN | apply Kd.R_drew)); exact Kd.R_mono (Kd.R_far (p := ⟨gb394, 1, none⟩) (Kd.R_far (p := ⟨gb394, 0, none⟩) (Kd.R_types HO_7.out BK394.out (by decide)) (fun _ hk => hk.2) (.int .i64 ((rd_T76 t389 x16_1).f0))) (fun _ hk => hk.2) (.int .i64 ((rd_T76 t389 x16_1).f1))) (fun _ hk => trivial)⟩, ⟨by (with_reducible repeat (first | apply Kd.R_alloc | apply Kd.R_drewN | apply Kd.R_drew)); exact Kd.R_mono (Kd.R_far (p := ⟨gb394, 1, none⟩) (Kd.R_far (p := ⟨gb394, 0, none⟩) (Kd.R_mono HO_14.out (fun k_ hk => (⟨hk, hk.2⟩ : _ ∧ k_ ≠ gb394))) (fun _ hk => hk.2) (.int .i64 ((rd_T76 t389 x16_1).f0))) (fun _ hk => hk.2) (.int .i64 ((rd_T76 t389 x16_1).f1))) (fun _ hk => hk.1.2)⟩, ⟨by (with_reducible repeat (first | refine blk_drewN ?_ _ | refine blk_drew ?_ | refine blk_alloc ?_ _)); refine blk_put (cs := #[.int .i64 ((rd_T76 t389 x16_1).f0), .int .i64 0]) ?_ 1 _ rfl; (with_reducible repeat (first | refine blk_drewN ?_ _ | refine blk_drew ?_ | refine blk_alloc ?_ _)); refine blk_put (cs := #[.int .i64 0, .int .i64 0]) ?_ 0 _ rfl; (with_reducible repeat (first | refine blk_drewN ?_ _ | refine blk_drew ?_ | refine blk_alloc ?_ _)); exact BK394.out⟩, ⟨hB HB⟩⟩
    rw [if_pos c15] at H
    have c15b0 : (((rd_T76 t389 x16_1).f0) == a2) = true := beq_iff_eq.mpr c15
    have c15b1 : (((rd_T76 t389 x16_1).f0) != a2) = false := bne_eq_false_iff_eq.mpr c15
    clear c15
    (first | rw [c15b0] | (simp only [i64_w, i32_w]; rw [c15b0]) | skip)
    have H' := Aside0.mk H
    clear H
    have hcz16_0 : w13.cell? ⟨gb394, 0, none⟩ = some (.int .i64 0) := bc_ BK394 0
    have hcz16_1 : w13.cell? ⟨gb394, 1, none⟩ = some (.int .i64 0) := bc_ BK394 1
    have hfz16_0 := blk_frozen BK394.out 0
    have hfz16_1 := blk_frozen BK394.out 1
    go_wp2
    go_meet
    case rel => exact ⟨_, ((((rd_T76 t389 x16_1).f1) == a1)), (by first | rfl | (simp; done) | (simp [*]; done)), H', ⟨by have := HK1.out; first | omega | exact Nat.le_refl _⟩, ⟨by (with_reducible repeat (first | apply Kd.R_alloc | apply Kd.R_drewN | apply Kd.R_drew)); exact Kd.R_mono (Kd.R_far (p := ⟨gb394, 1, none⟩) (Kd.R_far (p := ⟨gb394, 0, none⟩) (Kd.R_types HO_7.out BK394.out (by decide)) (fun _ hk => hk.2) (.int .i64 ((rd_T76 t389 x16_1).f0))) (fun _ hk => hk.2) (.int .i64 ((rd_T76 t389 x16_1).f1))) (fun _ hk => trivial)⟩, ⟨by (with_reducible repeat (first | apply Kd.R_alloc | apply Kd.R_drewN | apply Kd.R_drew)); exact Kd.R_mono (Kd.R_far (p := ⟨gb394, 1, none⟩) (Kd.R_far (p := ⟨gb394, 0, none⟩) (Kd.R_mono HO_14.out (fun k_ hk => (⟨hk, hk.2⟩ : _ ∧ k_ ≠ gb394))) (fun _ hk => hk.2) (.int .i64 ((rd_T76 t389 x16_1).f0))) (fun _ hk => hk.2) (.int .i64 ((rd_T76 t389 x16_1).f1))) (fun _ hk => hk.1.2)⟩, ⟨by (with_reducible repeat (first | refine blk_drewN ?_ _ | refine blk_drew ?_ | refine blk_alloc ?_ _)); refine blk_put (cs := #[.int .i64 ((rd_T76 t389 x16_1).f0), .int .i64 0]) ?_ 1 _ rfl; (with_reducible repeat (first | refine blk_drewN ?_ _ | refine blk_drew ?_ | refine blk_alloc ?_ _)); refine blk_put (cs := #[.int .i64 0, .int .i64 0]) ?_ 0 _ rfl; (with_reducible repeat (first | refine blk_drewN ?_ _ | refine blk_drew ?_ | refine blk_alloc ?_ _)); exact BK394.out⟩, ⟨hB HB⟩⟩
   case rest =>
    clear HC12
    try clear c9
    try clear c9b0
    try clear c10
    try clear c10b0
    try clear c11
    try clear c11b0
    try clear hcz14_0
    try clear hcz14_1
    try clear hfz14_0
    try clear hfz14_1
    try clear hx393_0
    try clear hx393_1
    try clear p393
    try clear q393
    obtain ⟨kq, x29_11, rfl, HA, HJ11, HO_7, HO_14, BK394, HB⟩ := hcut
    cases kq with
    | zero => exact absurd HA.out (by simp [impl_behind.j1])
    | succ kj11 =>
     have H := HA.out
     clear HA
     simp only [impl_behind.j1] at H
     by_cases c18 : x29_11 = true
     ·subst c18
      rw [if_pos rfl] at H
      have H' := Aside0.mk H
      clear H
      go_wp2
      go_roundg kj11
      case measure => have := HK1.out; have := HJ11.out; omega
      case rel => exact ⟨(x7_1), (wrap64 (x16_1 + 1)), (by first | rfl | (simp; done) | (simp [*]; done)), H', ⟨by have := HK1.out; have := HJ11.out; omega⟩, ⟨ra HO_7.out⟩, rm_ HO_14 (fun _ hk => trivial), ⟨hB HB⟩⟩
     replace c18 := Bool.eq_false_iff.mpr c18
     subst c18
     rw [if_neg (show ¬ (false = true) by decide)] at H
     replace H := Option.bind_eq_some_iff.mp H
     obtain ⟨t395, A190, H⟩ := H
     replace H : (if t395 = true then (if x7_1.length < 17592186044416 then (impl_behind.l0 kj11 a1 a2 (x7_1 ++ [((rd_T76 t389 x16_1).f1)]) t389 (t389.length : Int) (wrap64 (x16_1 + 1))) else (none)) else (impl_behind.l0 kj11 a1 a2 x7_1 t389 (t389.length : Int) (wrap64 (x16_1 + 1)))) = some r := H
     have A19 := Aside0.mk A190
     clear A190
     by_cases c20 : t395 = true
     rotate_left
     ·replace c20 := Bool.eq_false_iff.mpr c20
      subst c20
      rw [if_neg (show ¬ (false = true) by decide)] at H
      have H' := Aside0.mk H
      clear H
      have hcz25_0 : wc.cell? ⟨gb394, 0, none⟩ = some (.int .i64 ((rd_T76 t389 x16_1).f0)) := bc_ BK394 0
      have hcz25_1 : wc.cell? ⟨gb394, 1, none⟩ = some (.int .i64 ((rd_T76 t389 x16_1).f1)) := bc_ BK394 1
      have hfz25_0 := blk_frozen BK394.out 0
      have hfz25_1 := blk_frozen BK394.out 1
      obtain ⟨Ao26, co26, eo26⟩ := Kd.R_slice HO_7.out
      subst eo26
      go_wp2_with (first | ((with_reducible refine gate_callee (f := 97) rfl ?_); refine goesL_ (some 33) rfl rfl Try.func97 (by kernel_rfl) rfl #[.slice Ao26 x7_1.length co26, .int .i64 ((rd_T76 t389 x16_1).f0)] rfl tm_ ?_; (with_reducible refine (slices_Contains_int_int.calls kj11 _ _ x7_1 ((rd_T76 t389 x16_1).f0) false _ ?side1 ?side2 A19.out).mono ?_); (case side1 => exact ca (Kd.R_reads' HO_7.out).2.2); (case side2 => exact (Kd.R_reads' HO_7.out).2.1); rintro e w' ⟨rfl, ⟨nd, rfl⟩⟩; refine ⟨_, rfl, ?_⟩))
      go_roundg kj11
      case measure => have := HK1.out; have := HJ11.out; omega
      case rel => exact ⟨(x7_1), (wrap64 (x16_1 + 1)), (by first | rfl | (simp; done) | (simp [*]; done)), H', ⟨by have := HK1.out; have := HJ11.out; omega⟩, ⟨ra HO_7.out⟩, rm_ HO_14 (fun _ hk => trivial), ⟨hB HB⟩⟩
     subst c20
     rw [if_pos rfl] at H
     by_cases c21 : x7_1.length < 17592186044416
     rotate_left
     ·rw [if_neg c21] at H
      exact absurd H (by simp)
     rw [if_pos c21] at H
     have LMc21 := Aside0.mk c21
     clear c21
     obtain ⟨y396, hy396⟩ : ∃ y_ : List Int, y_ = (x7_1 ++ [((rd_T76 t389 x16_1).f1)]) := ⟨_, rfl⟩
     replace H : (impl_behind.l0 kj11 a1 a2 y396 t389 (t389.length : Int) (wrap64 (x16_1 + 1))) = some r := by first | (rw [hy396]; with_reducible exact H) | (have H2_ := (Option.bind_some _ _).symm.trans H; rw [hy396]; with_reducible exact H2_) | (have H2_ := (Option.bind_some _ _).symm.trans H; with_reducible exact H2_) | with_reducible exact H | (rw [hy396]; exact H) | exact H
     have Ny396 := Aside0.mk hy396
     clear hy396
     have H' := Aside0.mk H
     clear H
     have hcz22_0 : wc.cell? ⟨gb394, 0, none⟩ = some (.int .i64 ((rd_T76 t389 x16_1).f0)) := bc_ BK394 0
     have hcz22_1 : wc.cell? ⟨gb394, 1, none⟩ = some (.int .i64 ((rd_T76 t389 x16_1).f1)) := bc_ BK394 1
     have hfz22_0 := blk_frozen BK394.out 0
     have hfz22_1 := blk_frozen BK394.out 1
     obtain ⟨Ao23, co23, eo23⟩ := Kd.R_slice HO_7.out
     subst eo23
     go_wp2_with (first | ((with_reducible refine gate_callee (f := 97) rfl ?_); refine goesL_ (some 33) rfl rfl Try.func97 (by kernel_rfl) rfl #[.slice Ao23 x7_1.length co23, .int .i64 ((rd_T76 t389 x16_1).f0)] rfl tm_ ?_; (with_reducible refine (slices_Contains_int_int.calls kj11 _ _ x7_1 ((rd_T76 t389 x16_1).f0) true _ ?side1 ?side2 A19.out).mono ?_); (case side1 => exact ca (Kd.R_reads' HO_7.out).2.2); (case side2 => exact (Kd.R_reads' HO_7.out).2.1); rintro e w' ⟨rfl, ⟨nd, rfl⟩⟩; refine ⟨_, rfl, ?_⟩) | ((with_reducible refine gate_builtin (b := .append) (xs := #[.tmp 34, .tmp 37]) rfl ?_); at_builtin; refine Kd.R_append (Kd.int .i64) (w0 := w) w.heap.size rfl (.tmp 34) (.tmp 37) 22 3 (.int .i64 0) 8 rfl Try.underlying22 info3 rfl (by decide) (by omega) (.slice Ao23 x7_1.length co23) x7_1 ((rd_T76 t389 x16_1).f1) [.int .i64 ((rd_T76 t389 x16_1).f1)] (fun _ => True) (fun _ => False) rfl rfl ?aP (fun _ hk => hk.elim) ?aF ?aO ?aB ?aS ?aL ?_; (case aP => exact rfl); (case aB => exact (hB HB)); (case aF => exact (fun _ _ => trivial)); (case aO => exact (ra HO_7.out)); (case aS => exact (below_size (hB HB))); (case aL => have := LMc21.out; omega); intro v397 w24 ho hb hg hat; rw [← Ny396.out] at ho; have HO398 := Aside0.mk (ho); replace HO_14 := Aside0.mk (Kd.R_over' (ra HO_14.out) (Kd.R_typed (ra HO_7.out)) (by decide) hg); replace BK394 := Aside0.mk (blk_grown (g := gb394) (o := .cells #[.int .i64 ((rd_T76 t389 x16_1).f0), .int .i64 ((rd_T76 t389 x16_1).f1)] 76 (0, 0)) (ba BK394.out) hg (Kd.R_ne HO_7.out BK394.out (by decide))); replace HB := Aside0.mk (hb); clear HO_7; clear ho hb hg hat))
     go_roundg kj11
     case measure => have := HK1.out; have := HJ11.out; omega
     case rel => exact ⟨(y396), (wrap64 (x16_1 + 1)), (by first | rfl | (simp; done) | (simp [*]; done)), H', ⟨by have := HK1.out; have := HJ11.out; omega⟩, ⟨ra HO398.out⟩, rm_ HO_14 (fun _ hk => trivial), ⟨hB HB⟩⟩

-- NOT PRINTED: function 145 (slices_IndexFunc_int_int)

end Go.Proofs.Ytfkjnpgpofcinaa.P
