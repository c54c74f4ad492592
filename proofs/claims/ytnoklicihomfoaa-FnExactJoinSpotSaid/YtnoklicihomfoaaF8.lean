import Derived.Shelf.Spec.SlicesInsert
import Derived.Shelf.Spec.SlicesInsertGrow
import Derived.Shelf.RegionOpenPlain
import Derived.Deep.RegionLaw
import Derived.Lib.SliceRun
import Derived.Sort.WalkB12
import Derived.Test.YtnoklicihomfoaaF0
import Derived.Test.YtnoklicihomfoaaF7
namespace Go.Proofs.Ytnoklicihomfoaa.P
open Go.RowKit Go.Proofs.YtnoklicihomfoaaW.PrintWords Go.Proofs.YtnoklicihomfoaaW.PrintLast Go.Proofs.YtnoklicihomfoaaW.PrintMore
attribute [local go_sem] max2_int min2_int max_two min_two max_three min_three max_four min_four   -- for this text's walks alone
set_option linter.unusedVariables false
set_option linter.unusedSimpArgs false

def cmp_Less_int.f (a0 : Int) (a1 : Int) : Option (Bool) := (cmp_isNaN_int.f a0).bind fun t259 => (if t259 = true then ((cmp_isNaN_int.f a1).bind fun t260 => (if t260 = true then (some (decide (a0 < a1))) else (some true))) else (some (decide (a0 < a1))))
set_option maxHeartbeats 8000000 in
set_option maxRecDepth 100000 in
theorem cmp_Less_int.calls (a0 : Int) (a1 : Int) (r : Bool) (w : World) (h : cmp_Less_int.f a0 a1 = some r) :
  Calls Try.prog 140 #[.int .i64 a0, .int .i64 a1] w fun e w' => e = .returned (.bool r) ∧ Drawn0 w w' := by
 have H : ((cmp_isNaN_int.f a0).bind fun t259 => (if t259 = true then ((cmp_isNaN_int.f a1).bind fun t260 => (if t260 = true then (some (decide (a0 < a1))) else (some true))) else (some (decide (a0 < a1))))) = some r := h
 clear h
 replace H := Option.bind_eq_some_iff.mp H
 obtain ⟨t259, A30, H⟩ := H
 replace H : (if t259 = true then ((cmp_isNaN_int.f a1).bind fun t260 => (if t260 = true then (some (decide (a0 < a1))) else (some true))) else (some (decide (a0 < a1)))) = some r := H
 have A3 := Aside0.mk A30
 clear A30
 by_cases c4 : t259 = true
 rotate_left
 ·replace c4 := Bool.eq_false_iff.mpr c4
  subst c4
  rw [if_neg (show ¬ (false = true) by decide)] at H
  obtain rfl := Option.some.inj H
  go_enter Try.func140, Try.ntmps140
  go_wp2_with (first | ((with_reducible refine gate_callee (f := 145) rfl ?_); refine goesL_ (some 6) rfl rfl Try.func145 (by kernel_rfl) rfl #[.int .i64 a0] rfl tm_ ?_; (with_reducible refine (cmp_isNaN_int.calls a0 false _ A3.out).mono ?_); rintro e w' ⟨rfl, ⟨nd, rfl⟩⟩; refine ⟨_, rfl, ?_⟩))
  go_ret
  exact ⟨by first | rfl | (simp; done) | (simp [*]; done), by repeat (first | exact Drawn0.refl _ | apply Drawn0.step)⟩
 subst c4
 rw [if_pos rfl] at H
 replace H := Option.bind_eq_some_iff.mp H
 obtain ⟨t260, A50, H⟩ := H
 replace H : (if t260 = true then (some (decide (a0 < a1))) else (some true)) = some r := H
 have A5 := Aside0.mk A50
 clear A50
 by_cases c6 : t260 = true
 ·subst c6
  rw [if_pos rfl] at H
  obtain rfl := Option.some.inj H
  go_enter Try.func140, Try.ntmps140
  go_wp2_with (first | ((with_reducible refine gate_callee (f := 145) rfl ?_); refine goesL_ (some 6) rfl rfl Try.func145 (by kernel_rfl) rfl #[.int .i64 a0] rfl tm_ ?_; (with_reducible refine (cmp_isNaN_int.calls a0 true _ A3.out).mono ?_); rintro e w' ⟨rfl, ⟨nd, rfl⟩⟩; refine ⟨_, rfl, ?_⟩) | (go_at_call 145; (with_reducible refine (cmp_isNaN_int.calls a1 true _ A5.out).mono ?_); rintro e w' ⟨rfl, ⟨nd, rfl⟩⟩))
  go_ret
  exact ⟨by first | rfl | (simp; done) | (simp [*]; done), by repeat (first | exact Drawn0.refl _ | apply Drawn0.step)⟩
 replace c6 := Bool.eq_false_iff.mpr c6
 subst c6
 rw [if_neg (show ¬ (false = true) by decide)] at H
 obtain rfl := Option.some.inj H
 go_enter Try.func140, Try.ntmps140
 go_wp2_with (first | ((with_reducible refine gate_callee (f := 145) rfl ?_); refine goesL_ (some 6) rfl rfl Try.func145 (by kernel_rfl) rfl #[.int .i64 a0] rfl tm_ ?_; (with_reducible refine (cmp_isNaN_int.calls a0 true _ A3.out).mono ?_); rintro e w' ⟨rfl, ⟨nd, rfl⟩⟩; refine ⟨_, rfl, ?_⟩) | (go_at_call 145; (with_reducible refine (cmp_isNaN_int.calls a1 false _ A5.out).mono ?_); rintro e w' ⟨rfl, ⟨nd, rfl⟩⟩))
 go_ret
 exact ⟨by first | rfl | (simp; done) | (simp [*]; done), by repeat (first | exact Drawn0.refl _ | apply Drawn0.step)⟩

def slices_isNaN_int.f (a0 : Int) : Option (Bool) := some (a0 != a0)
set_option maxHeartbeats 8000000 in
set_option maxRecDepth 100000 in
theorem slices_isNaN_int.calls (a0 : Int) (r : Bool) (w : World) (h : slices_isNaN_int.f a0 = some r) :
  Calls Try.prog 141 #[.int .i64 a0] w fun e w' => e = .returned (.bool r) ∧ Drawn0 w w' := by
 have H : (some (a0 != a0)) = some r := h
 clear h
 obtain rfl := Option.some.inj H
 go_enter Try.func141, Try.ntmps141
 go_wp2
 go_ret
 exact ⟨by first | rfl | (simp; done) | (simp [*]; done), by repeat (first | exact Drawn0.refl _ | apply Drawn0.step)⟩

def slices_BinarySearch_int_int.l0 : Nat → List Int → Int → Int → Int → Int → Option (Int × Bool)
 | 0, _, _, _, _, _ => none
 | k + 1, x0, x1, x6, x7, x8 => if x7 < x8 then (if 0 ≤ (wrap64 ((IntKind.u64.wrap (wrap64 (x7 + x8))) / 2)) then (if (wrap64 ((IntKind.u64.wrap (wrap64 (x7 + x8))) / 2)) < (x0.length : Int) then ((cmp_Less_int.f (rd x0 (wrap64 ((IntKind.u64.wrap (wrap64 (x7 + x8))) / 2))) x1).bind fun t262 => (if t262 = true then (slices_BinarySearch_int_int.l0 k x0 x1 x6 (wrap64 ((wrap64 ((IntKind.u64.wrap (wrap64 (x7 + x8))) / 2)) + 1)) x8) else (slices_BinarySearch_int_int.l0 k x0 x1 x6 x7 (wrap64 ((IntKind.u64.wrap (wrap64 (x7 + x8))) / 2))))) else (none)) else (none)) else (if x7 < x6 then (if 0 ≤ x7 then (if x7 < (x0.length : Int) then (if (rd x0 x7) = x1 then (some (x7, true)) else ((slices_isNaN_int.f (rd x0 x7)).bind fun t265 => (if t265 = true then ((slices_isNaN_int.f x1).bind fun t266 => (some (x7, t266))) else (some (x7, false))))) else (none)) else (none)) else (some (x7, false)))
def slices_BinarySearch_int_int.f (k : Nat) (l0 : List Int) (a1 : Int) : Option (Int × Bool) := slices_BinarySearch_int_int.l0 k l0 a1 (l0.length : Int) 0 (l0.length : Int)
theorem slices_BinarySearch_int_int.mono_l : ∀ k, (∀ y0 y1 y2 y3 y4, LeO (slices_BinarySearch_int_int.l0 k y0 y1 y2 y3 y4) (slices_BinarySearch_int_int.l0 (k + 1) y0 y1 y2 y3 y4))
 | 0 => fun _ _ _ _ _ r h => by simp [slices_BinarySearch_int_int.l0] at h
 | k + 1 => by
  have ih0 := slices_BinarySearch_int_int.mono_l k
  ·intro y0 y1 y2 y3 y4
   unfold slices_BinarySearch_int_int.l0
   repeat' first
   | (with_reducible exact ih0 _ _ _ _ _)
   | (with_reducible exact LeO.refl _)
   | (with_reducible exact LeO.none _)
   | (with_reducible refine LeO.ite ?_ ?_)
   | (with_reducible refine LeO.bind ?_ (fun _ => ?_))
theorem slices_BinarySearch_int_int.mono : ∀ a0 a1 k, LeO (slices_BinarySearch_int_int.f k a0 a1) (slices_BinarySearch_int_int.f (k + 1) a0 a1) := by
 intro a0 a1 k
 have ih0 := slices_BinarySearch_int_int.mono_l k
 unfold slices_BinarySearch_int_int.f
 repeat' first
   | (with_reducible exact ih0 _ _ _ _ _)
   | (with_reducible exact LeO.refl _)
   | (with_reducible exact LeO.none _)
   | (with_reducible refine LeO.ite ?_ ?_)
   | (with_reducible refine LeO.bind ?_ (fun _ => ?_))
set_option maxHeartbeats 8000000 in
set_option maxRecDepth 100000 in
theorem slices_BinarySearch_int_int.calls (k : Nat) (A0 : Option Addr) (c0 : Nat) (l0 : List Int) (a1 : Int) (r1 : Int) (r2 : Bool) (w : World) (hr0 : Kd.C (Kd.int .i64) w A0 l0.length l0) (hc0 : l0.length ≤ c0) (h : slices_BinarySearch_int_int.f k l0 a1 = some (r1, r2)) :
  Calls Try.prog 129 #[.slice A0 l0.length c0, .int .i64 a1] w fun e w' => e = .returned (.tuple #[.int .i64 r1, .bool r2]) ∧ Drawn0 w w' := by
 have HR0 := Aside0.mk hr0
 have HC0 := Aside0.mk hc0
 clear hr0 hc0
 have H : (slices_BinarySearch_int_int.l0 k l0 a1 (l0.length : Int) 0 (l0.length : Int)) = some (r1, r2) := h
 clear h
 have H' := Aside0.mk H
 clear H
 go_enter Try.func129, Try.ntmps129
 go_wp2
 go_loopg [7, 8] k (fun kq v7 v8 w' => ∃ (x7_1 : Int) (x8_1 : Int), v7 = .int .i64 x7_1 ∧ v8 = .int .i64 x8_1 ∧ Aside0 (slices_BinarySearch_int_int.l0 kq l0 a1 (l0.length : Int) x7_1 x8_1 = some (r1, r2)) ∧ Aside0 (kq ≤ k) ∧ Drawn0 w w')
 case atStart => exact ⟨(0), ((l0.length : Int)), (by first | rfl | (simp; done) | (simp [*]; done)), (by first | rfl | (simp; done) | (simp [*]; done)), H', ⟨Nat.le_refl _⟩, by repeat (first | exact Drawn0.refl _ | apply Drawn0.step)⟩
 case round =>
  clear H'
  obtain ⟨x7_1, x8_1, rfl, rfl, HA, HK1, ⟨m1, rfl⟩⟩ := hrel
  cases gk with
  | zero => exact absurd HA.out (by simp [slices_BinarySearch_int_int.l0])
  | succ k1 =>
   have H := HA.out
   clear HA
   simp only [slices_BinarySearch_int_int.l0] at H
   by_cases c3 : x7_1 < x8_1
   ·rw [if_pos c3] at H
    have c3b0 : decide (x7_1 < x8_1) = true := decide_eq_true c3
    clear c3
    obtain ⟨ji4, hji4⟩ : ∃ j_ : Int, (wrap64 ((IntKind.u64.wrap (wrap64 (x7_1 + x8_1))) / 2)) = j_ := ⟨_, rfl⟩
    replace H : (if 0 ≤ (ji4) then (if (ji4) < (l0.length : Int) then ((cmp_Less_int.f (rd l0 (ji4)) a1).bind fun t262 => (if t262 = true then (slices_BinarySearch_int_int.l0 k1 l0 a1 (l0.length : Int) (wrap64 ((ji4) + 1)) x8_1) else (slices_BinarySearch_int_int.l0 k1 l0 a1 (l0.length : Int) x7_1 ji4))) else (none)) else (none)) = some (r1, r2) := by first | (rw [hji4] at H; exact H) | (simp only [hji4] at H ⊢; exact H)
    have hji4w : (IntKind.i64.wrap ((IntKind.u64.wrap (wrap64 (x7_1 + x8_1))) / 2)) = ji4 := (i64_w _).trans hji4
    by_cases c5 : 0 ≤ (ji4)
    rotate_left
    ·rw [if_neg c5] at H
     exact absurd H (by simp)
    rw [if_pos c5] at H
    have c5b0 : decide (0 ≤ (ji4)) = true := decide_eq_true c5
    clear c5
    by_cases c6 : (ji4) < (l0.length : Int)
    rotate_left
    ·rw [if_neg c6] at H
     exact absurd H (by simp)
    rw [if_pos c6] at H
    have c6b0 : decide ((ji4) < (l0.length : Int)) = true := decide_eq_true c6
    clear c6
    replace H := Option.bind_eq_some_iff.mp H
    obtain ⟨t262, A70, H⟩ := H
    replace H : (if t262 = true then (slices_BinarySearch_int_int.l0 k1 l0 a1 (l0.length : Int) (wrap64 ((ji4) + 1)) x8_1) else (slices_BinarySearch_int_int.l0 k1 l0 a1 (l0.length : Int) x7_1 ji4)) = some (r1, r2) := H
    have A7 := Aside0.mk A70
    clear A70
    by_cases c8 : t262 = true
    ·subst c8
     rw [if_pos rfl] at H
     have H' := Aside0.mk H
     clear H
     have p261 : 0 ≤ ((ji4) : Int) := of_decide_eq_true (by first | (with_reducible assumption) | assumption)
     have q261 : (ji4) < (l0.length : Int) := of_decide_eq_true (by first | (with_reducible assumption) | assumption)
     obtain ⟨ad261, e261, hx261_0⟩ := Kd.at_int HR0.out (ji4) p261 q261
     cases e261
     replace p261 := eq_true p261
     replace q261 := eq_true q261
     go_wp2_with (first | ((with_reducible refine gate_callee (f := 140) rfl ?_); refine goesL_ (some 27) rfl rfl Try.func140 (by kernel_rfl) rfl #[.int .i64 (rd l0 (ji4)), .int .i64 a1] rfl (by (try simp only [List.map_toArray, List.map_cons, List.map_nil]); first | done | (simp only [hji4]; rfl) | rfl | (simp only [List.length_drop, List.length_take]; rfl)) ?_; (with_reducible refine (cmp_Less_int.calls (rd l0 (ji4)) a1 true _ A7.out).mono ?_); rintro e w' ⟨rfl, ⟨nd, rfl⟩⟩; refine ⟨_, rfl, ?_⟩))
     go_roundg k1
     case measure => have := HK1.out; omega
     case rel => exact ⟨(wrap64 ((ji4) + 1)), (x8_1), (by first | rfl | (simp; done) | (simp only [← hji4] <;> (first | rfl | simp)) | (simp [*]; done)), (by first | rfl | (simp; done) | (simp [*]; done)), H', ⟨by have := HK1.out; omega⟩, by repeat (first | exact Drawn0.refl _ | apply Drawn0.step)⟩
    replace c8 := Bool.eq_false_iff.mpr c8
    subst c8
    rw [if_neg (show ¬ (false = true) by decide)] at H
    have H' := Aside0.mk H
    clear H
    have p261 : 0 ≤ ((ji4) : Int) := of_decide_eq_true (by first | (with_reducible assumption) | assumption)
    have q261 : (ji4) < (l0.length : Int) := of_decide_eq_true (by first | (with_reducible assumption) | assumption)
    obtain ⟨ad261, e261, hx261_0⟩ := Kd.at_int HR0.out (ji4) p261 q261
    cases e261
    replace p261 := eq_true p261
    replace q261 := eq_true q261
    go_wp2_with (first | ((with_reducible refine gate_callee (f := 140) rfl ?_); refine goesL_ (some 27) rfl rfl Try.func140 (by kernel_rfl) rfl #[.int .i64 (rd l0 (ji4)), .int .i64 a1] rfl (by (try simp only [List.map_toArray, List.map_cons, List.map_nil]); first | done | (simp only [hji4]; rfl) | rfl | (simp only [List.length_drop, List.length_take]; rfl)) ?_; (with_reducible refine (cmp_Less_int.calls (rd l0 (ji4)) a1 false _ A7.out).mono ?_); rintro e w' ⟨rfl, ⟨nd, rfl⟩⟩; refine ⟨_, rfl, ?_⟩))
    go_roundg k1
    case measure => have := HK1.out; omega
    case rel => exact ⟨(x7_1), (ji4), (by first | rfl | (simp; done) | (simp [*]; done)), (by first | rfl | (simp; done) | (simp only [← hji4] <;> (first | rfl | simp)) | (simp [*]; done)), H', ⟨by have := HK1.out; omega⟩, by repeat (first | exact Drawn0.refl _ | apply Drawn0.step)⟩
   rw [if_neg c3] at H
   have c3b0 : decide (x7_1 < x8_1) = false := decide_eq_false c3
   clear c3
   by_cases c9 : x7_1 < (l0.length : Int)
   rotate_left
   ·rw [if_neg c9] at H
    have c9b0 : decide (x7_1 < (l0.length : Int)) = false := decide_eq_false c9
    clear c9
    simp only [Option.some.injEq, Prod.mk.injEq] at H
    obtain ⟨rfl, rfl⟩ := H
    go_wp2
    go_ret2
    exact ⟨by first | rfl | (simp; done) | (simp [*]; done), by repeat (first | exact Drawn0.refl _ | apply Drawn0.step)⟩
   rw [if_pos c9] at H
   have c9b0 : decide (x7_1 < (l0.length : Int)) = true := decide_eq_true c9
   clear c9
   by_cases c10 : 0 ≤ x7_1
   rotate_left
   ·rw [if_neg c10] at H
    exact absurd H (by simp)
   rw [if_pos c10] at H
   have c10b0 : decide (0 ≤ x7_1) = true := decide_eq_true c10
   clear c10
   by_cases c11 : x7_1 < (l0.length : Int)
   rotate_left
   ·rw [if_neg c11] at H
    exact absurd H (by simp)
   rw [if_pos c11] at H
   have c11b0 : decide (x7_1 < (l0.length : Int)) = true := decide_eq_true c11
   clear c11
   by_cases c12 : (rd l0 x7_1) = a1
   ·rw [if_pos c12] at H
    have c12b0 : ((rd l0 x7_1) == a1) = true := beq_iff_eq.mpr c12
    have c12b1 : ((rd l0 x7_1) != a1) = false := bne_eq_false_iff_eq.mpr c12
    clear c12
    simp only [Option.some.injEq, Prod.mk.injEq] at H
    obtain ⟨rfl, rfl⟩ := H
    have p263 : 0 ≤ (x7_1 : Int) := of_decide_eq_true (by first | (with_reducible assumption) | assumption)
    have q263 : x7_1 < (l0.length : Int) := of_decide_eq_true (by first | (with_reducible assumption) | assumption)
    obtain ⟨ad263, e263, hx263_0⟩ := Kd.at_int HR0.out x7_1 p263 q263
    cases e263
    replace p263 := eq_true p263
    replace q263 := eq_true q263
    go_wp2
    go_ret2
    exact ⟨by first | rfl | (simp; done) | (simp [*]; done), by repeat (first | exact Drawn0.refl _ | apply Drawn0.step)⟩
   rw [if_neg c12] at H
   have c12b0 : ((rd l0 x7_1) == a1) = false := beq_eq_false_iff_ne.mpr c12
   have c12b1 : ((rd l0 x7_1) != a1) = true := bne_iff_ne.mpr c12
   replace H := Option.bind_eq_some_iff.mp H
   obtain ⟨t265, A130, H⟩ := H
   replace H : (if t265 = true then ((slices_isNaN_int.f a1).bind fun t266 => (some (x7_1, t266))) else (some (x7_1, false))) = some (r1, r2) := H
   have A13 := Aside0.mk A130
   clear A130
   by_cases c14 : t265 = true
   rotate_left
   ·replace c14 := Bool.eq_false_iff.mpr c14
    subst c14
    rw [if_neg (show ¬ (false = true) by decide)] at H
    simp only [Option.some.injEq, Prod.mk.injEq] at H
    obtain ⟨rfl, rfl⟩ := H
    have p263 : 0 ≤ (x7_1 : Int) := of_decide_eq_true (by first | (with_reducible assumption) | assumption)
    have q263 : x7_1 < (l0.length : Int) := of_decide_eq_true (by first | (with_reducible assumption) | assumption)
    obtain ⟨ad263, e263, hx263_0⟩ := Kd.at_int HR0.out x7_1 p263 q263
    cases e263
    replace p263 := eq_true p263
    replace q263 := eq_true q263
    have p264 : 0 ≤ (x7_1 : Int) := of_decide_eq_true (by first | (with_reducible assumption) | assumption)
    have q264 : x7_1 < (l0.length : Int) := of_decide_eq_true (by first | (with_reducible assumption) | assumption)
    obtain ⟨ad264, e264, hx264_0⟩ := Kd.at_int HR0.out x7_1 p264 q264
    obtain rfl : ad263 = ad264 := (by injection e264)
    replace p264 := eq_true p264
    replace q264 := eq_true q264
    go_wp2_with (first | (go_at_call 141; (with_reducible refine (slices_isNaN_int.calls (rd l0 x7_1) false _ A13.out).mono ?_); rintro e w' ⟨rfl, ⟨nd, rfl⟩⟩))
    go_ret2
    exact ⟨by first | rfl | (simp; done) | (simp [*]; done), by repeat (first | exact Drawn0.refl _ | apply Drawn0.step)⟩
   subst c14
   rw [if_pos rfl] at H
   replace H := Option.bind_eq_some_iff.mp H
   obtain ⟨t266, A150, H⟩ := H
   replace H : (some (x7_1, t266)) = some (r1, r2) := H
   have A15 := Aside0.mk A150
   clear A150
   simp only [Option.some.injEq, Prod.mk.injEq] at H
   obtain ⟨rfl, rfl⟩ := H
   have p263 : 0 ≤ (x7_1 : Int) := of_decide_eq_true (by first | (with_reducible assumption) | assumption)
   have q263 : x7_1 < (l0.length : Int) := of_decide_eq_true (by first | (with_reducible assumption) | assumption)
   obtain ⟨ad263, e263, hx263_0⟩ := Kd.at_int HR0.out x7_1 p263 q263
   cases e263
   replace p263 := eq_true p263
   replace q263 := eq_true q263
   have p264 : 0 ≤ (x7_1 : Int) := of_decide_eq_true (by first | (with_reducible assumption) | assumption)
   have q264 : x7_1 < (l0.length : Int) := of_decide_eq_true (by first | (with_reducible assumption) | assumption)
   obtain ⟨ad264, e264, hx264_0⟩ := Kd.at_int HR0.out x7_1 p264 q264
   obtain rfl : ad263 = ad264 := (by injection e264)
   replace p264 := eq_true p264
   replace q264 := eq_true q264
   go_wp2_with (first | (go_at_call 141; (with_reducible refine (slices_isNaN_int.calls (rd l0 x7_1) true _ A13.out).mono ?_); rintro e w' ⟨rfl, ⟨nd, rfl⟩⟩) | (go_at_call 141; (with_reducible refine (slices_isNaN_int.calls a1 t266 _ A15.out).mono ?_); rintro e w' ⟨rfl, ⟨nd, rfl⟩⟩))
   go_ret2
   exact ⟨by first | rfl | (simp; done) | (simp [*]; done), by repeat (first | exact Drawn0.refl _ | apply Drawn0.step)⟩

-- NOT PRINTED: function 142 (slices_overlaps_int)

def ins_ren : Go.Shelf.Ren := ⟨fun | 21 => 130 | 27 => 142 | 28 => 143 | 35 => 146 | 39 => 147 | n => n, fun | 0 => 0 | 3 => 3 | 4 => 4 | 22 => 23 | n => n, fun n => n⟩
theorem ins_lays : Lays2.n21 Try.prog ins_ren := {
  mixed := by kernel_rfl
  f21 := Try.func130.trans (congrArg some (by kernel_rfl))
  f27 := Try.func142.trans (congrArg some (by kernel_rfl))
  f28 := Try.func143.trans (congrArg some (by kernel_rfl))
  f35 := Try.func146.trans (congrArg some (by kernel_rfl))
  f39 := Try.func147.trans (congrArg some (by kernel_rfl))
  t0 := Try.underlying0
  a0 := Try.isAgg0
  z0 := Try.sizeOf0
  v0 := Try.zeroValue0
  t3 := Try.underlying3
  a3 := Try.isAgg3
  z3 := Try.sizeOf3
  v3 := Try.zeroValue3
  t4 := Try.underlying4
  a4 := Try.isAgg4
  z4 := Try.sizeOf4
  v4 := Try.zeroValue4
  t22 := Try.underlying23
  a22 := Try.isAgg23
  z22 := Try.sizeOf23
  v22 := Try.zeroValue23
  i3 := by kernel_rfl }
theorem ins_ones (l : List Int) : ∀ v ∈ l.map (Value.int .i64), v.oneCell' = true := by
 intro v hv
 obtain ⟨x, _, rfl⟩ := List.mem_map.1 hv
 rfl
theorem ins_reps {w : World} {base : Nat} {ok : Nat → Prop} {xs : List Int} {inner : List Value} (h : Reps ((Kd.int .i64).M w base ok) 1 xs inner) : inner = xs.map (Value.int .i64) := by
 have hl : inner.length = xs.length := by have := h.1; omega
 apply List.ext_getElem (by simpa using hl)
 intro j h1 h2
 have hj : j < xs.length := by omega
 have h3 : (inner.drop (j * 1)).take 1 = [Value.int .i64 xs[j]] := h.2 j xs[j] (List.getElem?_eq_getElem hj)
 have h4 := congrArg (fun l => l[0]?) h3
 simp only [Nat.mul_one, List.getElem?_take, List.getElem?_drop, Nat.zero_lt_one, if_true, Nat.add_zero, List.getElem?_cons_zero] at h4
 rw [List.getElem?_eq_getElem h1] at h4
 simpa using h4
theorem ins_row {w' : World} {base g cap : Nat} {ok : Nat → Prop} {xs : List Int} {c' : Array Value} (hb : base ≤ g) (hok : ok g) (hg : w'.heap[g]? = some (.cells c' 3 (0, 0))) (hn : xs.length ≤ cap) (hm : cap ≤ maxLen) (hs : c'.size = cap) (ht : c'.toList.take xs.length = xs.map (Value.int .i64)) : Kd.R (Kd.int .i64) 3 w' base ok (.slice (some ⟨g, 0, none⟩) xs.length cap) xs := by
 refine ⟨fun k hk => ?_, xs.map (Value.int .i64), ⟨by rw [List.length_map]; exact (Nat.mul_one _).symm, .inr ⟨g, cap, c', rfl, hb, hg, hn, hm, by rw [hs]; exact (Nat.mul_one _).symm, by rw [show (Kd.int .i64).sz = 1 from rfl, Nat.mul_one]; exact ht⟩⟩, ⟨by rw [List.length_map]; exact (Nat.mul_one _).symm, fun j p hj => ?_⟩⟩
 · have : g = k := by simpa [Value.ownBlock] using hk
   exact this ▸ hok
 · show ((xs.map (Value.int .i64)).drop (j * 1)).take 1 = [Value.int .i64 p]
   have hj2 := (List.getElem?_eq_some_iff.1 hj)
   obtain ⟨hlt, rfl⟩ := hj2
   rw [Nat.mul_one, List.drop_eq_getElem_cons (by simpa using hlt)]
   simp
theorem ins_unfr {w : World} {base : Nat} {ok : Nat → Prop} {A : Option Addr} {n c : Nat} {xs : List Int} (h : Kd.R (Kd.int .i64) 3 w base ok (.slice A n c) xs) : ∀ a, A = some a → ∀ t, w.frozen? ⟨a.block, t, none⟩ = false := by
 intro a ha t
 subst ha
 obtain ⟨_, inner, ⟨_, hc⟩, _⟩ := h
 rcases hc with ⟨hv, _⟩ | ⟨g, cap, cur, hv, _, hg, _⟩
 · cases hv
 · injection hv with e1 _ _
   injection e1 with e1
   subst e1
   exact frozen_of_row w g t cur 3 hg
def slices_Insert_int_int.f (l0 : List Int) (a1 : Int) (l2 : List Int) : Option (List Int) := if 0 ≤ a1 then (if a1 ≤ (l0.length : Int) then (if (l2.length : Int) = 0 then (some l0) else ((some (l0.take (a1 : Int).toNat : List Int)).bind fun y279 => ((some (([] : List Int) : List Int)).bind fun y283 => (if y283.length + y279.length < 17592186044416 then ((some (y283 ++ y279 : List Int)).bind fun y286 => (if y286.length + l2.length < 17592186044416 then ((some (y286 ++ l2 : List Int)).bind fun y289 => ((some (l0.drop (a1 : Int).toNat : List Int)).bind fun y292 => (if y289.length + y292.length < 17592186044416 then (some (y289 ++ y292)) else (none)))) else (none))) else (none))))) else (none)) else (none)
set_option maxHeartbeats 8000000 in
set_option maxRecDepth 100000 in
theorem slices_Insert_int_int.calls (P0_ : Nat → Prop) (u9000_ : Value) (l0 : List Int) (a1 : Int) (A2 : Option Addr) (c2 : Nat) (l2 : List Int) (r : List Int) (w0 w : World) (hB : Below w0.heap.size w0 w) (ho0 : Kd.R (Kd.int .i64) 3 w w0.heap.size P0_ u9000_ l0) (hr2 : ∀ W_, Kept w W_ (fun k_ => P0_ k_) → Kd.C (Kd.int .i64) W_ A2 l2.length l2) (hc2 : l2.length ≤ c2) (hz2 : ∀ a, A2 = some a → ∀ t, w.frozen? ⟨a.block, t, none⟩ = false) (h : slices_Insert_int_int.f l0 a1 l2 = some r) :
  Calls Try.prog 130 #[u9000_, .int .i64 a1, .slice A2 l2.length c2] w fun e w' => ∃ v0_ : Value, e = .returned (v0_) ∧ Kd.R (Kd.int .i64) 3 w' w0.heap.size (fun k_ => (P0_ k_ ∨ w.heap.size ≤ k_)) v0_ r ∧ Below w0.heap.size w0 w' ∧ Kept w w' (fun k_ => P0_ k_) := by
 have hf : 0 ≤ a1 ∧ a1 ≤ (l0.length : Int) ∧ r = l0.take a1.toNat ++ l2 ++ l0.drop a1.toNat ∧ (l2 ≠ [] → l0.length + l2.length < 17592186044416) := by
  unfold slices_Insert_int_int.f at h
  by_cases g1 : 0 ≤ a1
  · by_cases g2 : a1 ≤ (l0.length : Int)
    · rw [if_pos g1, if_pos g2] at h
      by_cases g3 : (l2.length : Int) = 0
      · rw [if_pos g3] at h
        have : l2 = [] := List.length_eq_zero_iff.1 (by omega)
        subst this
        exact ⟨g1, g2, by simpa using (Option.some.inj h).symm, fun hn => absurd rfl hn⟩
      · rw [if_neg g3] at h
        simp only [Option.bind_some, List.nil_append, List.length_nil, Nat.zero_add] at h
        split at h
        · split at h
          · split at h
            · rename_i e1 e2 e3
              refine ⟨g1, g2, (Option.some.inj h).symm, fun _ => ?_⟩
              simp only [List.length_append, List.length_take, List.length_drop] at e3
              omega
            · cases h
          · cases h
        · cases h
    · rw [if_pos g1, if_neg g2] at h; cases h
  · rw [if_neg g1] at h; cases h
 obtain ⟨f1, f2, rfl, f4⟩ := hf
 clear h
 obtain ⟨i, rfl⟩ : ∃ i : Nat, a1 = (i : Int) := ⟨a1.toNat, by omega⟩
 rw [Int.toNat_natCast]
 have hi : i ≤ l0.length := by omega
 clear f1 f2
 by_cases h2 : l2 = []
 · subst h2
   have hR := ho0
   obtain ⟨A, n, c, rfl, rfl, hnc⟩ : ∃ A n c, u9000_ = .slice A n c ∧ n = l0.length ∧ n ≤ c := by
    obtain ⟨A, c, e1, e2, _⟩ := Kd.R_reads ho0
    exact ⟨A, _, c, e1, rfl, e2⟩
   have h0 : Calls Try.prog 130 #[.slice A l0.length c, .int .i64 i, .slice A2 0 c2] w fun e w' => e = .returned (.slice A l0.length c) ∧ w' = w := by
    have hic : i ≤ c := by omega
    clear hR ho0 hr2 hz2 f4 hB hc2
    go_enter Try.func130, Try.ntmps130
    go_wp2
    all_goals (go_ret; exact ⟨rfl, rfl⟩)
   refine h0.mono ?_
   rintro e w' ⟨rfl, rfl⟩
   refine ⟨_, rfl, ?_, hB, Kept.refl _ _⟩
   have e0 : l0.take i ++ [] ++ l0.drop i = l0 := by simp
   rw [e0]
   exact Kd.R_mono hR (fun _ hk => Or.inl hk)
 · have hm : 0 < l2.length := List.length_pos_iff.2 h2
   have hbig := f4 h2
   clear f4
   obtain ⟨va, rfl, hvc⟩ := (hr2 w (Kept.refl _ _)).2.2 hm
   have hvs0 : ∀ j v, (l2.map (Value.int .i64))[j]? = some v → w.cell? (va.add j) = some v := by
    intro j v hj
    rw [List.getElem?_map] at hj
    obtain ⟨x, hx, rfl⟩ := Option.map_eq_some_iff.1 hj
    obtain ⟨c, hcl, hK, hcc⟩ := hvc j x hx
    have hK' : c = [Value.int .i64 x] := hK
    subst hK'
    have := hcc 0 _ rfl
    rwa [show (j * (Kd.int .i64).sz + 0) = j from by show j * 1 + 0 = j; omega] at this
   obtain ⟨vb, voff, vsp⟩ := va
   have h00 := hvs0 0 (.int .i64 l2[0]) (by rw [List.getElem?_map, List.getElem?_eq_getElem hm]; rfl)
   have hsp : vsp = none := by
    cases vsp with
    | none => rfl
    | some s =>
      simp only [Addr.add, if_true, World.cell?] at h00
      split at h00 <;> simp at h00
   subst hsp
   have hvs : ∀ j v, (l2.map (Value.int .i64))[j]? = some v → w.cell? ⟨vb, voff + j, none⟩ = some v := by
    intro j v hj
    have := hvs0 j v hj
    rwa [Addr.add_lit] at this
   have h01 : w.cell? ⟨vb, voff, none⟩ = some (.int .i64 l2[0]) := by simpa [Addr.add] using h00
   obtain ⟨tA, kA, hsa⟩ : ∃ tA kA, w.shape? vb = some (tA, kA) := by
    unfold World.cell? at h01
    unfold World.shape?
    split at h01
    · rename_i c e fz hh
      have hh' : w.heap[vb]? = some (.cells c e fz) := hh
      rw [hh']; exact ⟨_, _, rfl⟩
    · cases h01
   have hfa : w.frozen? ⟨vb, voff, none⟩ = false := hz2 _ rfl voff
   have hfe : w.frozen? ⟨vb, kA, none⟩ = false := hz2 _ rfl kA
   have hvl : (l2.map (Value.int .i64)).length = l2.length := List.length_map _
   have hcl : (l0.map (Value.int .i64)).length = l0.length := List.length_map _
   have hxl : (l0.take i ++ l2 ++ l0.drop i).length = l0.length + l2.length := by simp only [List.length_append, List.length_take, List.length_drop]; omega
   have hxm : (l0.take i ++ l2 ++ l0.drop i).map (Value.int .i64) = (l0.map (Value.int .i64)).take i ++ l2.map (Value.int .i64) ++ (l0.map (Value.int .i64)).drop i := by simp only [List.map_append, List.map_take, List.map_drop]
   have h1c := ins_ones l0
   have h1v := ins_ones l2
   obtain ⟨hok, inner, ⟨hil, hcase⟩, hr⟩ := ho0
   have hin := ins_reps hr
   subst hin
   have hlen63 : l0.length + l2.length ≤ maxLen := by unfold maxLen; omega
   have fin : ∀ (w' : World) (g cap : Nat) (c' : Array Value), w0.heap.size ≤ g → (P0_ g ∨ w.heap.size ≤ g) → w'.heap[g]? = some (.cells c' 3 (0, 0)) → l0.length + l2.length ≤ cap → cap ≤ maxLen → c'.size = cap → c'.toList.take (l0.length + l2.length) = (l0.map (Value.int .i64)).take i ++ l2.map (Value.int .i64) ++ (l0.map (Value.int .i64)).drop i → Kd.R (Kd.int .i64) 3 w' w0.heap.size (fun k_ => (P0_ k_ ∨ w.heap.size ≤ k_)) (.slice (some ⟨g, 0, none⟩) (l0.length + l2.length) cap) (l0.take i ++ l2 ++ l0.drop i) := by
    intro w' g cap c' a1 a2 a3 a4 a5 a6 a7
    have := ins_row (xs := l0.take i ++ l2 ++ l0.drop i) (ok := fun k_ => (P0_ k_ ∨ w.heap.size ≤ k_)) a1 a2 a3 (by rw [hxl]; exact a4) a5 a6 (by rw [hxl, hxm]; exact a7)
    rwa [hxl] at this
   have endgrow : ∀ (base : Option Addr) (c : Nat), l0.length ≤ c → c < l0.length + l2.length → (base = none → l0.length = 0) → (∀ a, base = some a → ∀ j v, (l0.map (Value.int .i64))[j]? = some v → w.cell? (a.add j) = some v) → i = l0.length →
      Calls Try.prog 130 #[.slice base l0.length c, .int .i64 i, .slice (some ⟨vb, voff, none⟩) l2.length c2] w fun e w' => ∃ v0_ : Value, e = .returned (v0_) ∧ Kd.R (Kd.int .i64) 3 w' w0.heap.size (fun k_ => (P0_ k_ ∨ w.heap.size ≤ k_)) v0_ (l0.take i ++ l2 ++ l0.drop i) ∧ Below w0.heap.size w0 w' ∧ Kept w w' (fun k_ => P0_ k_) := by
    intro base c b1 b2 b3 b4 b5
    subst b5
    refine (Any2.slices_Insert_int_end_grow ins_lays base l0.length c vb voff l2.length c2 (l0.map (Value.int .i64)) (l2.map (Value.int .i64)) w hm b1 b2 (by omega) hcl hvl b3 b4 hvs h1v).mono ?_
    rintro e w' ⟨rfl, rfl⟩
    refine ⟨_, rfl, ?_, ?_, ?_⟩
    · refine fin _ w.heap.size _ _ hB.size (.inr (Nat.le_refl _)) (heap_alloc_new _ _) (grownCap_ge _ _ _ _) (grownCap_le_maxLen _ _ _ _ hlen63) ?_ ?_
      · have := grownCap_ge w (l0.length + l2.length) c (ins_ren.t 3)
        simp [Builtin.zeroCells, Value.cells]
        omega
      · rw [List.take_of_length_le (l := l0.map _) (by simp), List.drop_of_length_le (l := l0.map _) (by simp), List.append_nil]
        simp only [Array.toList_append, List.toList_toArray]
        exact List.take_left' (by simp)
    · exact (below_drew1 hB).alloc (by exact hB.size) _
    · exact Kept.alloc (Kept.drew (Kept.refl _ _)) _
   rcases hcase with ⟨rfl, hn⟩ | ⟨g, cap, cur, rfl, hbg, hg, hnc, hcm, hcs, htk⟩
   · rw [hn] at hi
     have := endgrow none 0 (by omega) (by omega) (fun _ => hn) (fun _ he => by cases he) (by omega)
     rwa [hn] at this
   · have hP : P0_ g := hok g rfl
     have hne : vb ≠ g := by
      intro he
      subst he
      have hk : Kept w (w.setCell ⟨vb, voff, none⟩ (.bool true)) (fun k_ => P0_ k_) := ⟨by simp [World.setCell], fun k _ hn => Below.heap_setCell w ⟨vb, voff, none⟩ _ k (fun e => hn (e ▸ hP))⟩
      obtain ⟨a', ha', hc'⟩ := (hr2 _ hk).2.2 hm
      injection ha' with ha'
      subst ha'
      obtain ⟨c, _, hK, hcc⟩ := hc' 0 _ (List.getElem?_eq_getElem hm)
      have hK' : c = [Value.int .i64 l2[0]] := hK
      subst hK'
      have k1 := hcc 0 _ rfl
      rw [show (0 * (Kd.int .i64).sz + 0) = 0 from rfl, show (⟨vb, voff, none⟩ : Addr).add 0 = ⟨vb, voff, none⟩ from rfl, World.cell?_setCell_same w ⟨vb, voff, none⟩ (.bool true) h01] at k1
      cases k1
     have hcs1 : cur.size = cap := hcs.trans (Nat.mul_one _)
     have htk1 : cur.toList.take l0.length = l0.map (Value.int .i64) := by rw [← htk, show (Kd.int .i64).sz = 1 from rfl, Nat.mul_one]
     have hcell : ∀ t, t < cap → (w.cell? ⟨g, t, none⟩).isSome = true ∧ w.frozen? ⟨g, t, none⟩ = false := by
      intro t ht
      refine ⟨?_, frozen_of_row w g t cur 3 hg⟩
      rw [cell_of_row w g t cur 3 (0, 0) hg, Array.getElem?_eq_getElem (by omega)]
      rfl
     have hcs0 : ∀ j v, (l0.map (Value.int .i64))[j]? = some v → w.cell? ⟨g, 0 + j, none⟩ = some v := by
      intro j v hj
      rw [Nat.zero_add, cell_of_row w g j cur 3 (0, 0) hg, ← Array.getElem?_toList]
      rw [← htk1, List.getElem?_take] at hj
      split at hj
      · exact hj
      · cases hj
     have hcurl : cur.toList.length = cap := by rw [Array.length_toList]; exact hcs1
     by_cases hroom : l0.length + l2.length ≤ cap
     · by_cases hlt : i < l0.length
       · refine (Any2.slices_Insert_int_shift ins_lays g 0 l0.length cap i vb voff l2.length c2 (l0.map (Value.int .i64)) (l2.map (Value.int .i64)) w hlt hm hroom (by unfold maxLen at hcm; omega) hne hcl hvl hcs0 (fun j hj => by rw [Nat.zero_add]; exact (hcell j (by omega)).1) (fun j hj => by rw [Nat.zero_add]; exact (hcell j (by omega)).2) hvs h1c h1v tA 3 kA cap hsa (by unfold World.shape?; rw [hg]; exact congrArg (fun n => some (3, n)) hcs1) (by omega) hfa hfe).mono ?_
         rintro e w' ⟨rfl, rfl⟩
         simp only [Nat.zero_add]
         have hdl : ((l0.map (Value.int .i64)).drop i).length = l0.length - i := by rw [List.length_drop, hcl]
         obtain ⟨c1, q1, s1, l1⟩ := setCells_row (e := 3) ((l0.map (Value.int .i64)).drop i) (i + l2.length) w.drew cur hg (by rw [hdl]; omega)
         obtain ⟨c3, q3, s3, l3⟩ := setCells_row (e := 3) (l2.map (Value.int .i64)) i _ c1 q1 (by rw [hvl, s1]; omega)
         obtain ⟨a1, a2, a3, a4⟩ := setCells_same g ((l0.map (Value.int .i64)).drop i) (i + l2.length) w.drew
         obtain ⟨b1, b2, b3, b4⟩ := setCells_same g (l2.map (Value.int .i64)) i (w.drew.setCells g (i + l2.length) ((l0.map (Value.int .i64)).drop i))
         have far : ∀ k, k ≠ g → ((w.drew.setCells g (i + l2.length) ((l0.map (Value.int .i64)).drop i)).setCells g i (l2.map (Value.int .i64))).heap[k]? = w.heap[k]? := fun k hk => by rw [setCells_far _ _ k hk, setCells_far _ _ k hk]; rfl
         refine ⟨_, rfl, fin _ g cap c3 hbg (.inl hP) q3 hroom hcm (by rw [s3, s1]; exact hcs1) ?_, ⟨b1.trans (a1.trans hB.os), b2.trans (a2.trans hB.tape), b3.trans (a3.trans hB.output), by rw [b4, a4]; exact hB.size, fun k hk => (far k (by omega)).trans (hB.block k hk)⟩, ⟨by rw [b4, a4]; exact Nat.le_refl _, fun k _ hn => far k (fun he => hn (he ▸ hP))⟩⟩
         have hc1l : c1.toList.length = cap := by rw [Array.length_toList, s1]; exact hcs1
         rw [l3, hvl, l1, hdl]
         have e1 : (cur.toList.take (i + l2.length) ++ (l0.map (Value.int .i64)).drop i ++ cur.toList.drop (i + l2.length + (l0.length - i))).take i = (l0.map (Value.int .i64)).take i := by
          rw [List.append_assoc, List.take_append_of_le_length (by rw [List.length_take, hcurl]; omega), List.take_take, Nat.min_eq_left (by omega), ← htk1, List.take_take, Nat.min_eq_left hi]
         have e2 : (cur.toList.take (i + l2.length) ++ (l0.map (Value.int .i64)).drop i ++ cur.toList.drop (i + l2.length + (l0.length - i))).drop (i + l2.length) = (l0.map (Value.int .i64)).drop i ++ cur.toList.drop (i + l2.length + (l0.length - i)) := by
          rw [List.append_assoc, List.drop_left' (by rw [List.length_take, hcurl]; omega)]
         rw [e1, e2]
         simp only [← List.append_assoc]
         exact List.take_left' (by simp only [List.length_append, List.length_take, List.length_drop, List.length_map]; omega)
       · have hie : i = l0.length := by omega
         subst hie
         refine (Any2.slices_Insert_int_end_room ins_lays g 0 l0.length cap vb voff l2.length c2 (l2.map (Value.int .i64)) w hm hroom (by unfold maxLen at hcm; omega) hvl (fun j hj => by rw [Nat.zero_add]; exact (hcell _ (by omega)).1) (fun j hj => by rw [Nat.zero_add]; exact (hcell _ (by omega)).2) hvs h1v).mono ?_
         rintro e w' ⟨rfl, rfl⟩
         simp only [Nat.zero_add]
         obtain ⟨c1, q1, s1, l1⟩ := setCells_row (e := 3) (l2.map (Value.int .i64)) l0.length w cur hg (by rw [hvl]; omega)
         obtain ⟨a1, a2, a3, a4⟩ := setCells_same g (l2.map (Value.int .i64)) l0.length w
         have far : ∀ k, k ≠ g → (w.setCells g l0.length (l2.map (Value.int .i64))).heap[k]? = w.heap[k]? := fun k hk => setCells_far _ _ k hk
         refine ⟨_, rfl, fin _ g cap c1 hbg (.inl hP) q1 hroom hcm (by rw [s1]; exact hcs1) ?_, ⟨a1.trans hB.os, a2.trans hB.tape, a3.trans hB.output, by rw [a4]; exact hB.size, fun k hk => (far k (by omega)).trans (hB.block k hk)⟩, ⟨by rw [a4]; exact Nat.le_refl _, fun k _ hn => far k (fun he => hn (he ▸ hP))⟩⟩
         rw [l1, hvl, List.take_of_length_le (l := l0.map _) (by simp), List.drop_of_length_le (l := l0.map _) (by simp), List.append_nil, htk1]
         exact List.take_left' (by simp)
     · by_cases hlt : i < l0.length
       · have hgl : g < w.heap.size := block_lt_of_cell (a := ⟨g, 0 + 0, none⟩) (hcs0 0 (.int .i64 l0[0]) (by rw [List.getElem?_map, List.getElem?_eq_getElem (by omega)]; rfl))
         refine (Any2.slices_Insert_int_grow ins_lays g 0 l0.length cap i vb voff l2.length c2 (l0.map (Value.int .i64)) (l2.map (Value.int .i64)) w hlt hm hnc (by omega) (by omega) hcl hvl hcs0 hvs h1c h1v).mono ?_
         rintro e w' ⟨rfl, rfl⟩
         have hge := grownCap_ge w (l0.length + l2.length) cap (ins_ren.t 3)
         have hle := grownCap_le_maxLen w (l0.length + l2.length) cap (ins_ren.t 3) hlen63
         generalize grownCap w (l0.length + l2.length) cap (ins_ren.t 3) = gc at hge hle ⊢
         obtain ⟨C0, hC0⟩ : ∃ C0, C0 = ((l0.map (Value.int .i64)).take i).toArray ++ Builtin.zeroCells (Value.int .i64 0).cells (l0.length + l2.length - i) ++ Builtin.zeroCells (Value.int .i64 0).cells (gc - (l0.length + l2.length)) := ⟨_, rfl⟩
         rw [← hC0]
         have hC0s : C0.size = gc := by
          rw [hC0]
          simp [Builtin.zeroCells, Value.cells]
          omega
         have hC0t : C0.toList.take i = (l0.map (Value.int .i64)).take i := by
          rw [hC0]
          simp only [Array.toList_append, List.toList_toArray, List.append_assoc]
          exact List.take_left' (by rw [List.length_take, hcl]; omega)
         have hdl : ((l0.map (Value.int .i64)).drop i).length = l0.length - i := by rw [List.length_drop, hcl]
         obtain ⟨c1, q1, s1, l1⟩ := setCells_row (e := 3) (l2.map (Value.int .i64)) i (w.alloc (.cells C0 3)).drew C0 (heap_alloc_new _ _) (by rw [hvl, hC0s]; omega)
         obtain ⟨c3, q3, s3, l3⟩ := setCells_row (e := 3) ((l0.map (Value.int .i64)).drop i) (i + l2.length) ((w.alloc (.cells C0 3)).drew.setCells w.heap.size i (l2.map (Value.int .i64))).drew c1 q1 (by rw [hdl, s1, hC0s]; omega)
         obtain ⟨a1, a2, a3, a4⟩ := setCells_same w.heap.size (l2.map (Value.int .i64)) i (w.alloc (.cells C0 3)).drew
         obtain ⟨b1, b2, b3, b4⟩ := setCells_same w.heap.size ((l0.map (Value.int .i64)).drop i) (i + l2.length) ((w.alloc (.cells C0 3)).drew.setCells w.heap.size i (l2.map (Value.int .i64))).drew
         have far : ∀ k, k < w.heap.size → (((w.alloc (.cells C0 3)).drew.setCells w.heap.size i (l2.map (Value.int .i64))).drew.setCells w.heap.size (i + l2.length) ((l0.map (Value.int .i64)).drop i)).heap[k]? = w.heap[k]? := fun k hk => by
          rw [setCells_far _ _ k (by omega)]
          show ((w.alloc (.cells C0 3)).drew.setCells w.heap.size i (l2.map (Value.int .i64))).heap[k]? = _
          rw [setCells_far _ _ k (by omega)]
          exact Below.heap_alloc _ _ _ hk
         have hsz : (((w.alloc (.cells C0 3)).drew.setCells w.heap.size i (l2.map (Value.int .i64))).drew.setCells w.heap.size (i + l2.length) ((l0.map (Value.int .i64)).drop i)).heap.size = w.heap.size + 1 := by
          rw [b4]
          show ((w.alloc (.cells C0 3)).drew.setCells w.heap.size i (l2.map (Value.int .i64))).heap.size = _
          rw [a4]
          exact Array.size_push _
         refine ⟨_, rfl, fin _ w.heap.size gc c3 hB.size (.inr (Nat.le_refl _)) q3 hge hle (by rw [s3, s1]; exact hC0s) ?_, ⟨b1.trans (a1.trans hB.os), b2.trans (a2.trans hB.tape), b3.trans (a3.trans hB.output), ?_, fun k hk => (far k (Nat.lt_of_lt_of_le hk hB.size)).trans (hB.block k hk)⟩, ⟨?_, fun k hk _ => far k hk⟩⟩
         · rw [l3, hdl, l1, hvl]
           have e1 : (C0.toList.take i ++ l2.map (Value.int .i64) ++ C0.toList.drop (i + l2.length)).take (i + l2.length) = (l0.map (Value.int .i64)).take i ++ l2.map (Value.int .i64) := by
            rw [hC0t]
            exact List.take_left' (by simp only [List.length_append, List.length_take, List.length_map]; omega)
           rw [e1]
           exact List.take_left' (by simp only [List.length_append, List.length_take, List.length_drop, List.length_map]; omega)
         · exact Nat.le_trans hB.size (Nat.le_trans (Nat.le_succ _) (Nat.le_of_eq hsz.symm))
         · exact Nat.le_trans (Nat.le_succ _) (Nat.le_of_eq hsz.symm)
       · refine endgrow (some ⟨g, 0, none⟩) cap hnc (by omega) (fun he => by cases he) (fun a ha j v hj => ?_) (by omega)
         injection ha with ha
         subst ha
         rw [Addr.add_lit]
         exact hcs0 j v hj

def impl_joined.f (k : Nat) (l0 : List Int) (a1 : Int) : Option (List Int) := (slices_Clone_int_int.f l0).bind fun t299 => ((slices_BinarySearch_int_int.f k t299 a1).bind fun bt302 => (if bt302.2 = true then (some t299) else ((slices_Insert_int_int.f t299 bt302.1 (([a1] : List Int))).bind fun t307 => (some t307))))
theorem impl_joined.mono : ∀ a0 a1 k, LeO (impl_joined.f k a0 a1) (impl_joined.f (k + 1) a0 a1) := by
 intro a0 a1 k
 unfold impl_joined.f
 repeat' first
   | (with_reducible exact slices_BinarySearch_int_int.mono _ _ _)
   | (with_reducible exact LeO.refl _)
   | (with_reducible exact LeO.none _)
   | (with_reducible refine LeO.ite ?_ ?_)
   | (with_reducible refine LeO.bind ?_ (fun _ => ?_))
set_option maxHeartbeats 8000000 in
set_option maxRecDepth 100000 in
theorem impl_joined.calls (k : Nat) (A0 : Option Addr) (c0 : Nat) (l0 : List Int) (a1 : Int) (r : List Int) (w : World) (hr0 : Kd.C (Kd.int .i64) w A0 l0.length l0) (hc0 : l0.length ≤ c0) (h : impl_joined.f k l0 a1 = some r) :
  Calls Try.prog 91 #[.slice A0 l0.length c0, .int .i64 a1] w fun e w' => ∃ v0_ : Value, e = .returned (v0_) ∧ Kd.R (Kd.int .i64) 3 w' w.heap.size (fun _ => True) v0_ r ∧ Below w.heap.size w w' := by
 have HR0 := Aside0.mk hr0
 have HC0 := Aside0.mk hc0
 clear hr0 hc0
 have HB := Aside0.mk (Below.refl w.heap.size w)
 have H : ((slices_Clone_int_int.f l0).bind fun t299 => ((slices_BinarySearch_int_int.f k t299 a1).bind fun bt302 => (if bt302.2 = true then (some t299) else ((slices_Insert_int_int.f t299 bt302.1 (([a1] : List Int))).bind fun t307 => (some t307))))) = some r := h
 clear h
 replace H := Option.bind_eq_some_iff.mp H
 obtain ⟨t299, A30, H⟩ := H
 replace H : ((slices_BinarySearch_int_int.f k t299 a1).bind fun bt302 => (if bt302.2 = true then (some t299) else ((slices_Insert_int_int.f t299 bt302.1 (([a1] : List Int))).bind fun t307 => (some t307)))) = some r := H
 have A3 := Aside0.mk A30
 clear A30
 replace H := Option.bind_eq_some_iff.mp H
 obtain ⟨⟨t302, t303⟩, A40, H⟩ := H
 replace H : (if t303 = true then (some t299) else ((slices_Insert_int_int.f t299 t302 (([a1] : List Int))).bind fun t307 => (some t307))) = some r := H
 have A4 := Aside0.mk A40
 clear A40
 by_cases c5 : t303 = true
 ·subst c5
  rw [if_pos rfl] at H
  obtain rfl := Option.some.inj H
  go_enter Try.func91, Try.ntmps91
  go_wp2_with (first | ((with_reducible refine gate_callee (f := 128) rfl ?_); refine goesL_ (some 9) rfl rfl Try.func128 (by kernel_rfl) rfl #[.slice A0 l0.length c0] rfl tm_ ?_; (with_reducible refine (slices_Clone_int_int.calls _ _ l0 t299 _ ?side1 ?side2 A3.out).mono ?_); (case side1 => exact ca HR0.out); (case side2 => exact HC0.out); rintro e w6 ⟨v300, rfl, ho0, hb⟩; refine ⟨_, rfl, ?_⟩; have HO301 := Aside0.mk (Kd.R_lower ho0 (below_size (hB HB))); replace HB := bst_ HB hb; clear hb ho0; obtain ⟨Ao7, co7, eo7⟩ := Kd.R_slice HO301.out; subst eo7) | ((with_reducible refine gate_callee (f := 129) rfl ?_); refine goesL_ (some 13) rfl rfl Try.func129 (by kernel_rfl) rfl #[.slice Ao7 t299.length co7, .int .i64 a1] rfl tm_ ?_; (with_reducible refine (slices_BinarySearch_int_int.calls k _ _ t299 a1 t302 true _ ?side1 ?side2 A4.out).mono ?_); (case side1 => exact ca (Kd.R_reads' HO301.out).2.2); (case side2 => exact (Kd.R_reads' HO301.out).2.1); rintro e w' ⟨rfl, ⟨nd, rfl⟩⟩; refine ⟨_, rfl, ?_⟩))
  go_ret
  exact ⟨_, by first | rfl | (simp [errW_none, errW_some] <;> rfl) | (simp [*, errW_none, errW_some] <;> rfl), by (with_reducible repeat (first | apply Kd.R_alloc | apply Kd.R_drewN | apply Kd.R_drew)); exact HO301.out, by repeat (first | (with_reducible first | exact HB.out | apply below_alloc | apply pw_below_drewN | apply below_drew1) | exact HB.out)⟩
 replace c5 := Bool.eq_false_iff.mpr c5
 subst c5
 rw [if_neg (show ¬ (false = true) by decide)] at H
 obtain ⟨y304, hy304⟩ : ∃ y_ : List Int, y_ = (([a1] : List Int)) := ⟨_, rfl⟩
 replace H : ((slices_Insert_int_int.f t299 t302 y304).bind fun t307 => (some t307)) = some r := by first | (rw [hy304]; with_reducible exact H) | (have H2_ := (Option.bind_some _ _).symm.trans H; rw [hy304]; with_reducible exact H2_) | (have H2_ := (Option.bind_some _ _).symm.trans H; with_reducible exact H2_) | with_reducible exact H | (rw [hy304]; exact H) | exact H
 have Ny304 := Aside0.mk hy304
 clear hy304
 replace H := Option.bind_eq_some_iff.mp H
 obtain ⟨t307, A80, H⟩ := H
 replace H : (some t307) = some r := H
 have A8 := Aside0.mk A80
 clear A80
 obtain rfl := Option.some.inj H
 go_enter Try.func91, Try.ntmps91
 go_wp2_with (first | ((with_reducible refine gate_callee (f := 128) rfl ?_); refine goesL_ (some 9) rfl rfl Try.func128 (by kernel_rfl) rfl #[.slice A0 l0.length c0] rfl tm_ ?_; (with_reducible refine (slices_Clone_int_int.calls _ _ l0 t299 _ ?side1 ?side2 A3.out).mono ?_); (case side1 => exact ca HR0.out); (case side2 => exact HC0.out); rintro e w9 ⟨v300, rfl, ho0, hb⟩; refine ⟨_, rfl, ?_⟩; have HO301 := Aside0.mk (Kd.R_lower ho0 (below_size (hB HB))); replace HB := bst_ HB hb; clear hb ho0; obtain ⟨Ao10, co10, eo10⟩ := Kd.R_slice HO301.out; subst eo10) | ((with_reducible refine gate_callee (f := 129) rfl ?_); refine goesL_ (some 13) rfl rfl Try.func129 (by kernel_rfl) rfl #[.slice Ao10 t299.length co10, .int .i64 a1] rfl tm_ ?_; (with_reducible refine (slices_BinarySearch_int_int.calls k _ _ t299 a1 t302 false _ ?side1 ?side2 A4.out).mono ?_); (case side1 => exact ca (Kd.R_reads' HO301.out).2.2); (case side2 => exact (Kd.R_reads' HO301.out).2.1); rintro e w' ⟨rfl, ⟨nd, rfl⟩⟩; refine ⟨_, rfl, ?_⟩) | ((with_reducible refine gate_dst (N := 21) rfl ?_); refine Kd.R_lit (Kd.int .i64) _ 3 ?hg (N := 21) ?hd (xs := ([a1] : List Int)) (inner := [.int .i64 a1]) (ok := fun _ => True) (okp := fun _ => True) ?hr ?hp (fun _ hk => hk) trivial (Below.refl _ _) (Nat.le_refl _) (by simp) ?_; (case hd => rfl); (case hg => rfl); (case hr => first | (go_simp; done) | (go_simp; rfl)); (case hp => exact (Reps.one (show Kd.M (Kd.int .i64) _ _ _ a1 [.int .i64 a1] from rfl) (Reps.none _ _))); intro v305 w11 ho12 hb hg_ hnew_; clear hg_ hnew_; (first | rw [← Ny304.out] at ho12 | (simp only [Int.reduceToNat] at ho12; rw [← Ny304.out] at ho12)); have HO306 := Aside0.mk (Kd.R_lower (Kd.R_new' ho12 (rl_ HO301)) (below_size (hB HB))); replace HO301 := re_ HO301 ho12 hb; replace HB := bst_ HB hb; clear hb ho12; obtain ⟨Ao13, co13, eo13⟩ := Kd.R_slice HO306.out; subst eo13) | ((with_reducible refine gate_callee (f := 130) rfl ?_); refine goesL_ (some 22) rfl rfl Try.func130 (by kernel_rfl) rfl #[.slice Ao10 t299.length co10, .int .i64 t302, .slice Ao13 y304.length co13] rfl tm_ ?_; (with_reducible refine (slices_Insert_int_int.calls (fun k_ => some k_ = (.slice Ao10 t299.length co10 : Value).ownBlock) (.slice Ao10 t299.length co10) t299 t302 _ _ y304 t307 w _ ?side1 ?side2 ?side3 ?side4 (ins_unfr HO306.out) A8.out).mono ?_); (case side1 => repeat (first | (with_reducible first | exact HB.out | apply below_alloc | apply pw_below_drewN | apply below_drew1) | exact HB.out)); (case side2 => exact Kd.R_tight rfl HO301.out); (case side3 => exact Kd.C_kept_own (HO306.out) (fun k_ hk_ hs_ => (hk_.2) hs_)); (case side4 => exact (Kd.R_reads' HO306.out).2.1); rintro e w14 ⟨v308, rfl, ho0, hb, hkp⟩; refine ⟨_, rfl, ?_⟩; have HO309 := Aside0.mk (Kd.R_mono (ok' := fun k_ => no_ (.slice Ao13 y304.length co13) k_) ho0 (fun k_ hk_ => Or.elim hk_ (fun hs_ => fun e_ => (((HO306.out).1 k_ e_.symm).2) hs_) (fun hn_ => (Kd.fresh' (rl_ HO306) k_ hn_)))); replace HO306 := Aside0.mk (Kd.R_mono (ok' := fun k_ => no_ v308 k_) (Kd.R_keptB (HO306.out) hkp (fun k_ hk_ hs_ => (hk_.2) hs_)) (fun k_ hk_ => fun e_ => Or.elim (ho0.1 k_ e_.symm) (fun hs_ => hk_.2.1 hs_) (fun hn_ => Nat.not_le.2 hk_.2.2 hn_))); replace HB := Aside0.mk (hb); clear HO301; clear hb ho0))
 go_ret
 exact ⟨_, by first | rfl | (simp [errW_none, errW_some] <;> rfl) | (simp [*, errW_none, errW_some] <;> rfl), by (with_reducible repeat (first | apply Kd.R_alloc | apply Kd.R_drewN | apply Kd.R_drew)); exact Kd.R_mono HO309.out (fun _ hk => trivial), by repeat (first | (with_reducible first | exact HB.out | apply below_alloc | apply pw_below_drewN | apply below_drew1) | exact HB.out)⟩

def impl_JoinSpot.f (k : Nat) (l0 : List Int) (a1 : Int) : Option (List Int × Bool) := (impl_goodWants.f k l0).bind fun t310 => (if t310 = true then ((impl_isSpot.f a1).bind fun t311 => (if t311 = true then ((impl_joined.f k l0 a1).bind fun t312 => (some (t312, true))) else (some (([] : List Int), false)))) else (some (([] : List Int), false)))
theorem impl_JoinSpot.mono : ∀ a0 a1 k, LeO (impl_JoinSpot.f k a0 a1) (impl_JoinSpot.f (k + 1) a0 a1) := by
 intro a0 a1 k
 unfold impl_JoinSpot.f
 repeat' first
   | (with_reducible exact impl_goodWants.mono _ _)
   | (with_reducible exact impl_joined.mono _ _ _)
   | (with_reducible exact LeO.refl _)
   | (with_reducible exact LeO.none _)
   | (with_reducible refine LeO.ite ?_ ?_)
   | (with_reducible refine LeO.bind ?_ (fun _ => ?_))
set_option maxHeartbeats 8000000 in
set_option maxRecDepth 100000 in
theorem impl_JoinSpot.calls (k : Nat) (A0 : Option Addr) (c0 : Nat) (l0 : List Int) (a1 : Int) (r1 : List Int) (r2 : Bool) (w : World) (hr0 : Kd.C (Kd.int .i64) w A0 l0.length l0) (hc0 : l0.length ≤ c0) (h : impl_JoinSpot.f k l0 a1 = some (r1, r2)) :
  Calls Try.prog 44 #[.slice A0 l0.length c0, .int .i64 a1] w fun e w' => ∃ v0_ : Value, e = .returned (.tuple #[v0_, .bool r2]) ∧ Kd.R (Kd.int .i64) 3 w' w.heap.size (fun _ => True) v0_ r1 ∧ Below w.heap.size w w' := by
 have HR0 := Aside0.mk hr0
 have HC0 := Aside0.mk hc0
 clear hr0 hc0
 have HB := Aside0.mk (Below.refl w.heap.size w)
 have H : ((impl_goodWants.f k l0).bind fun t310 => (if t310 = true then ((impl_isSpot.f a1).bind fun t311 => (if t311 = true then ((impl_joined.f k l0 a1).bind fun t312 => (some (t312, true))) else (some (([] : List Int), false)))) else (some (([] : List Int), false)))) = some (r1, r2) := h
 clear h
 replace H := Option.bind_eq_some_iff.mp H
 obtain ⟨t310, A30, H⟩ := H
 replace H : (if t310 = true then ((impl_isSpot.f a1).bind fun t311 => (if t311 = true then ((impl_joined.f k l0 a1).bind fun t312 => (some (t312, true))) else (some (([] : List Int), false)))) else (some (([] : List Int), false))) = some (r1, r2) := H
 have A3 := Aside0.mk A30
 clear A30
 by_cases c4 : t310 = true
 rotate_left
 ·replace c4 := Bool.eq_false_iff.mpr c4
  subst c4
  rw [if_neg (show ¬ (false = true) by decide)] at H
  simp only [Option.some.injEq, Prod.mk.injEq] at H
  obtain ⟨rfl, rfl⟩ := H
  go_enter Try.func44, Try.ntmps44
  go_wp2_with (first | ((with_reducible refine gate_callee (f := 89) rfl ?_); refine goesL_ (some 7) rfl rfl Try.func89 (by kernel_rfl) rfl #[.slice A0 l0.length c0] rfl tm_ ?_; (with_reducible refine (impl_goodWants.calls k _ _ l0 false _ ?side1 ?side2 A3.out).mono ?_); (case side1 => exact ca HR0.out); (case side2 => exact HC0.out); rintro e w' ⟨rfl, ⟨nd, rfl⟩⟩; refine ⟨_, rfl, ?_⟩))
  go_ret2
  exact ⟨_, by first | rfl | (simp [errW_none, errW_some] <;> rfl) | (simp [*, errW_none, errW_some] <;> rfl), by first | exact Kd.R_nil _ _ _ _ _ | exact Kd.N_nil _ _ _ _ _ | exact Kd.V_nil _ _ _ _ _ | exact Kd.Q_nil _ _ _ _ _ | exact Kd.S_nil _ _ _ _ _, by repeat (first | (with_reducible first | exact HB.out | apply below_alloc | apply pw_below_drewN | apply below_drew1) | exact HB.out)⟩
 subst c4
 rw [if_pos rfl] at H
 replace H := Option.bind_eq_some_iff.mp H
 obtain ⟨t311, A50, H⟩ := H
 replace H : (if t311 = true then ((impl_joined.f k l0 a1).bind fun t312 => (some (t312, true))) else (some (([] : List Int), false))) = some (r1, r2) := H
 have A5 := Aside0.mk A50
 clear A50
 by_cases c6 : t311 = true
 rotate_left
 ·replace c6 := Bool.eq_false_iff.mpr c6
  subst c6
  rw [if_neg (show ¬ (false = true) by decide)] at H
  simp only [Option.some.injEq, Prod.mk.injEq] at H
  obtain ⟨rfl, rfl⟩ := H
  go_enter Try.func44, Try.ntmps44
  go_wp2_with (first | ((with_reducible refine gate_callee (f := 89) rfl ?_); refine goesL_ (some 7) rfl rfl Try.func89 (by kernel_rfl) rfl #[.slice A0 l0.length c0] rfl tm_ ?_; (with_reducible refine (impl_goodWants.calls k _ _ l0 true _ ?side1 ?side2 A3.out).mono ?_); (case side1 => exact ca HR0.out); (case side2 => exact HC0.out); rintro e w' ⟨rfl, ⟨nd, rfl⟩⟩; refine ⟨_, rfl, ?_⟩) | (go_at_call 90; (with_reducible refine (impl_isSpot.calls a1 false _ A5.out).mono ?_); rintro e w' ⟨rfl, ⟨nd, rfl⟩⟩))
  go_ret2
  exact ⟨_, by first | rfl | (simp [errW_none, errW_some] <;> rfl) | (simp [*, errW_none, errW_some] <;> rfl), by first | exact Kd.R_nil _ _ _ _ _ | exact Kd.N_nil _ _ _ _ _ | exact Kd.V_nil _ _ _ _ _ | exact Kd.Q_nil _ _ _ _ _ | exact Kd.S_nil _ _ _ _ _, by repeat (first | (with_reducible first | exact HB.out | apply below_alloc | apply pw_below_drewN | apply below_drew1) | exact HB.out)⟩
 subst c6
 rw [if_pos rfl] at H
 replace H := Option.bind_eq_some_iff.mp H
 obtain ⟨t312, A70, H⟩ := H
 replace H : (some (t312, true)) = some (r1, r2) := H
 have A7 := Aside0.mk A70
 clear A70
 simp only [Option.some.injEq, Prod.mk.injEq] at H
 obtain ⟨rfl, rfl⟩ := H
 go_enter Try.func44, Try.ntmps44
 go_wp2_with (first | ((with_reducible refine gate_callee (f := 89) rfl ?_); refine goesL_ (some 7) rfl rfl Try.func89 (by kernel_rfl) rfl #[.slice A0 l0.length c0] rfl tm_ ?_; (with_reducible refine (impl_goodWants.calls k _ _ l0 true _ ?side1 ?side2 A3.out).mono ?_); (case side1 => exact ca HR0.out); (case side2 => exact HC0.out); rintro e w' ⟨rfl, ⟨nd, rfl⟩⟩; refine ⟨_, rfl, ?_⟩) | (go_at_call 90; (with_reducible refine (impl_isSpot.calls a1 true _ A5.out).mono ?_); rintro e w' ⟨rfl, ⟨nd, rfl⟩⟩) | ((with_reducible refine gate_callee (f := 91) rfl ?_); refine goesL_ (some 16) rfl rfl Try.func91 (by kernel_rfl) rfl #[.slice A0 l0.length c0, .int .i64 a1] rfl tm_ ?_; (with_reducible refine (impl_joined.calls k _ _ l0 a1 t312 _ ?side1 ?side2 A7.out).mono ?_); (case side1 => exact ca HR0.out); (case side2 => exact HC0.out); rintro e w8 ⟨v313, rfl, ho0, hb⟩; refine ⟨_, rfl, ?_⟩; have HO314 := Aside0.mk (Kd.R_lower ho0 (below_size (hB HB))); replace HB := bst_ HB hb; clear hb ho0))
 go_ret2
 exact ⟨_, by first | rfl | (simp [errW_none, errW_some] <;> rfl) | (simp [*, errW_none, errW_some] <;> rfl), by (with_reducible repeat (first | apply Kd.R_alloc | apply Kd.R_drewN | apply Kd.R_drew)); exact HO314.out, by repeat (first | (with_reducible first | exact HB.out | apply below_alloc | apply pw_below_drewN | apply below_drew1) | exact HB.out)⟩

end Go.Proofs.Ytnoklicihomfoaa.P
