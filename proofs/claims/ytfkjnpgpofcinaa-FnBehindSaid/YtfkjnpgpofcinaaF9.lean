import Derived.Test.YtfkjnpgpofcinaaF0
import Derived.Test.YtfkjnpgpofcinaaF1
import Derived.Test.YtfkjnpgpofcinaaF2
import Derived.Test.YtfkjnpgpofcinaaF3
import Derived.Test.YtfkjnpgpofcinaaF7
import Derived.Test.YtfkjnpgpofcinaaF8
import Derived.Test.YtfkjnpgpofcinaaF26
namespace Go.Proofs.Ytfkjnpgpofcinaa.P
open Go.RowKit Go.Proofs.YtfkjnpgpofcinaaW.PrintWords Go.Proofs.YtfkjnpgpofcinaaW.PrintLast Go.Proofs.YtfkjnpgpofcinaaW.PrintMore
attribute [local go_sem] max2_int min2_int max_two min_two max_three min_three max_four min_four   -- for this text's walks alone
set_option linter.unusedVariables false
set_option linter.unusedSimpArgs false
attribute [local go_sem high] eqA45 eqA76 eqA83

mutual
def spec_l10At.l0 : Nat → Int → List (S148) → Int → List Int → List Int → Int → Option (List Int)
 | 0, _, _, _, _, _, _ => none
 | k + 1, x0, x1, x2, x7, x8, x9 => if x9 < x0 then ((spec_l8Near.f k x1 x9).bind fun t1328 => (spec_l10At.l1 k x0 x1 x2 x7 x8 x9 (-1) t1328 (t1328.length : Int) 0)) else (some x8)
def spec_l10At.l1 : Nat → Int → List (S148) → Int → List Int → List Int → Int → Int → List Int → Int → Int → Option (List Int)
 | 0, _, _, _, _, _, _, _, _, _, _ => none
 | k + 1, x0, x1, x2, x7, x8, x9, x10, x24, x25, x26 => if x26 < x25 then (if 0 ≤ x26 then (if x26 < (x24.length : Int) then (if x10 < 0 then (if x9 = x2 then (spec_l10At.l1 k x0 x1 x2 x7 x8 x9 x10 x24 x25 (wrap64 (x26 + 1))) else (if 0 ≤ x9 then (if x9 < (x7.length : Int) then (if (rd x7 x9) < 100000 then (if 0 ≤ (rd x24 x26) then (if (rd x24 x26) < (x7.length : Int) then ((spec_l9Edge.f k x1 (rd x24 x26) x9).bind fun t1334 => (if (wrap64 ((rd x7 (rd x24 x26)) + t1334)) = (rd x7 x9) then (spec_l10At.l1 k x0 x1 x2 x7 x8 x9 (rd x24 x26) x24 x25 (wrap64 (x26 + 1))) else (spec_l10At.l1 k x0 x1 x2 x7 x8 x9 x10 x24 x25 (wrap64 (x26 + 1))))) else (none)) else (none)) else (spec_l10At.l1 k x0 x1 x2 x7 x8 x9 x10 x24 x25 (wrap64 (x26 + 1)))) else (none)) else (none))) else (spec_l10At.l1 k x0 x1 x2 x7 x8 x9 x10 x24 x25 (wrap64 (x26 + 1)))) else (none)) else (none)) else (if x8.length < 17592186044416 then (spec_l10At.l0 k x0 x1 x2 x7 (x8 ++ [x10]) (wrap64 (x9 + 1))) else (none))
end
def spec_l10At.f (k : Nat) (a0 : Int) (l1 : List (S148)) (a2 : Int) : Option (List Int) := (spec_l9Fars.f k a0 l1 a2).bind fun t1325 => (spec_l10At.l0 k a0 l1 a2 t1325 ([] : List Int) 0)
theorem spec_l10At.mono_l : ∀ k, (∀ y0 y1 y2 y3 y4 y5, LeO (spec_l10At.l0 k y0 y1 y2 y3 y4 y5) (spec_l10At.l0 (k + 1) y0 y1 y2 y3 y4 y5)) ∧ (∀ y0 y1 y2 y3 y4 y5 y6 y7 y8 y9, LeO (spec_l10At.l1 k y0 y1 y2 y3 y4 y5 y6 y7 y8 y9) (spec_l10At.l1 (k + 1) y0 y1 y2 y3 y4 y5 y6 y7 y8 y9))
 | 0 => ⟨fun _ _ _ _ _ _ r h => by simp [spec_l10At.l0] at h, fun _ _ _ _ _ _ _ _ _ _ r h => by simp [spec_l10At.l1] at h⟩
 | k + 1 => by
  obtain ⟨ih0, ih1⟩ := spec_l10At.mono_l k
  refine ⟨?_, ?_⟩
  ·intro y0 y1 y2 y3 y4 y5
   unfold spec_l10At.l0
   repeat' first
   | (with_reducible exact ih0 _ _ _ _ _ _)
   | (with_reducible exact ih1 _ _ _ _ _ _ _ _ _ _)
   | (with_reducible exact spec_l8Near.mono _ _ _)
   | (with_reducible exact spec_l9Edge.mono _ _ _ _)
   | (with_reducible exact spec_l9Fars.mono _ _ _ _)
   | (with_reducible exact LeO.refl _)
   | (with_reducible exact LeO.none _)
   | (with_reducible refine LeO.ite ?_ ?_)
   | (with_reducible refine LeO.bind ?_ (fun _ => ?_))
  ·intro y0 y1 y2 y3 y4 y5 y6 y7 y8 y9
   unfold spec_l10At.l1
   repeat' first
   | (with_reducible exact ih0 _ _ _ _ _ _)
   | (with_reducible exact ih1 _ _ _ _ _ _ _ _ _ _)
   | (with_reducible exact spec_l8Near.mono _ _ _)
   | (with_reducible exact spec_l9Edge.mono _ _ _ _)
   | (with_reducible exact spec_l9Fars.mono _ _ _ _)
   | (with_reducible exact LeO.refl _)
   | (with_reducible exact LeO.none _)
   | (with_reducible refine LeO.ite ?_ ?_)
   | (with_reducible refine LeO.bind ?_ (fun _ => ?_))
theorem spec_l10At.mono : ∀ a0 a1 a2 k, LeO (spec_l10At.f k a0 a1 a2) (spec_l10At.f (k + 1) a0 a1 a2) := by
 intro a0 a1 a2 k
 obtain ⟨ih0, ih1⟩ := spec_l10At.mono_l k
 unfold spec_l10At.f
 repeat' first
   | (with_reducible exact ih0 _ _ _ _ _ _)
   | (with_reducible exact ih1 _ _ _ _ _ _ _ _ _ _)
   | (with_reducible exact spec_l8Near.mono _ _ _)
   | (with_reducible exact spec_l9Edge.mono _ _ _ _)
   | (with_reducible exact spec_l9Fars.mono _ _ _ _)
   | (with_reducible exact LeO.refl _)
   | (with_reducible exact LeO.none _)
   | (with_reducible refine LeO.ite ?_ ?_)
   | (with_reducible refine LeO.bind ?_ (fun _ => ?_))
def spec_l10At.T10 : Bool × List (List Nat × List Nat) := (true, [([], []), ([0], [0]), ([1], [1]), ([2], [2]), ([2], [2]), ([3, 4, 2], [2, 3, 4]), ([2, 5], [2, 5]), ([6, 2], [6]), ([7], [7]), ([7], [7]), ([8, 9, 7], [7, 8, 9]), ([10, 7], [7, 10]), ([11, 7], [7, 11]), ([7, 12], [7, 12]), ([13, 7], [13]), ([14], [14]), ([14], [14]), ([15, 16, 14], [14, 15, 16]), ([17, 14], [14, 17]), ([14], [14]), ([14], [14]), ([14], [14]), ([19, 20, 21, 14, 14], [14, 19, 20, 21]), ([18, 22, 14], [14, 18, 22]), ([14], [14]), ([14], [14]), ([24, 25, 14], [14, 24, 25]), ([26, 14], [14, 26]), ([23, 27, 14], [14, 23, 27]), ([14, 28], [14, 28])])
def spec_l10At.B10 : List Nat := [0, 1, 3, 7, 7, 31, 63, 127, 255, 255, 1023, 2047, 4095, 8191, 16383, 32767, 32767, 131071, 262143, 32767, 32767, 32767, 3702783, 8388607, 32767, 32767, 50364415, 117473279, 268435455, 536870911]
theorem spec_l10At.tab10 : rtab .any (opsOf Try.f147 10) = spec_l10At.T10 := by kernel_rfl
theorem spec_l10At.bits10 : waitsOk spec_l10At.T10.2 spec_l10At.B10 = true := by kernel_rfl
set_option maxHeartbeats 8000000 in
set_option maxRecDepth 100000 in
theorem spec_l10At.calls (k : Nat) (a0 : Int) (A1 : Option Addr) (c1 : Nat) (l1 : List (S148)) (a2 : Int) (r : List Int) (w : World) (hr1 : Kd.C k148 w A1 l1.length l1) (hc1 : l1.length ≤ c1) (h : spec_l10At.f k a0 l1 a2 = some r) :
  Calls Try.prog 147 #[.int .i64 a0, .slice A1 l1.length c1, .int .i64 a2] w fun e w' => ∃ v0_ : Value, e = .returned (v0_) ∧ Kd.R (Kd.int .i64) 3 w' w.heap.size (fun _ => True) v0_ r ∧ Below w.heap.size w w' := by
 have HR1 := Aside0.mk hr1
 have HC1 := Aside0.mk hc1
 clear hr1 hc1
 have HB := Aside0.mk (Below.refl w.heap.size w)
 have H : ((spec_l9Fars.f k a0 l1 a2).bind fun t1325 => (spec_l10At.l0 k a0 l1 a2 t1325 ([] : List Int) 0)) = some r := h
 clear h
 replace H := Option.bind_eq_some_iff.mp H
 obtain ⟨t1325, A40, H⟩ := H
 replace H : (spec_l10At.l0 k a0 l1 a2 t1325 ([] : List Int) 0) = some r := H
 have A4 := Aside0.mk A40
 clear A40
 have H' := Aside0.mk H
 clear H
 go_enter Try.func147, Try.ntmps147
 go_wp2_with (first | ((with_reducible refine gate_callee (f := 155) rfl ?_); refine goesL_ (some 16) rfl rfl Try.func155 (by kernel_rfl) rfl #[.int .i64 a0, .slice A1 l1.length c1, .int .i64 a2] rfl tm_ ?_; (with_reducible refine (spec_l9Fars.calls k a0 _ _ l1 a2 t1325 _ ?side1 ?side2 A4.out).mono ?_); (case side1 => exact ca HR1.out); (case side2 => exact HC1.out); rintro e w5 ⟨v1326, rfl, ho0, hb⟩; refine ⟨_, rfl, ?_⟩; have HO1327 := Aside0.mk (Kd.R_lower ho0 (below_size (hB HB))); replace HB := bst_ HB hb; clear hb ho0))
 go_loopg [8, 9] k (fun kq v8 v9 w' => ∃ (x8_1 : List Int) (x9_1 : Int), v9 = .int .i64 x9_1 ∧ Aside0 (spec_l10At.l0 kq a0 l1 a2 t1325 x8_1 x9_1 = some r) ∧ Aside0 (kq ≤ k) ∧ Aside0 (Kd.R (Kd.int .i64) 3 w' w.heap.size (fun k_ => no_ v8 k_) v1326 t1325) ∧ Aside0 (Kd.R (Kd.int .i64) 3 w' w.heap.size (fun k_ => no_ v1326 k_) v8 x8_1) ∧ Aside0 (Below w.heap.size w w'))
 case atStart => exact ⟨(([] : List Int)), (0), (by first | rfl | (simp; done) | (simp [*]; done)), H', ⟨Nat.le_refl _⟩, ⟨by (with_reducible repeat (first | apply Kd.R_alloc | apply Kd.R_drewN | apply Kd.R_drew)); exact Kd.R_mono HO1327.out (fun _ hk => (by simp [Value.ownBlock]))⟩, ⟨by first | exact Kd.R_nil _ _ _ _ _ | exact Kd.N_nil _ _ _ _ _ | exact Kd.V_nil _ _ _ _ _ | exact Kd.Q_nil _ _ _ _ _ | exact Kd.S_nil _ _ _ _ _⟩, ⟨hB HB⟩⟩
 case round =>
  clear H'
  try clear c1
  obtain ⟨x8_1, x9_1, rfl, HA, HK1, HO_7, HO_8, HB⟩ := hrel
  cases gk with
  | zero => exact absurd HA.out (by simp [spec_l10At.l0])
  | succ k1 =>
   have H := HA.out
   clear HA
   simp only [spec_l10At.l0] at H
   by_cases c6 : x9_1 < a0
   rotate_left
   ·rw [if_neg c6] at H
    have c6b0 : decide (x9_1 < a0) = false := decide_eq_false c6
    clear c6
    obtain rfl := Option.some.inj H
    go_wp2
    go_ret
    exact ⟨_, by first | rfl | (simp [errW_none, errW_some] <;> rfl) | (simp [*, errW_none, errW_some] <;> rfl), by (with_reducible repeat (first | apply Kd.R_alloc | apply Kd.R_drewN | apply Kd.R_drew)); exact Kd.R_mono HO_8.out (fun _ hk => trivial), by repeat (first | (with_reducible first | exact HB.out | apply below_alloc | apply pw_below_drewN | apply below_drew1) | exact HB.out)⟩
   rw [if_pos c6] at H
   have c6b0 : decide (x9_1 < a0) = true := decide_eq_true c6
   clear c6
   replace H := Option.bind_eq_some_iff.mp H
   obtain ⟨t1328, A70, H⟩ := H
   replace H : (spec_l10At.l1 k1 a0 l1 a2 t1325 x8_1 x9_1 (-1) t1328 (t1328.length : Int) 0) = some r := H
   have A7 := Aside0.mk A70
   clear A70
   have H' := Aside0.mk H
   clear H
   go_wp2_with (first | ((with_reducible refine gate_callee (f := 156) rfl ?_); refine goesL_ (some 24) rfl rfl Try.func156 (by kernel_rfl) rfl #[.slice A1 l1.length c1, .int .i64 x9_1] rfl tm_ ?_; (with_reducible refine (spec_l8Near.calls k1 _ _ l1 x9_1 t1328 _ ?side1 ?side2 A7.out).mono ?_); (case side1 => exact ca (Kd.C_below HR1.out HB.out)); (case side2 => exact HC1.out); rintro e w8 ⟨v1329, rfl, ho0, hb⟩; refine ⟨_, rfl, ?_⟩; have HO1330 := Aside0.mk (Kd.V_lower (Kd.V_mono (ok' := fun k_ => no_ v1326 k_ ∧ some k_ ≠ (u8 : Value).ownBlock) ho0 (fun k_ hk_ => ⟨(Kd.fresh' (rl_ HO_7) k_ hk_), (Kd.fresh' (rl_ HO_8) k_ hk_)⟩)) (below_size (hB HB))); replace HO_7 := rb_ HO_7 hb; replace HO_8 := rb_ HO_8 hb; replace HB := bst_ HB hb; clear hb ho0; obtain ⟨Ao9, co9, eo9⟩ := Kd.V_slice HO1330.out; subst eo9))
   go_loopg [10, 26] k1 (fun kq v10 v26 w' => ∃ (x10_2 : Int) (x26_2 : Int), v10 = .int .i64 x10_2 ∧ v26 = .int .i64 x26_2 ∧ Aside0 (spec_l10At.l1 kq a0 l1 a2 t1325 x8_1 x9_1 x10_2 t1328 (t1328.length : Int) x26_2 = some r) ∧ Aside0 (kq ≤ k1) ∧ Aside0 (Kd.R (Kd.int .i64) 3 w' w.heap.size (fun k_ => some k_ ≠ (u8 : Value).ownBlock) v1326 t1325) ∧ Aside0 (Kd.R (Kd.int .i64) 3 w' w.heap.size (fun k_ => no_ v1326 k_) u8 x8_1) ∧ Aside0 (Kd.V (Kd.int .i64) 3 w' w.heap.size (fun k_ => no_ v1326 k_ ∧ some k_ ≠ (u8 : Value).ownBlock) (.slice Ao9 t1328.length co9) t1328) ∧ Aside0 (Below w.heap.size w w'))
   case atStart => exact ⟨((-1)), (0), (by first | rfl | (simp; done) | (simp [*]; done)), (by first | rfl | (simp; done) | (simp [*]; done)), H', ⟨Nat.le_refl _⟩, ⟨ra HO_7.out⟩, ⟨ra HO_8.out⟩, ⟨by (with_reducible repeat (first | apply Kd.V_alloc | apply Kd.V_drewN | apply Kd.V_drew)); exact HO1330.out⟩, ⟨hB HB⟩⟩
   case round =>
    clear H'
    try clear c1
    try clear c6
    try clear c6b0
    obtain ⟨x10_2, x26_2, rfl, rfl, HA, HK2, HO_7, HO_8, HO_24, HB⟩ := hrel
    cases gk with
    | zero => exact absurd HA.out (by simp [spec_l10At.l1])
    | succ k2 =>
     have H := HA.out
     clear HA
     simp only [spec_l10At.l1] at H
     by_cases c10 : x26_2 < (t1328.length : Int)
     rotate_left
     ·rw [if_neg c10] at H
      have c10b0 : decide (x26_2 < (t1328.length : Int)) = false := decide_eq_false c10
      clear c10
      by_cases c32 : x8_1.length < 17592186044416
      rotate_left
      ·rw [if_neg c32] at H
       exact absurd H (by simp)
      rw [if_pos c32] at H
      have LMc32 := Aside0.mk c32
      clear c32
      obtain ⟨y1336, hy1336⟩ : ∃ y_ : List Int, y_ = (x8_1 ++ [x10_2]) := ⟨_, rfl⟩
      replace H : (spec_l10At.l0 k2 a0 l1 a2 t1325 y1336 (wrap64 (x9_1 + 1))) = some r := by first | (rw [hy1336]; with_reducible exact H) | (have H2_ := (Option.bind_some _ _).symm.trans H; rw [hy1336]; with_reducible exact H2_) | (have H2_ := (Option.bind_some _ _).symm.trans H; with_reducible exact H2_) | with_reducible exact H | (rw [hy1336]; exact H) | exact H
      have Ny1336 := Aside0.mk hy1336
      clear hy1336
      have H' := Aside0.mk H
      clear H
      go_wp2_with (first | ((with_reducible refine gate_builtin (b := .append) (xs := #[.tmp 62, .tmp 64]) rfl ?_); at_builtin; refine Kd.R_append (Kd.int .i64) (w0 := w) w.heap.size rfl (.tmp 62) (.tmp 64) 22 3 (.int .i64 0) 8 rfl Try.underlying22 info3 rfl (by decide) (by omega) u8 x8_1 x10_2 [.int .i64 x10_2] (fun k_ => no_ v1326 k_) (fun _ => False) rfl rfl ?aP (fun _ hk => hk.elim) ?aF ?aO ?aB ?aS ?aL ?_; (case aP => exact rfl); (case aB => exact (hB HB)); (case aF => exact (fun k_ hk => Kd.fresh' (rl_ HO_7) k_ hk)); (case aO => exact (ra HO_8.out)); (case aS => exact (below_size (hB HB))); (case aL => have := LMc32.out; omega); intro v1337 w33 ho hb hg hat; rw [← Ny1336.out] at ho; have HO1338 := Aside0.mk (ho); replace HO_7 := Aside0.mk (Kd.R_after (ok := (fun _ => True)) (rm_ HO_7 (fun _ hk => ⟨trivial, hk⟩)).out hg hat); replace HO_24 := Aside0.mk (Kd.V_afterv (ok := (fun k_ => no_ v1326 k_)) (by (with_reducible repeat (first | apply Kd.V_alloc | apply Kd.V_drewN | apply Kd.V_drew)); exact HO_24.out) hg hat); replace HB := Aside0.mk (hb); clear HO_8; clear ho hb hg hat))
      go_roundg k2
      case measure => have := HK1.out; have := HK2.out; omega
      case rel => exact ⟨(y1336), (wrap64 (x9_1 + 1)), (by first | rfl | (simp; done) | (simp [*]; done)), H', ⟨by have := HK1.out; have := HK2.out; omega⟩, rm_ HO_7 (fun _ hk => hk.2), ⟨ra HO1338.out⟩, ⟨hB HB⟩⟩
     rw [if_pos c10] at H
     have c10b0 : decide (x26_2 < (t1328.length : Int)) = true := decide_eq_true c10
     clear c10
     by_cases c11 : 0 ≤ x26_2
     rotate_left
     ·rw [if_neg c11] at H
      exact absurd H (by simp)
     rw [if_pos c11] at H
     have c11b0 : decide (0 ≤ x26_2) = true := decide_eq_true c11
     clear c11
     by_cases c12 : x26_2 < (t1328.length : Int)
     rotate_left
     ·rw [if_neg c12] at H
      exact absurd H (by simp)
     rw [if_pos c12] at H
     have c12b0 : decide (x26_2 < (t1328.length : Int)) = true := decide_eq_true c12
     clear c12
     by_cases c13 : x10_2 < 0
     rotate_left
     ·rw [if_neg c13] at H
      have c13b0 : decide (x10_2 < 0) = false := decide_eq_false c13
      clear c13
      have H' := Aside0.mk H
      clear H
      have p1331 : 0 ≤ (x26_2 : Int) := of_decide_eq_true (by first | (with_reducible assumption) | assumption)
      have q1331 : x26_2 < (t1328.length : Int) := of_decide_eq_true (by first | (with_reducible assumption) | assumption)
      obtain ⟨ad1331, e1331, hx1331_0⟩ := Kd.at_int (Kd.V_reads' HO_24.out).2.2 x26_2 p1331 q1331
      cases e1331
      replace p1331 := eq_true p1331
      replace q1331 := eq_true q1331
      try go_wp2
      replace HO_7 := rd_ HO_7
      replace HO_8 := rd_ HO_8
      replace HO_24 := Aside0.mk (Kd.V_drew HO_24.out)
      replace HB := Aside0.mk (below_drew1 HB.out)
      refine start_ (n := 30) (S := fun w' => True) (ds := []) (bs 30 0) (by kernel_rfl) rfl rfl trivial (fun hHeld => ?_); refine with_tabW spec_l10At.tab10 spec_l10At.bits10 (fun HT_ HW_ => ?_)
      generalize wr.drew = w31 at HO_7 HO_8 HO_24 HB hHeld ⊢
      refine pu_ 0 30 (bs 30 1) HT_ ?_
      refine pu_ 1 31 (bs 30 3) HT_ ?_
      refine pu_ 2 32 (bs 30 7) HT_ ?_
      refine pn_ 3 33 (bs 30 15) HT_ ?_
      refine pn_ 4 34 (bs 30 31) HT_ ?_
      refine pn_ 5 35 (bs 30 63) HT_ ?_
      refine pu_ 6 36 (bs 30 127) HT_ ?_
      refine pu_ 7 37 (bs 30 255) HT_ ?_
      refine pn_ 8 38 (bs 30 511) HT_ ?_
      refine pn_ 9 39 (bs 30 1023) HT_ ?_
      refine pn_ 10 40 (bs 30 2047) HT_ ?_
      refine pn_ 11 41 (bs 30 4095) HT_ ?_
      refine pn_ 12 42 (bs 30 8191) HT_ ?_
      refine pu_ 13 43 (bs 30 16383) HT_ ?_
      refine pu_ 14 44 (bs 30 32767) HT_ ?_
      refine pn_ 15 45 (bs 30 65535) HT_ ?_
      refine pn_ 16 46 (bs 30 131071) HT_ ?_
      refine pn_ 17 47 (bs 30 262143) HT_ ?_
      refine pn_ 18 48 (bs 30 524287) HT_ ?_
      refine pn_ 19 49 (bs 30 1048575) HT_ ?_
      refine pn_ 20 50 (bs 30 2097151) HT_ ?_
      refine pn_ 21 51 (bs 30 4194303) HT_ ?_
      refine pn_ 22 52 (bs 30 8388607) HT_ ?_
      refine pn_ 23 53 (bs 30 16777215) HT_ ?_
      refine pn_ 24 54 (bs 30 33554431) HT_ ?_
      refine pn_ 25 55 (bs 30 67108863) HT_ ?_
      refine pn_ 26 56 (bs 30 134217727) HT_ ?_
      refine pn_ 27 57 (bs 30 268435455) HT_ ?_
      refine pn_ 28 58 (bs 30 536870911) HT_ ?_
      refine pu_ 29 59 (bs 30 1073741823) HT_ ?_
      refine done_ (done_of HT_.out (by kernel_rfl)) ?_
      try go_wp2
      go_roundg k2
      case measure => have := HK1.out; have := HK2.out; omega
      case rel => exact ⟨(x10_2), (wrap64 (x26_2 + 1)), (by first | rfl | (simp; done) | (simp [*]; done)), (by first | rfl | (simp; done) | (simp [*]; done)), H', ⟨by have := HK1.out; have := HK2.out; omega⟩, ⟨ra HO_7.out⟩, ⟨ra HO_8.out⟩, ⟨by (with_reducible repeat (first | apply Kd.V_alloc | apply Kd.V_drewN | apply Kd.V_drew)); exact HO_24.out⟩, ⟨hB HB⟩⟩
     rw [if_pos c13] at H
     have c13b0 : decide (x10_2 < 0) = true := decide_eq_true c13
     clear c13
     by_cases c14 : x9_1 = a2
     ·rw [if_pos c14] at H
      have c14b0 : (x9_1 == a2) = true := beq_iff_eq.mpr c14
      have c14b1 : (x9_1 != a2) = false := bne_eq_false_iff_eq.mpr c14
      clear c14
      have H' := Aside0.mk H
      clear H
      have p1331 : 0 ≤ (x26_2 : Int) := of_decide_eq_true (by first | (with_reducible assumption) | assumption)
      have q1331 : x26_2 < (t1328.length : Int) := of_decide_eq_true (by first | (with_reducible assumption) | assumption)
      obtain ⟨ad1331, e1331, hx1331_0⟩ := Kd.at_int (Kd.V_reads' HO_24.out).2.2 x26_2 p1331 q1331
      cases e1331
      replace p1331 := eq_true p1331
      replace q1331 := eq_true q1331
      try go_wp2
      replace HO_7 := rd_ HO_7
      replace HO_8 := rd_ HO_8
      replace HO_24 := Aside0.mk (Kd.V_drew HO_24.out)
      replace HB := Aside0.mk (below_drew1 HB.out)
      refine start_ (n := 30) (S := fun w' => True) (ds := []) (bs 30 0) (by kernel_rfl) rfl rfl trivial (fun hHeld => ?_); refine with_tabW spec_l10At.tab10 spec_l10At.bits10 (fun HT_ HW_ => ?_)
      generalize wr.drew = w15 at HO_7 HO_8 HO_24 HB hHeld ⊢
      refine pu_ 0 30 (bs 30 1) HT_ ?_
      refine pu_ 1 31 (bs 30 3) HT_ ?_
      refine pu_ 2 32 (bs 30 7) HT_ ?_
      refine pu_ 3 33 (bs 30 15) HT_ ?_
      refine pu_ 4 34 (bs 30 31) HT_ ?_
      refine pu_ 5 35 (bs 30 63) HT_ ?_
      refine pu_ 6 36 (bs 30 127) HT_ ?_
      refine pu_ 7 37 (bs 30 255) HT_ ?_
      refine pn_ 8 38 (bs 30 511) HT_ ?_
      refine pn_ 9 39 (bs 30 1023) HT_ ?_
      refine pn_ 10 40 (bs 30 2047) HT_ ?_
      refine pn_ 11 41 (bs 30 4095) HT_ ?_
      refine pn_ 12 42 (bs 30 8191) HT_ ?_
      refine pu_ 13 43 (bs 30 16383) HT_ ?_
      refine pu_ 14 44 (bs 30 32767) HT_ ?_
      refine pn_ 15 45 (bs 30 65535) HT_ ?_
      refine pn_ 16 46 (bs 30 131071) HT_ ?_
      refine pn_ 17 47 (bs 30 262143) HT_ ?_
      refine pn_ 18 48 (bs 30 524287) HT_ ?_
      refine pn_ 19 49 (bs 30 1048575) HT_ ?_
      refine pn_ 20 50 (bs 30 2097151) HT_ ?_
      refine pn_ 21 51 (bs 30 4194303) HT_ ?_
      refine pn_ 22 52 (bs 30 8388607) HT_ ?_
      refine pn_ 23 53 (bs 30 16777215) HT_ ?_
      refine pn_ 24 54 (bs 30 33554431) HT_ ?_
      refine pn_ 25 55 (bs 30 67108863) HT_ ?_
      refine pn_ 26 56 (bs 30 134217727) HT_ ?_
      refine pn_ 27 57 (bs 30 268435455) HT_ ?_
      refine pn_ 28 58 (bs 30 536870911) HT_ ?_
      refine pu_ 29 59 (bs 30 1073741823) HT_ ?_
      refine done_ (done_of HT_.out (by kernel_rfl)) ?_
      try go_wp2
      go_roundg k2
      case measure => have := HK1.out; have := HK2.out; omega
      case rel => exact ⟨(x10_2), (wrap64 (x26_2 + 1)), (by first | rfl | (simp; done) | (simp [*]; done)), (by first | rfl | (simp; done) | (simp [*]; done)), H', ⟨by have := HK1.out; have := HK2.out; omega⟩, ⟨ra HO_7.out⟩, ⟨ra HO_8.out⟩, ⟨by (with_reducible repeat (first | apply Kd.V_alloc | apply Kd.V_drewN | apply Kd.V_drew)); exact HO_24.out⟩, ⟨hB HB⟩⟩
     rw [if_neg c14] at H
     have c14b0 : (x9_1 == a2) = false := beq_eq_false_iff_ne.mpr c14
     have c14b1 : (x9_1 != a2) = true := bne_iff_ne.mpr c14
     by_cases c16 : 0 ≤ x9_1
     rotate_left
     ·rw [if_neg c16] at H
      exact absurd H (by simp)
     rw [if_pos c16] at H
     have c16b0 : decide (0 ≤ x9_1) = true := decide_eq_true c16
     clear c16
     by_cases c17 : x9_1 < (t1325.length : Int)
     rotate_left
     ·rw [if_neg c17] at H
      exact absurd H (by simp)
     rw [if_pos c17] at H
     have c17b0 : decide (x9_1 < (t1325.length : Int)) = true := decide_eq_true c17
     clear c17
     by_cases c18 : (rd t1325 x9_1) < 100000
     rotate_left
     ·rw [if_neg c18] at H
      have c18b0 : decide ((rd t1325 x9_1) < 100000) = false := decide_eq_false c18
      clear c18
      have H' := Aside0.mk H
      clear H
      have p1331 : 0 ≤ (x26_2 : Int) := of_decide_eq_true (by first | (with_reducible assumption) | assumption)
      have q1331 : x26_2 < (t1328.length : Int) := of_decide_eq_true (by first | (with_reducible assumption) | assumption)
      obtain ⟨ad1331, e1331, hx1331_0⟩ := Kd.at_int (Kd.V_reads' HO_24.out).2.2 x26_2 p1331 q1331
      cases e1331
      replace p1331 := eq_true p1331
      replace q1331 := eq_true q1331
      try go_wp2
      replace HO_7 := rd_ HO_7
      replace HO_8 := rd_ HO_8
      replace HO_24 := Aside0.mk (Kd.V_drew HO_24.out)
      replace HB := Aside0.mk (below_drew1 HB.out)
      obtain ⟨Ao30, co30, eo30⟩ := Kd.R_slice HO_7.out
      subst eo30
      have p1332 : 0 ≤ (x9_1 : Int) := of_decide_eq_true (by first | (with_reducible assumption) | assumption)
      have q1332 : x9_1 < (t1325.length : Int) := of_decide_eq_true (by first | (with_reducible assumption) | assumption)
      obtain ⟨ad1332, e1332, hx1332_0⟩ := Kd.at_int (Kd.R_reads' HO_7.out).2.2 x9_1 p1332 q1332
      cases e1332
      replace p1332 := eq_true p1332
      replace q1332 := eq_true q1332
      refine start_ (n := 30) (S := fun w' => w'.cell? (ad1332.add (x9_1).toNat) = some (.int .i64 (rd t1325 x9_1))) (ds := []) (bs 30 0) (by kernel_rfl) rfl rfl (hx1332_0) (fun hHeld => ?_); refine with_tabW spec_l10At.tab10 spec_l10At.bits10 (fun HT_ HW_ => ?_)
      generalize wr.drew = w29 at HO_7 HO_8 HO_24 HB hx1332_0 hHeld ⊢
      refine pu_ 0 30 (bs 30 1) HT_ ?_
      refine pu_ 1 31 (bs 30 3) HT_ ?_
      refine pu_ 2 32 (bs 30 7) HT_ ?_
      refine pu_ 3 33 (bs 30 15) HT_ ?_
      refine pu_ 4 34 (bs 30 31) HT_ ?_
      refine pu_ 5 35 (bs 30 63) HT_ ?_
      refine pu_ 6 36 (bs 30 127) HT_ ?_
      refine pu_ 7 37 (bs 30 255) HT_ ?_
      refine pu_ 8 38 (bs 30 511) HT_ ?_
      refine pu_ 9 39 (bs 30 1023) HT_ ?_
      refine pu_ 10 40 (bs 30 2047) HT_ ?_
      refine take_ (i := 11) (N := some 41) (v := ?_) (a' := ?_) (bs 30 4095) rfl rfl (take_ofW HT_.out HW_.out (by kernel_rfl)) (fun _ _ _ h => h) (Or.inl ⟨by rfl, ?_⟩) hHeld ?_ ?_
      rotate_left
      ·intro w' s0
       go_simp
       with_reducible rfl
      rotate_left
      ·simp only [Act.put, List.setIfInBounds_toArray, List.set_cons_zero, List.set_cons_succ, i64_w, i32_w]
       rfl
      refine pu_ 12 42 (bs 30 8191) HT_ ?_
      refine pu_ 13 43 (bs 30 16383) HT_ ?_
      refine pu_ 14 44 (bs 30 32767) HT_ ?_
      refine pn_ 15 45 (bs 30 65535) HT_ ?_
      refine pn_ 16 46 (bs 30 131071) HT_ ?_
      refine pn_ 17 47 (bs 30 262143) HT_ ?_
      refine pn_ 18 48 (bs 30 524287) HT_ ?_
      refine pn_ 19 49 (bs 30 1048575) HT_ ?_
      refine pn_ 20 50 (bs 30 2097151) HT_ ?_
      refine pn_ 21 51 (bs 30 4194303) HT_ ?_
      refine pn_ 22 52 (bs 30 8388607) HT_ ?_
      refine pn_ 23 53 (bs 30 16777215) HT_ ?_
      refine pn_ 24 54 (bs 30 33554431) HT_ ?_
      refine pn_ 25 55 (bs 30 67108863) HT_ ?_
      refine pn_ 26 56 (bs 30 134217727) HT_ ?_
      refine pn_ 27 57 (bs 30 268435455) HT_ ?_
      refine pn_ 28 58 (bs 30 536870911) HT_ ?_
      refine pu_ 29 59 (bs 30 1073741823) HT_ ?_
      refine done_ (done_of HT_.out (by kernel_rfl)) ?_
      try go_wp2
      go_roundg k2
      case measure => have := HK1.out; have := HK2.out; omega
      case rel => exact ⟨(x10_2), (wrap64 (x26_2 + 1)), (by first | rfl | (simp; done) | (simp [*]; done)), (by first | rfl | (simp; done) | (simp [*]; done)), H', ⟨by have := HK1.out; have := HK2.out; omega⟩, ⟨ra HO_7.out⟩, ⟨ra HO_8.out⟩, ⟨by (with_reducible repeat (first | apply Kd.V_alloc | apply Kd.V_drewN | apply Kd.V_drew)); exact HO_24.out⟩, ⟨hB HB⟩⟩
     rw [if_pos c18] at H
     have c18b0 : decide ((rd t1325 x9_1) < 100000) = true := decide_eq_true c18
     clear c18
     by_cases c19 : 0 ≤ (rd t1328 x26_2)
     rotate_left
     ·rw [if_neg c19] at H
      exact absurd H (by simp)
     rw [if_pos c19] at H
     have c19b0 : decide (0 ≤ (rd t1328 x26_2)) = true := decide_eq_true c19
     clear c19
     by_cases c20 : (rd t1328 x26_2) < (t1325.length : Int)
     rotate_left
     ·rw [if_neg c20] at H
      exact absurd H (by simp)
     rw [if_pos c20] at H
     have c20b0 : decide ((rd t1328 x26_2) < (t1325.length : Int)) = true := decide_eq_true c20
     clear c20
     replace H := Option.bind_eq_some_iff.mp H
     obtain ⟨t1334, A210, H⟩ := H
     replace H : (if (wrap64 ((rd t1325 (rd t1328 x26_2)) + t1334)) = (rd t1325 x9_1) then (spec_l10At.l1 k2 a0 l1 a2 t1325 x8_1 x9_1 (rd t1328 x26_2) t1328 (t1328.length : Int) (wrap64 (x26_2 + 1))) else (spec_l10At.l1 k2 a0 l1 a2 t1325 x8_1 x9_1 x10_2 t1328 (t1328.length : Int) (wrap64 (x26_2 + 1)))) = some r := H
     have A21 := Aside0.mk A210
     clear A210
     by_cases c22 : (wrap64 ((rd t1325 (rd t1328 x26_2)) + t1334)) = (rd t1325 x9_1)
     rotate_left
     ·rw [if_neg c22] at H
      have c22b0 : ((wrap64 ((rd t1325 (rd t1328 x26_2)) + t1334)) == (rd t1325 x9_1)) = false := beq_eq_false_iff_ne.mpr c22
      have c22b1 : ((wrap64 ((rd t1325 (rd t1328 x26_2)) + t1334)) != (rd t1325 x9_1)) = true := bne_iff_ne.mpr c22
      have H' := Aside0.mk H
      clear H
      have p1331 : 0 ≤ (x26_2 : Int) := of_decide_eq_true (by first | (with_reducible assumption) | assumption)
      have q1331 : x26_2 < (t1328.length : Int) := of_decide_eq_true (by first | (with_reducible assumption) | assumption)
      obtain ⟨ad1331, e1331, hx1331_0⟩ := Kd.at_int (Kd.V_reads' HO_24.out).2.2 x26_2 p1331 q1331
      cases e1331
      replace p1331 := eq_true p1331
      replace q1331 := eq_true q1331
      try go_wp2
      replace HO_7 := rd_ HO_7
      replace HO_8 := rd_ HO_8
      replace HO_24 := Aside0.mk (Kd.V_drew HO_24.out)
      replace HB := Aside0.mk (below_drew1 HB.out)
      obtain ⟨Ao27, co27, eo27⟩ := Kd.R_slice HO_7.out
      subst eo27
      have p1332 : 0 ≤ (x9_1 : Int) := of_decide_eq_true (by first | (with_reducible assumption) | assumption)
      have q1332 : x9_1 < (t1325.length : Int) := of_decide_eq_true (by first | (with_reducible assumption) | assumption)
      obtain ⟨ad1332, e1332, hx1332_0⟩ := Kd.at_int (Kd.R_reads' HO_7.out).2.2 x9_1 p1332 q1332
      cases e1332
      replace p1332 := eq_true p1332
      replace q1332 := eq_true q1332
      have p1333 : 0 ≤ ((rd t1328 x26_2) : Int) := of_decide_eq_true (by first | (with_reducible assumption) | assumption)
      have q1333 : (rd t1328 x26_2) < (t1325.length : Int) := of_decide_eq_true (by first | (with_reducible assumption) | assumption)
      obtain ⟨ad1333, e1333, hx1333_0⟩ := Kd.at_int (Kd.R_reads' HO_7.out).2.2 (rd t1328 x26_2) p1333 q1333
      obtain rfl : ad1332 = ad1333 := (by injection e1333)
      replace p1333 := eq_true p1333
      replace q1333 := eq_true q1333
      have p1335 : 0 ≤ (x9_1 : Int) := of_decide_eq_true (by first | (with_reducible assumption) | assumption)
      have q1335 : x9_1 < (t1325.length : Int) := of_decide_eq_true (by first | (with_reducible assumption) | assumption)
      obtain ⟨ad1335, e1335, hx1335_0⟩ := Kd.at_int (Kd.R_reads' HO_7.out).2.2 x9_1 p1335 q1335
      obtain rfl : ad1332 = ad1335 := (by injection e1335)
      replace p1335 := eq_true p1335
      replace q1335 := eq_true q1335
      refine start_ (n := 30) (S := fun w' => w'.cell? (ad1332.add (x9_1).toNat) = some (.int .i64 (rd t1325 x9_1)) ∧ w'.cell? (ad1332.add ((rd t1328 x26_2)).toNat) = some (.int .i64 (rd t1325 (rd t1328 x26_2))) ∧ w'.cell? (ad1332.add (x9_1).toNat) = some (.int .i64 (rd t1325 x9_1))) (ds := []) (bs 30 0) (by kernel_rfl) rfl rfl ⟨hx1332_0, hx1333_0, hx1335_0⟩ (fun hHeld => ?_); refine with_tabW spec_l10At.tab10 spec_l10At.bits10 (fun HT_ HW_ => ?_)
      generalize wr.drew = w26 at HO_7 HO_8 HO_24 HB hx1332_0 hx1333_0 hx1335_0 hHeld ⊢
      refine pu_ 0 30 (bs 30 1) HT_ ?_
      refine pu_ 1 31 (bs 30 3) HT_ ?_
      refine pu_ 2 32 (bs 30 7) HT_ ?_
      refine pu_ 3 33 (bs 30 15) HT_ ?_
      refine pu_ 4 34 (bs 30 31) HT_ ?_
      refine pu_ 5 35 (bs 30 63) HT_ ?_
      refine pu_ 6 36 (bs 30 127) HT_ ?_
      refine pu_ 7 37 (bs 30 255) HT_ ?_
      refine pu_ 8 38 (bs 30 511) HT_ ?_
      refine pu_ 9 39 (bs 30 1023) HT_ ?_
      refine pu_ 10 40 (bs 30 2047) HT_ ?_
      refine tk_ 11 41 (bs 30 4095) HT_ HW_ hHeld ?_
      refine pu_ 12 42 (bs 30 8191) HT_ ?_
      refine pu_ 13 43 (bs 30 16383) HT_ ?_
      refine pu_ 14 44 (bs 30 32767) HT_ ?_
      refine pu_ 15 45 (bs 30 65535) HT_ ?_
      refine pu_ 16 46 (bs 30 131071) HT_ ?_
      refine pu_ 17 47 (bs 30 262143) HT_ ?_
      refine pu_ 19 49 (bs 30 786431) HT_ ?_
      refine pu_ 20 50 (bs 30 1835007) HT_ ?_
      refine pu_ 21 51 (bs 30 3932159) HT_ ?_
      refine pu_ 24 54 (bs 30 20709375) HT_ ?_
      refine pu_ 25 55 (bs 30 54263807) HT_ ?_
      refine pu_ 26 56 (bs 30 121372671) HT_ ?_
      refine tk_ 18 48 (bs 30 121634815) HT_ HW_ hHeld ?_
      refine tk_ 27 57 (bs 30 255852543) HT_ HW_ hHeld ?_
      refine one_ (i := 22) (N := some 52) (bs 30 260046847) rfl rfl (one_of HT_.out (by kernel_rfl)) (by decide) (fun K hK => ?_)
      refine goes_ Try.func157 (by kernel_rfl) rfl #[.slice A1 l1.length c1, .int .i64 (rd t1328 x26_2), .int .i64 x9_1] (by rfl) rfl rfl tm_ ?_
      with_reducible refine (spec_l9Edge.calls k2 _ _ l1 (rd t1328 x26_2) x9_1 t1334 _ ?side1 ?side2 A21.out).mono ?_
      (case side1 => exact ca (Kd.C_below HR1.out HB.out))
      (case side2 => exact HC1.out)
      rintro e w28 ⟨rfl, hb⟩
      have HS0_ := (hb.cell (World.block_lt_of_cell? _ _ (hHeld.1))).trans (hHeld.1)
      have HS1_ := (hb.cell (World.block_lt_of_cell? _ _ (hHeld.2.1))).trans (hHeld.2.1)
      have HS2_ := (hb.cell (World.block_lt_of_cell? _ _ (hHeld.2.2))).trans (hHeld.2.2)
      refine ⟨_, rfl, ?_⟩
      replace HO_7 := rb_ HO_7 hb
      replace HO_8 := rb_ HO_8 hb
      replace HO_24 := Aside0.mk (Kd.V_below (by (with_reducible repeat (first | apply Kd.V_alloc | apply Kd.V_drewN | apply Kd.V_drew)); exact HO_24.out) hb)
      replace HB := bst_ HB hb
      clear hb
      refine hK.out _ _ ⟨HS0_, HS1_, HS2_⟩ (fun hHeld => ?_)
      clear hK K
      refine nm_ 52 ?_
      refine pu_ 23 53 (bs 30 268435455) HT_ ?_
      refine pu_ 28 58 (bs 30 536870911) HT_ ?_
      refine pu_ 29 59 (bs 30 1073741823) HT_ ?_
      refine done_ (done_of HT_.out (by kernel_rfl)) ?_
      try go_wp2
      go_roundg k2
      case measure => have := HK1.out; have := HK2.out; omega
      case rel => exact ⟨(x10_2), (wrap64 (x26_2 + 1)), (by first | rfl | (simp; done) | (simp [*]; done)), (by first | rfl | (simp; done) | (simp [*]; done)), H', ⟨by have := HK1.out; have := HK2.out; omega⟩, ⟨ra HO_7.out⟩, ⟨ra HO_8.out⟩, ⟨by (with_reducible repeat (first | apply Kd.V_alloc | apply Kd.V_drewN | apply Kd.V_drew)); exact HO_24.out⟩, ⟨hB HB⟩⟩
     rw [if_pos c22] at H
     have c22b0 : ((wrap64 ((rd t1325 (rd t1328 x26_2)) + t1334)) == (rd t1325 x9_1)) = true := beq_iff_eq.mpr c22
     have c22b1 : ((wrap64 ((rd t1325 (rd t1328 x26_2)) + t1334)) != (rd t1325 x9_1)) = false := bne_eq_false_iff_eq.mpr c22
     clear c22
     have H' := Aside0.mk H
     clear H
     have p1331 : 0 ≤ (x26_2 : Int) := of_decide_eq_true (by first | (with_reducible assumption) | assumption)
     have q1331 : x26_2 < (t1328.length : Int) := of_decide_eq_true (by first | (with_reducible assumption) | assumption)
     obtain ⟨ad1331, e1331, hx1331_0⟩ := Kd.at_int (Kd.V_reads' HO_24.out).2.2 x26_2 p1331 q1331
     cases e1331
     replace p1331 := eq_true p1331
     replace q1331 := eq_true q1331
     try go_wp2
     replace HO_7 := rd_ HO_7
     replace HO_8 := rd_ HO_8
     replace HO_24 := Aside0.mk (Kd.V_drew HO_24.out)
     replace HB := Aside0.mk (below_drew1 HB.out)
     obtain ⟨Ao24, co24, eo24⟩ := Kd.R_slice HO_7.out
     subst eo24
     have p1332 : 0 ≤ (x9_1 : Int) := of_decide_eq_true (by first | (with_reducible assumption) | assumption)
     have q1332 : x9_1 < (t1325.length : Int) := of_decide_eq_true (by first | (with_reducible assumption) | assumption)
     obtain ⟨ad1332, e1332, hx1332_0⟩ := Kd.at_int (Kd.R_reads' HO_7.out).2.2 x9_1 p1332 q1332
     cases e1332
     replace p1332 := eq_true p1332
     replace q1332 := eq_true q1332
     have p1333 : 0 ≤ ((rd t1328 x26_2) : Int) := of_decide_eq_true (by first | (with_reducible assumption) | assumption)
     have q1333 : (rd t1328 x26_2) < (t1325.length : Int) := of_decide_eq_true (by first | (with_reducible assumption) | assumption)
     obtain ⟨ad1333, e1333, hx1333_0⟩ := Kd.at_int (Kd.R_reads' HO_7.out).2.2 (rd t1328 x26_2) p1333 q1333
     obtain rfl : ad1332 = ad1333 := (by injection e1333)
     replace p1333 := eq_true p1333
     replace q1333 := eq_true q1333
     have p1335 : 0 ≤ (x9_1 : Int) := of_decide_eq_true (by first | (with_reducible assumption) | assumption)
     have q1335 : x9_1 < (t1325.length : Int) := of_decide_eq_true (by first | (with_reducible assumption) | assumption)
     obtain ⟨ad1335, e1335, hx1335_0⟩ := Kd.at_int (Kd.R_reads' HO_7.out).2.2 x9_1 p1335 q1335
     obtain rfl : ad1332 = ad1335 := (by injection e1335)
     replace p1335 := eq_true p1335
     replace q1335 := eq_true q1335
     refine start_ (n := 30) (S := fun w' => w'.cell? (ad1332.add (x9_1).toNat) = some (.int .i64 (rd t1325 x9_1)) ∧ w'.cell? (ad1332.add ((rd t1328 x26_2)).toNat) = some (.int .i64 (rd t1325 (rd t1328 x26_2))) ∧ w'.cell? (ad1332.add (x9_1).toNat) = some (.int .i64 (rd t1325 x9_1))) (ds := []) (bs 30 0) (by kernel_rfl) rfl rfl ⟨hx1332_0, hx1333_0, hx1335_0⟩ (fun hHeld => ?_); refine with_tabW spec_l10At.tab10 spec_l10At.bits10 (fun HT_ HW_ => ?_)
     generalize wr.drew = w23 at HO_7 HO_8 HO_24 HB hx1332_0 hx1333_0 hx1335_0 hHeld ⊢
     refine pu_ 0 30 (bs 30 1) HT_ ?_
     refine pu_ 1 31 (bs 30 3) HT_ ?_
     refine pu_ 2 32 (bs 30 7) HT_ ?_
     refine pu_ 3 33 (bs 30 15) HT_ ?_
     refine pu_ 4 34 (bs 30 31) HT_ ?_
     refine pu_ 5 35 (bs 30 63) HT_ ?_
     refine pu_ 6 36 (bs 30 127) HT_ ?_
     refine pu_ 7 37 (bs 30 255) HT_ ?_
     refine pu_ 8 38 (bs 30 511) HT_ ?_
     refine pu_ 9 39 (bs 30 1023) HT_ ?_
     refine pu_ 10 40 (bs 30 2047) HT_ ?_
     refine tk_ 11 41 (bs 30 4095) HT_ HW_ hHeld ?_
     refine pu_ 12 42 (bs 30 8191) HT_ ?_
     refine pu_ 13 43 (bs 30 16383) HT_ ?_
     refine pu_ 14 44 (bs 30 32767) HT_ ?_
     refine pu_ 15 45 (bs 30 65535) HT_ ?_
     refine pu_ 16 46 (bs 30 131071) HT_ ?_
     refine pu_ 17 47 (bs 30 262143) HT_ ?_
     refine pu_ 19 49 (bs 30 786431) HT_ ?_
     refine pu_ 20 50 (bs 30 1835007) HT_ ?_
     refine pu_ 21 51 (bs 30 3932159) HT_ ?_
     refine pu_ 24 54 (bs 30 20709375) HT_ ?_
     refine pu_ 25 55 (bs 30 54263807) HT_ ?_
     refine pu_ 26 56 (bs 30 121372671) HT_ ?_
     refine tk_ 18 48 (bs 30 121634815) HT_ HW_ hHeld ?_
     refine tk_ 27 57 (bs 30 255852543) HT_ HW_ hHeld ?_
     refine one_ (i := 22) (N := some 52) (bs 30 260046847) rfl rfl (one_of HT_.out (by kernel_rfl)) (by decide) (fun K hK => ?_)
     refine goes_ Try.func157 (by kernel_rfl) rfl #[.slice A1 l1.length c1, .int .i64 (rd t1328 x26_2), .int .i64 x9_1] (by rfl) rfl rfl tm_ ?_
     with_reducible refine (spec_l9Edge.calls k2 _ _ l1 (rd t1328 x26_2) x9_1 t1334 _ ?side1 ?side2 A21.out).mono ?_
     (case side1 => exact ca (Kd.C_below HR1.out HB.out))
     (case side2 => exact HC1.out)
     rintro e w25 ⟨rfl, hb⟩
     have HS0_ := (hb.cell (World.block_lt_of_cell? _ _ (hHeld.1))).trans (hHeld.1)
     have HS1_ := (hb.cell (World.block_lt_of_cell? _ _ (hHeld.2.1))).trans (hHeld.2.1)
     have HS2_ := (hb.cell (World.block_lt_of_cell? _ _ (hHeld.2.2))).trans (hHeld.2.2)
     refine ⟨_, rfl, ?_⟩
     replace HO_7 := rb_ HO_7 hb
     replace HO_8 := rb_ HO_8 hb
     replace HO_24 := Aside0.mk (Kd.V_below (by (with_reducible repeat (first | apply Kd.V_alloc | apply Kd.V_drewN | apply Kd.V_drew)); exact HO_24.out) hb)
     replace HB := bst_ HB hb
     clear hb
     refine hK.out _ _ ⟨HS0_, HS1_, HS2_⟩ (fun hHeld => ?_)
     clear hK K
     refine nm_ 52 ?_
     refine pu_ 23 53 (bs 30 268435455) HT_ ?_
     refine pu_ 28 58 (bs 30 536870911) HT_ ?_
     refine pu_ 29 59 (bs 30 1073741823) HT_ ?_
     refine done_ (done_of HT_.out (by kernel_rfl)) ?_
     try go_wp2
     go_roundg k2
     case measure => have := HK1.out; have := HK2.out; omega
     case rel => exact ⟨(rd t1328 x26_2), (wrap64 (x26_2 + 1)), (by first | rfl | (simp; done) | (simp [*]; done)), (by first | rfl | (simp; done) | (simp [*]; done)), H', ⟨by have := HK1.out; have := HK2.out; omega⟩, ⟨ra HO_7.out⟩, ⟨ra HO_8.out⟩, ⟨by (with_reducible repeat (first | apply Kd.V_alloc | apply Kd.V_drewN | apply Kd.V_drew)); exact HO_24.out⟩, ⟨hB HB⟩⟩

def spec_TreeAt.f (k : Nat) (a0 : Int) (l1 : List (S148)) (a2 : Int) : Option (List Int × Bool) := (spec_GoodEdges.f k a0 l1).bind fun t1339 => (if t1339 = true then ((spec_l1In.f a2 0 (wrap64 (a0 - 1))).bind fun t1340 => (if t1340 = true then ((spec_l10At.f k a0 l1 a2).bind fun t1341 => (some (t1341, true))) else (some (([] : List Int), false)))) else (some (([] : List Int), false)))
theorem spec_TreeAt.mono : ∀ a0 a1 a2 k, LeO (spec_TreeAt.f k a0 a1 a2) (spec_TreeAt.f (k + 1) a0 a1 a2) := by
 intro a0 a1 a2 k
 unfold spec_TreeAt.f
 repeat' first
   | (with_reducible exact spec_GoodEdges.mono _ _ _)
   | (with_reducible exact spec_l10At.mono _ _ _ _)
   | (with_reducible exact LeO.refl _)
   | (with_reducible exact LeO.none _)
   | (with_reducible refine LeO.ite ?_ ?_)
   | (with_reducible refine LeO.bind ?_ (fun _ => ?_))
set_option maxHeartbeats 8000000 in
set_option maxRecDepth 100000 in
theorem spec_TreeAt.calls (k : Nat) (a0 : Int) (A1 : Option Addr) (c1 : Nat) (l1 : List (S148)) (a2 : Int) (r1 : List Int) (r2 : Bool) (w : World) (hr1 : Kd.C k148 w A1 l1.length l1) (hc1 : l1.length ≤ c1) (h : spec_TreeAt.f k a0 l1 a2 = some (r1, r2)) :
  Calls Try.prog 134 #[.int .i64 a0, .slice A1 l1.length c1, .int .i64 a2] w fun e w' => ∃ v0_ : Value, e = .returned (.tuple #[v0_, .bool r2]) ∧ Kd.R (Kd.int .i64) 3 w' w.heap.size (fun _ => True) v0_ r1 ∧ Below w.heap.size w w' := by
 have HR1 := Aside0.mk hr1
 have HC1 := Aside0.mk hc1
 clear hr1 hc1
 have HB := Aside0.mk (Below.refl w.heap.size w)
 have H : ((spec_GoodEdges.f k a0 l1).bind fun t1339 => (if t1339 = true then ((spec_l1In.f a2 0 (wrap64 (a0 - 1))).bind fun t1340 => (if t1340 = true then ((spec_l10At.f k a0 l1 a2).bind fun t1341 => (some (t1341, true))) else (some (([] : List Int), false)))) else (some (([] : List Int), false)))) = some (r1, r2) := h
 clear h
 replace H := Option.bind_eq_some_iff.mp H
 obtain ⟨t1339, A40, H⟩ := H
 replace H : (if t1339 = true then ((spec_l1In.f a2 0 (wrap64 (a0 - 1))).bind fun t1340 => (if t1340 = true then ((spec_l10At.f k a0 l1 a2).bind fun t1341 => (some (t1341, true))) else (some (([] : List Int), false)))) else (some (([] : List Int), false))) = some (r1, r2) := H
 have A4 := Aside0.mk A40
 clear A40
 by_cases c5 : t1339 = true
 rotate_left
 ·replace c5 := Bool.eq_false_iff.mpr c5
  subst c5
  rw [if_neg (show ¬ (false = true) by decide)] at H
  simp only [Option.some.injEq, Prod.mk.injEq] at H
  obtain ⟨rfl, rfl⟩ := H
  go_enter Try.func134, Try.ntmps134
  go_wp2_with (first | ((with_reducible refine gate_callee (f := 146) rfl ?_); refine goesL_ (some 10) rfl rfl Try.func146 (by kernel_rfl) rfl #[.int .i64 a0, .slice A1 l1.length c1] rfl tm_ ?_; (with_reducible refine (spec_GoodEdges.calls k a0 _ _ l1 false _ ?side1 ?side2 A4.out).mono ?_); (case side1 => exact ca HR1.out); (case side2 => exact HC1.out); rintro e w12 ⟨rfl, hb⟩; refine ⟨_, rfl, ?_⟩; replace HB := bst_ HB hb; clear hb))
  go_ret2
  exact ⟨_, by first | rfl | (simp [errW_none, errW_some] <;> rfl) | (simp [*, errW_none, errW_some] <;> rfl), by first | exact Kd.R_nil _ _ _ _ _ | exact Kd.N_nil _ _ _ _ _ | exact Kd.V_nil _ _ _ _ _ | exact Kd.Q_nil _ _ _ _ _ | exact Kd.S_nil _ _ _ _ _, by repeat (first | (with_reducible first | exact HB.out | apply below_alloc | apply pw_below_drewN | apply below_drew1) | exact HB.out)⟩
 subst c5
 rw [if_pos rfl] at H
 replace H := Option.bind_eq_some_iff.mp H
 obtain ⟨t1340, A60, H⟩ := H
 replace H : (if t1340 = true then ((spec_l10At.f k a0 l1 a2).bind fun t1341 => (some (t1341, true))) else (some (([] : List Int), false))) = some (r1, r2) := H
 have A6 := Aside0.mk A60
 clear A60
 by_cases c7 : t1340 = true
 rotate_left
 ·replace c7 := Bool.eq_false_iff.mpr c7
  subst c7
  rw [if_neg (show ¬ (false = true) by decide)] at H
  simp only [Option.some.injEq, Prod.mk.injEq] at H
  obtain ⟨rfl, rfl⟩ := H
  go_enter Try.func134, Try.ntmps134
  go_wp2_with (first | ((with_reducible refine gate_callee (f := 146) rfl ?_); refine goesL_ (some 10) rfl rfl Try.func146 (by kernel_rfl) rfl #[.int .i64 a0, .slice A1 l1.length c1] rfl tm_ ?_; (with_reducible refine (spec_GoodEdges.calls k a0 _ _ l1 true _ ?side1 ?side2 A4.out).mono ?_); (case side1 => exact ca HR1.out); (case side2 => exact HC1.out); rintro e w11 ⟨rfl, hb⟩; refine ⟨_, rfl, ?_⟩; replace HB := bst_ HB hb; clear hb) | (go_at_call 90; (with_reducible refine (spec_l1In.calls a2 0 (wrap64 (a0 - 1)) false _ A6.out).mono ?_); rintro e w' ⟨rfl, ⟨nd, rfl⟩⟩))
  go_ret2
  exact ⟨_, by first | rfl | (simp [errW_none, errW_some] <;> rfl) | (simp [*, errW_none, errW_some] <;> rfl), by first | exact Kd.R_nil _ _ _ _ _ | exact Kd.N_nil _ _ _ _ _ | exact Kd.V_nil _ _ _ _ _ | exact Kd.Q_nil _ _ _ _ _ | exact Kd.S_nil _ _ _ _ _, by repeat (first | (with_reducible first | exact HB.out | apply below_alloc | apply pw_below_drewN | apply below_drew1) | exact HB.out)⟩
 subst c7
 rw [if_pos rfl] at H
 replace H := Option.bind_eq_some_iff.mp H
 obtain ⟨t1341, A80, H⟩ := H
 replace H : (some (t1341, true)) = some (r1, r2) := H
 have A8 := Aside0.mk A80
 clear A80
 simp only [Option.some.injEq, Prod.mk.injEq] at H
 obtain ⟨rfl, rfl⟩ := H
 go_enter Try.func134, Try.ntmps134
 go_wp2_with (first | ((with_reducible refine gate_callee (f := 146) rfl ?_); refine goesL_ (some 10) rfl rfl Try.func146 (by kernel_rfl) rfl #[.int .i64 a0, .slice A1 l1.length c1] rfl tm_ ?_; (with_reducible refine (spec_GoodEdges.calls k a0 _ _ l1 true _ ?side1 ?side2 A4.out).mono ?_); (case side1 => exact ca HR1.out); (case side2 => exact HC1.out); rintro e w9 ⟨rfl, hb⟩; refine ⟨_, rfl, ?_⟩; replace HB := bst_ HB hb; clear hb) | (go_at_call 90; (with_reducible refine (spec_l1In.calls a2 0 (wrap64 (a0 - 1)) true _ A6.out).mono ?_); rintro e w' ⟨rfl, ⟨nd, rfl⟩⟩) | ((with_reducible refine gate_callee (f := 147) rfl ?_); refine goesL_ (some 22) rfl rfl Try.func147 (by kernel_rfl) rfl #[.int .i64 a0, .slice A1 l1.length c1, .int .i64 a2] rfl tm_ ?_; (with_reducible refine (spec_l10At.calls k a0 _ _ l1 a2 t1341 _ ?side1 ?side2 A8.out).mono ?_); (case side1 => exact ca (Kd.C_below HR1.out (hB HB))); (case side2 => exact HC1.out); rintro e w10 ⟨v1342, rfl, ho0, hb⟩; refine ⟨_, rfl, ?_⟩; have HO1343 := Aside0.mk (Kd.R_lower ho0 (below_size (hB HB))); replace HB := bst_ HB hb; clear hb ho0))
 go_ret2
 exact ⟨_, by first | rfl | (simp [errW_none, errW_some] <;> rfl) | (simp [*, errW_none, errW_some] <;> rfl), by (with_reducible repeat (first | apply Kd.R_alloc | apply Kd.R_drewN | apply Kd.R_drew)); exact HO1343.out, by repeat (first | (with_reducible first | exact HB.out | apply below_alloc | apply pw_below_drewN | apply below_drew1) | exact HB.out)⟩

def spec_l1Cur_parents.j0 : Nat → List Int → Bool → List Int → Int → Int → Option (List Int × Int × Int)
 | 0, _, _, _, _, _ => none
 | k + 1, x5, x25, x1000, x1001, x1002 => if x25 = true then ((spec_l1Cur_pick.f x1000 x1001 x1002 (x5.length : Int)).bind fun bt1360 => ((spec_l1Cur_pick.f x1000 bt1360.2.1 bt1360.2.2 9).bind fun bt1363 => (if 0 ≤ bt1360.1 then (if bt1360.1 < (x5.length : Int) then (some ((x5.set (bt1360.1 : Int).toNat (wrap64 (bt1363.1 - 2))), bt1363.2.1, bt1363.2.2)) else (none)) else (none)))) else (some (x5, x1001, x1002))
def spec_l1Cur_parents.f (k : Nat) (s0_0 : List Int) (s0_1 : Int) (s0_2 : Int) : Option (List Int × Int × Int) := (spec_l1Cur_edges.f k s0_0 s0_1 s0_2).bind fun bt1344 => ((spec_l1Cur_pick.f s0_0 bt1344.2.2.1 bt1344.2.2.2 bt1344.1).bind fun bt1350 => ((spec_TreeAt.f k bt1344.1 bt1344.2.1 bt1350.1).bind fun bt1353 => (if bt1353.2 = true then ((spec_l1Cur_one.f s0_0 bt1350.2.1 bt1350.2.2 12).bind fun bt1357 => (spec_l1Cur_parents.j0 k bt1353.1 bt1357.1 s0_0 bt1357.2.1 bt1357.2.2)) else (spec_l1Cur_parents.j0 k bt1353.1 false s0_0 bt1350.2.1 bt1350.2.2))))
theorem spec_l1Cur_parents.mono_l : ∀ k, (∀ y0 y1 y2 y3 y4, LeO (spec_l1Cur_parents.j0 k y0 y1 y2 y3 y4) (spec_l1Cur_parents.j0 (k + 1) y0 y1 y2 y3 y4))
 | 0 => fun _ _ _ _ _ r h => by simp [spec_l1Cur_parents.j0] at h
 | k + 1 => by
  have ih0 := spec_l1Cur_parents.mono_l k
  ·intro y0 y1 y2 y3 y4
   unfold spec_l1Cur_parents.j0
   repeat' first
   | (with_reducible exact ih0 _ _ _ _ _)
   | (with_reducible exact spec_TreeAt.mono _ _ _ _)
   | (with_reducible exact spec_l1Cur_edges.mono _ _ _ _)
   | (with_reducible exact LeO.refl _)
   | (with_reducible exact LeO.none _)
   | (with_reducible refine LeO.ite ?_ ?_)
   | (with_reducible refine LeO.bind ?_ (fun _ => ?_))
theorem spec_l1Cur_parents.mono : ∀ a0 a1 a2 k, LeO (spec_l1Cur_parents.f k a0 a1 a2) (spec_l1Cur_parents.f (k + 1) a0 a1 a2) := by
 intro a0 a1 a2 k
 have ih0 := spec_l1Cur_parents.mono_l k
 unfold spec_l1Cur_parents.f
 repeat' first
   | (with_reducible exact ih0 _ _ _ _ _)
   | (with_reducible exact spec_TreeAt.mono _ _ _ _)
   | (with_reducible exact spec_l1Cur_edges.mono _ _ _ _)
   | (with_reducible exact LeO.refl _)
   | (with_reducible exact LeO.none _)
   | (with_reducible refine LeO.ite ?_ ?_)
   | (with_reducible refine LeO.bind ?_ (fun _ => ?_))
set_option maxHeartbeats 8000000 in
set_option maxRecDepth 100000 in
theorem spec_l1Cur_parents.calls (k : Nat) (g : Nat) (s0_0 : List Int) (s0_1 : Int) (s0_2 : Int) (r1 : List Int) (r2 : Int) (r3 : Int) (w0 w : World) (hI : IsS105 w0 w g s0_0 s0_1 s0_2) (hB : Below w0.heap.size w0 w) (h : spec_l1Cur_parents.f k s0_0 s0_1 s0_2 = some (r1, r2, r3)) :
  Calls Try.prog 96 #[.pointer (some ⟨g, 0, none⟩)] w fun e w' => ∃ v0_ : Value, e = .returned (v0_) ∧ Kd.R (Kd.int .i64) 3 w' w.heap.size (fun _ => True) v0_ r1 ∧ IsS105 w0 w' g s0_0 r2 r3 ∧ Below w0.heap.size w0 w' ∧ KeepBut w w' g none := by
 have HI0 := Aside0.mk hI
 have HK := Aside0.mk (KeepBut.refl w g none)
 have HL := Aside0.mk hB.size
 clear hI
 have HW0 := Aside0.mk hB.size
 have HB := Aside0.mk hB
 clear hB
 have H : ((spec_l1Cur_edges.f k s0_0 s0_1 s0_2).bind fun bt1344 => ((spec_l1Cur_pick.f s0_0 bt1344.2.2.1 bt1344.2.2.2 bt1344.1).bind fun bt1350 => ((spec_TreeAt.f k bt1344.1 bt1344.2.1 bt1350.1).bind fun bt1353 => (if bt1353.2 = true then ((spec_l1Cur_one.f s0_0 bt1350.2.1 bt1350.2.2 12).bind fun bt1357 => (spec_l1Cur_parents.j0 k bt1353.1 bt1357.1 s0_0 bt1357.2.1 bt1357.2.2)) else (spec_l1Cur_parents.j0 k bt1353.1 false s0_0 bt1350.2.1 bt1350.2.2))))) = some (r1, r2, r3) := h
 clear h
 replace H := Option.bind_eq_some_iff.mp H
 obtain ⟨⟨t1344, t1345, t1348, t1349⟩, A20, H⟩ := H
 replace H : ((spec_l1Cur_pick.f s0_0 t1348 t1349 t1344).bind fun bt1350 => ((spec_TreeAt.f k t1344 t1345 bt1350.1).bind fun bt1353 => (if bt1353.2 = true then ((spec_l1Cur_one.f s0_0 bt1350.2.1 bt1350.2.2 12).bind fun bt1357 => (spec_l1Cur_parents.j0 k bt1353.1 bt1357.1 s0_0 bt1357.2.1 bt1357.2.2)) else (spec_l1Cur_parents.j0 k bt1353.1 false s0_0 bt1350.2.1 bt1350.2.2)))) = some (r1, r2, r3) := H
 have A2 := Aside0.mk A20
 clear A20
 replace H := Option.bind_eq_some_iff.mp H
 obtain ⟨⟨t1350, t1351, t1352⟩, A30, H⟩ := H
 replace H : ((spec_TreeAt.f k t1344 t1345 t1350).bind fun bt1353 => (if bt1353.2 = true then ((spec_l1Cur_one.f s0_0 t1351 t1352 12).bind fun bt1357 => (spec_l1Cur_parents.j0 k bt1353.1 bt1357.1 s0_0 bt1357.2.1 bt1357.2.2)) else (spec_l1Cur_parents.j0 k bt1353.1 false s0_0 t1351 t1352))) = some (r1, r2, r3) := H
 have A3 := Aside0.mk A30
 clear A30
 replace H := Option.bind_eq_some_iff.mp H
 obtain ⟨⟨t1353, t1354⟩, A40, H⟩ := H
 replace H : (if t1354 = true then ((spec_l1Cur_one.f s0_0 t1351 t1352 12).bind fun bt1357 => (spec_l1Cur_parents.j0 k t1353 bt1357.1 s0_0 bt1357.2.1 bt1357.2.2)) else (spec_l1Cur_parents.j0 k t1353 false s0_0 t1351 t1352)) = some (r1, r2, r3) := H
 have A4 := Aside0.mk A40
 clear A40
 have HC5 := Aside0.mk H
 clear H
 go_enter Try.func96, Try.ntmps96
 go_upto_region 3 with (first | ((with_reducible refine gate_callee (f := 133) rfl ?_); refine goesL_ (some 9) rfl rfl Try.func133 (by kernel_rfl) rfl #[.pointer (some ⟨g, 0, none⟩)] rfl tm_ ?_; (with_reducible refine (spec_l1Cur_edges.calls k g s0_0 s0_1 s0_2 t1344 t1345 t1348 t1349 w0 _ ?side1 ?side2 A2.out).mono ?_); (case side1 => repeat (first | (with_reducible first | exact HI0.out | apply IsS105.alloc | apply IsS105.drewN | apply IsS105.drew | apply IsS105.set_1 | apply IsS105.set_2) | exact HI0.out)); (case side2 => repeat (first | (with_reducible first | exact HB.out | apply below_alloc | apply pw_below_drewN | apply below_drew1 | refine below_set ?_ (IsS105.ge HI0.out)) | exact HB.out)); rintro e w6 ⟨v1346, rfl, ho0, hi, hb, hk⟩; refine ⟨_, rfl, ?_⟩; have HO1347 := Aside0.mk (Kd.R_lower ho0 (keep_size (w := w) (g := g) (row := none) (by repeat (first | (with_reducible first | exact HK.out | apply KeepBut.set_ | apply keep_drewN | apply keep_drew | apply keep_alloc) | exact HK.out)))); replace HK := Aside0.mk (KeepBut.trans (by repeat (first | (with_reducible first | exact HK.out | apply KeepBut.set_ | apply keep_drewN | apply keep_drew | apply keep_alloc) | exact HK.out)) hk (.inl rfl)); replace HB := Aside0.mk (hb); replace HI0 := Aside0.mk (hi); clear hb hk hi ho0) | ((with_reducible refine gate_callee (f := 94) rfl ?_); refine goesL_ (some 17) rfl rfl Try.func94 (by kernel_rfl) rfl #[.pointer (some ⟨g, 0, none⟩), .int .i64 t1344] rfl tm_ ?_; (with_reducible refine (spec_l1Cur_pick.calls g s0_0 t1348 t1349 t1344 t1350 t1351 t1352 w0 _ ?side1 ?side2 A3.out).mono ?_); (case side1 => repeat (first | (with_reducible first | exact HI0.out | apply IsS105.alloc | apply IsS105.drewN | apply IsS105.drew | apply IsS105.set_1 | apply IsS105.set_2) | exact HI0.out)); (case side2 => repeat (first | (with_reducible first | exact HB.out | apply below_alloc | apply pw_below_drewN | apply below_drew1 | refine below_set ?_ (IsS105.ge HI0.out)) | exact HB.out)); rintro e w7 ⟨rfl, hi, hb, hk⟩; refine ⟨_, rfl, ?_⟩; replace HO1347 := Aside0.mk (Kd.R_mono (Kd.R_keep (IsS105.apart (show IsS105 w0 _ g s0_0 t1348 t1349 from by repeat (first | (with_reducible first | exact HI0.out | apply IsS105.alloc | apply IsS105.drewN | apply IsS105.drew | apply IsS105.set_1 | apply IsS105.set_2) | exact HI0.out)) (ra HO1347.out) (by decide)) hk (fun _ h => h.2)) (fun _ h => h.1)); replace HK := Aside0.mk (KeepBut.trans (by repeat (first | (with_reducible first | exact HK.out | apply KeepBut.set_ | apply keep_drewN | apply keep_drew | apply keep_alloc) | exact HK.out)) hk (.inl rfl)); replace HB := Aside0.mk (hb); replace HI0 := Aside0.mk (hi); clear hb hk hi; obtain ⟨Ao8, co8, eo8⟩ := Kd.R_slice HO1347.out; subst eo8) | ((with_reducible refine gate_callee (f := 134) rfl ?_); refine goesL_ (some 18) rfl rfl Try.func134 (by kernel_rfl) rfl #[.int .i64 t1344, .slice Ao8 t1345.length co8, .int .i64 t1350] rfl tm_ ?_; (with_reducible refine (spec_TreeAt.calls k t1344 _ _ t1345 t1350 t1353 t1354 _ ?side1 ?side2 A4.out).mono ?_); (case side1 => exact ca (Kd.R_reads' HO1347.out).2.2); (case side2 => exact (Kd.R_reads' HO1347.out).2.1); rintro e w9 ⟨v1355, rfl, ho0, hb⟩; refine ⟨_, rfl, ?_⟩; have HO1356 := Aside0.mk (Kd.R_lower ho0 (keep_size (w := w) (g := g) (row := none) (by repeat (first | (with_reducible first | exact HK.out | apply KeepBut.set_ | apply keep_drewN | apply keep_drew | apply keep_alloc) | exact HK.out)))); replace HO1347 := rb_ HO1347 hb; replace HK := Aside0.mk (KeepBut.trans (by repeat (first | (with_reducible first | exact HK.out | apply KeepBut.set_ | apply keep_drewN | apply keep_drew | apply keep_alloc) | exact HK.out)) (KeepBut.of_below hb g none) (.inl rfl)); replace HB := Aside0.mk (below_step (by repeat (first | (with_reducible first | exact HB.out | apply below_alloc | apply pw_below_drewN | apply below_drew1 | refine below_set ?_ (IsS105.ge HI0.out)) | exact HB.out)) hb); replace HI0 := Aside0.mk (IsS105.below (by repeat (first | (with_reducible first | exact HI0.out | apply IsS105.alloc | apply IsS105.drewN | apply IsS105.drew | apply IsS105.set_1 | apply IsS105.set_2) | exact HI0.out)) hb); clear hb ho0))
 (try simp only [Act.put, List.setIfInBounds_toArray, List.set_cons_zero, List.set_cons_succ])
 go_cut [25] (fun v25 wc => ∃ (kq : Nat) (x25_4 : Bool) (x1001_4 : Int) (x1002_4 : Int), v25 = .bool x25_4 ∧ Aside0 (spec_l1Cur_parents.j0 kq t1353 x25_4 s0_0 x1001_4 x1002_4 = some (r1, r2, r3)) ∧ Aside0 (kq ≤ k) ∧ Aside0 (Kd.R (Kd.int .i64) 3 wc w.heap.size (fun _ => True) v1355 t1353) ∧ Aside0 (IsS105 w0 wc g s0_0 x1001_4 x1002_4) ∧ Aside0 (KeepBut w wc g none) ∧ Aside0 (Below w0.heap.size w0 wc))
 case first =>
  have H := HC5.out
  clear HC5
  by_cases c10 : t1354 = true
  rotate_left
  ·replace c10 := Bool.eq_false_iff.mpr c10
   subst c10
   rw [if_neg (show ¬ (false = true) by decide)] at H
   have H' := Aside0.mk H
   clear H
   go_wp2
   go_meet
   case rel => exact ⟨_, (false), (t1351), (t1352), (by first | rfl | (simp; done) | (simp [*]; done)), H', ⟨by first | omega | exact Nat.le_refl _⟩, ⟨ra HO1356.out⟩, ⟨by repeat (first | (with_reducible first | exact HI0.out | apply IsS105.alloc | apply IsS105.drewN | apply IsS105.drew | apply IsS105.set_1 | apply IsS105.set_2) | exact HI0.out)⟩, ⟨by repeat (first | (with_reducible first | exact HK.out | apply KeepBut.set_ | apply keep_drewN | apply keep_drew | apply keep_alloc) | exact HK.out)⟩, ⟨by repeat (first | (with_reducible first | exact HB.out | apply below_alloc | apply pw_below_drewN | apply below_drew1 | refine below_set ?_ (IsS105.ge HI0.out)) | exact HB.out)⟩⟩
  subst c10
  rw [if_pos rfl] at H
  replace H := Option.bind_eq_some_iff.mp H
  obtain ⟨⟨t1357, t1358, t1359⟩, A110, H⟩ := H
  replace H : (spec_l1Cur_parents.j0 k t1353 t1357 s0_0 t1358 t1359) = some (r1, r2, r3) := H
  have A11 := Aside0.mk A110
  clear A110
  have H' := Aside0.mk H
  clear H
  go_wp2_with (first | (go_at_call 95; (with_reducible refine (spec_l1Cur_one.calls g s0_0 t1351 t1352 12 t1357 t1358 t1359 w0 _ ?side1 ?side2 A11.out).mono ?_); (case side1 => repeat (first | (with_reducible first | exact HI0.out | apply IsS105.alloc | apply IsS105.drewN | apply IsS105.drew | apply IsS105.set_1 | apply IsS105.set_2) | exact HI0.out)); (case side2 => repeat (first | (with_reducible first | exact HB.out | apply below_alloc | apply pw_below_drewN | apply below_drew1 | refine below_set ?_ (IsS105.ge HI0.out)) | exact HB.out)); rintro e w12 ⟨rfl, hi, hb, hk⟩; replace HO1347 := Aside0.mk (Kd.R_mono (Kd.R_keep (IsS105.apart (show IsS105 w0 _ g s0_0 t1351 t1352 from by repeat (first | (with_reducible first | exact HI0.out | apply IsS105.alloc | apply IsS105.drewN | apply IsS105.drew | apply IsS105.set_1 | apply IsS105.set_2) | exact HI0.out)) (ra HO1347.out) (by decide)) hk (fun _ h => h.2)) (fun _ h => h.1)); replace HO1356 := Aside0.mk (Kd.R_mono (Kd.R_keep (IsS105.apart (show IsS105 w0 _ g s0_0 t1351 t1352 from by repeat (first | (with_reducible first | exact HI0.out | apply IsS105.alloc | apply IsS105.drewN | apply IsS105.drew | apply IsS105.set_1 | apply IsS105.set_2) | exact HI0.out)) (ra HO1356.out) (by decide)) hk (fun _ h => h.2)) (fun _ h => h.1)); replace HK := Aside0.mk (KeepBut.trans (by repeat (first | (with_reducible first | exact HK.out | apply KeepBut.set_ | apply keep_drewN | apply keep_drew | apply keep_alloc) | exact HK.out)) hk (.inl rfl)); replace HB := Aside0.mk (hb); replace HI0 := Aside0.mk (hi); clear hb hk hi))
  go_meet
  case rel => exact ⟨_, (t1357), (t1358), (t1359), (by first | rfl | (simp; done) | (simp [*]; done)), H', ⟨by first | omega | exact Nat.le_refl _⟩, ⟨ra HO1356.out⟩, ⟨by repeat (first | (with_reducible first | exact HI0.out | apply IsS105.alloc | apply IsS105.drewN | apply IsS105.drew | apply IsS105.set_1 | apply IsS105.set_2) | exact HI0.out)⟩, ⟨by repeat (first | (with_reducible first | exact HK.out | apply KeepBut.set_ | apply keep_drewN | apply keep_drew | apply keep_alloc) | exact HK.out)⟩, ⟨by repeat (first | (with_reducible first | exact HB.out | apply below_alloc | apply pw_below_drewN | apply below_drew1 | refine below_set ?_ (IsS105.ge HI0.out)) | exact HB.out)⟩⟩
 case rest =>
  clear HC5
  obtain ⟨kq, x25_4, x1001_4, x1002_4, rfl, HA, HJ4, HO_5, HI0, HK, HB⟩ := hcut
  cases kq with
  | zero => exact absurd HA.out (by simp [spec_l1Cur_parents.j0])
  | succ kj4 =>
   have H := HA.out
   clear HA
   simp only [spec_l1Cur_parents.j0] at H
   by_cases c13 : x25_4 = true
   rotate_left
   ·replace c13 := Bool.eq_false_iff.mpr c13
    subst c13
    rw [if_neg (show ¬ (false = true) by decide)] at H
    simp only [Option.some.injEq, Prod.mk.injEq] at H
    obtain ⟨rfl, rfl, rfl⟩ := H
    go_wp2
    go_ret
    exact ⟨_, by first | rfl | (simp [errW_none, errW_some] <;> rfl) | (simp [*, errW_none, errW_some] <;> rfl), by (with_reducible repeat (first | apply Kd.R_alloc | apply Kd.R_drewN | apply Kd.R_drew)); exact HO_5.out, by repeat (first | (with_reducible first | exact HI0.out | apply IsS105.alloc | apply IsS105.drewN | apply IsS105.drew | apply IsS105.set_1 | apply IsS105.set_2) | exact HI0.out), by repeat (first | (with_reducible first | exact HB.out | apply below_alloc | apply pw_below_drewN | apply below_drew1 | refine below_set ?_ (IsS105.ge HI0.out)) | exact HB.out), by repeat (first | (with_reducible first | exact HK.out | apply KeepBut.set_ | apply keep_drewN | apply keep_drew | apply keep_alloc) | exact HK.out)⟩
   subst c13
   rw [if_pos rfl] at H
   replace H := Option.bind_eq_some_iff.mp H
   obtain ⟨⟨t1360, t1361, t1362⟩, A140, H⟩ := H
   replace H : ((spec_l1Cur_pick.f s0_0 t1361 t1362 9).bind fun bt1363 => (if 0 ≤ t1360 then (if t1360 < (t1353.length : Int) then (some ((t1353.set (t1360 : Int).toNat (wrap64 (bt1363.1 - 2))), bt1363.2.1, bt1363.2.2)) else (none)) else (none))) = some (r1, r2, r3) := H
   have A14 := Aside0.mk A140
   clear A140
   replace H := Option.bind_eq_some_iff.mp H
   obtain ⟨⟨t1363, t1364, t1365⟩, A150, H⟩ := H
   replace H : (if 0 ≤ t1360 then (if t1360 < (t1353.length : Int) then (some ((t1353.set (t1360 : Int).toNat (wrap64 (t1363 - 2))), t1364, t1365)) else (none)) else (none)) = some (r1, r2, r3) := H
   have A15 := Aside0.mk A150
   clear A150
   by_cases c16 : 0 ≤ t1360
   rotate_left
   ·rw [if_neg c16] at H
    exact absurd H (by simp)
   rw [if_pos c16] at H
   have c16b0 : decide (0 ≤ t1360) = true := decide_eq_true c16
   clear c16
   by_cases c17 : t1360 < (t1353.length : Int)
   rotate_left
   ·rw [if_neg c17] at H
    exact absurd H (by simp)
   rw [if_pos c17] at H
   have c17b0 : decide (t1360 < (t1353.length : Int)) = true := decide_eq_true c17
   clear c17
   obtain ⟨y1366, hy1366⟩ : ∃ y_ : List Int, y_ = (t1353.set (t1360 : Int).toNat (wrap64 (t1363 - 2))) := ⟨_, rfl⟩
   replace H : (some (y1366, t1364, t1365)) = some (r1, r2, r3) := by first | (rw [hy1366]; with_reducible exact H) | (have H2_ := (Option.bind_some _ _).symm.trans H; rw [hy1366]; with_reducible exact H2_) | (have H2_ := (Option.bind_some _ _).symm.trans H; with_reducible exact H2_) | with_reducible exact H | (rw [hy1366]; exact H) | exact H
   have Ny1366 := Aside0.mk hy1366
   clear hy1366
   simp only [Option.some.injEq, Prod.mk.injEq] at H
   obtain ⟨rfl, rfl, rfl⟩ := H
   obtain ⟨Ao19, co19, eo19⟩ := Kd.R_slice HO_5.out
   subst eo19
   go_wp2_with (first | ((with_reducible refine gate_callee (f := 94) rfl ?_); refine goesL_ (some 30) rfl rfl Try.func94 (by kernel_rfl) rfl #[.pointer (some ⟨g, 0, none⟩), .int .i64 (t1353.length : Int)] rfl tm_ ?_; (with_reducible refine (spec_l1Cur_pick.calls g s0_0 x1001_4 x1002_4 (t1353.length : Int) t1360 t1361 t1362 w0 _ ?side1 ?side2 A14.out).mono ?_); (case side1 => repeat (first | (with_reducible first | exact HI0.out | apply IsS105.alloc | apply IsS105.drewN | apply IsS105.drew | apply IsS105.set_1 | apply IsS105.set_2) | exact HI0.out)); (case side2 => repeat (first | (with_reducible first | exact HB.out | apply below_alloc | apply pw_below_drewN | apply below_drew1 | refine below_set ?_ (IsS105.ge HI0.out)) | exact HB.out)); rintro e w20 ⟨rfl, hi, hb, hk⟩; refine ⟨_, rfl, ?_⟩; replace HO_5 := Aside0.mk (Kd.R_mono (Kd.R_keep (IsS105.apart (show IsS105 w0 _ g s0_0 x1001_4 x1002_4 from by repeat (first | (with_reducible first | exact HI0.out | apply IsS105.alloc | apply IsS105.drewN | apply IsS105.drew | apply IsS105.set_1 | apply IsS105.set_2) | exact HI0.out)) (ra HO_5.out) (by decide)) hk (fun _ h => h.2)) (fun _ h => h.1)); replace HK := Aside0.mk (KeepBut.trans (by repeat (first | (with_reducible first | exact HK.out | apply KeepBut.set_ | apply keep_drewN | apply keep_drew | apply keep_alloc) | exact HK.out)) hk (.inl rfl)); replace HB := Aside0.mk (hb); replace HI0 := Aside0.mk (hi); clear hb hk hi) | ((with_reducible refine gate_callee (f := 94) rfl ?_); refine goesL_ (some 32) rfl rfl Try.func94 (by kernel_rfl) rfl #[.pointer (some ⟨g, 0, none⟩), .int .i64 9] rfl tm_ ?_; (with_reducible refine (spec_l1Cur_pick.calls g s0_0 t1361 t1362 9 t1363 t1364 t1365 w0 _ ?side1 ?side2 A15.out).mono ?_); (case side1 => repeat (first | (with_reducible first | exact HI0.out | apply IsS105.alloc | apply IsS105.drewN | apply IsS105.drew | apply IsS105.set_1 | apply IsS105.set_2) | exact HI0.out)); (case side2 => repeat (first | (with_reducible first | exact HB.out | apply below_alloc | apply pw_below_drewN | apply below_drew1 | refine below_set ?_ (IsS105.ge HI0.out)) | exact HB.out)); rintro e w21 ⟨rfl, hi, hb, hk⟩; refine ⟨_, rfl, ?_⟩; replace HO_5 := Aside0.mk (Kd.R_mono (Kd.R_keep (IsS105.apart (show IsS105 w0 _ g s0_0 t1361 t1362 from by repeat (first | (with_reducible first | exact HI0.out | apply IsS105.alloc | apply IsS105.drewN | apply IsS105.drew | apply IsS105.set_1 | apply IsS105.set_2) | exact HI0.out)) (ra HO_5.out) (by decide)) hk (fun _ h => h.2)) (fun _ h => h.1)); replace HK := Aside0.mk (KeepBut.trans (by repeat (first | (with_reducible first | exact HK.out | apply KeepBut.set_ | apply keep_drewN | apply keep_drew | apply keep_alloc) | exact HK.out)) hk (.inl rfl)); replace HB := Aside0.mk (hb); replace HI0 := Aside0.mk (hi); clear hb hk hi; have p18 : 0 ≤ (t1360 : Int) := of_decide_eq_true (by first | (with_reducible assumption) | assumption); have q18 : (t1360 : Int) < ((t1353.length : Int) : Int) := of_decide_eq_true (by first | (with_reducible assumption) | assumption); obtain ⟨go18, co18, eo18, gb18, gl18, cl18, HG18⟩ := Kd.R_form HO_5.out (by omega); (first | cases eo18 | (injection eo18 with ea_ en_ ec_; (first | subst ea_ | (injection ea_ with ea_; subst ea_)); subst ec_; clear en_)); have GB18 := Aside0.mk gb18; have GG18 := Aside0.mk HG18; clear gb18 gl18 HG18; obtain ⟨hx18_0, hf18_0⟩ := Kd.R_celln 0 HO_5.out (t1360 : Int) p18 q18; replace p18 := eq_true p18; replace q18 := eq_true q18; obtain ⟨hy22_, hz22_⟩ := Kd.R_celln 0 HO_5.out (t1360 : Int) (of_decide_eq_true (by first | (with_reducible assumption) | assumption)) (of_decide_eq_true (by first | (with_reducible assumption) | assumption)); have HP22 := Kd.R_putg HO_5.out (t1360 : Int) (wrap64 (t1363 - 2))) | ((with_reducible refine gate_store (t := 3) (p := 34) rfl ?_); refine store_event (t := 3) (p := 34) (v := ?vo_w23) (w1 := (w21.setCell ⟨go18, (t1360 : Int).toNat, none⟩ (.int .i64 (wrap64 (t1363 - 2))))) ?hg ?ho ?hn ?hr ?_; (case ho => rfl); (case hg => rfl); (case hn => rfl); (case hr => first | (go_simp; done) | (go_simp; rfl)); intro w23 hw; have hg : w21.grownBy w23 (some go18) := (by rw [hw]; exact HP22.2); have hp_ : Kd.R (Kd.int .i64) 3 w23 w.heap.size (fun _ => True) (.slice (some ⟨go18, 0, none⟩) t1353.length co19) y1366 := (by rw [hw, Ny1366.out]; exact HP22.1); clear HP22; replace HI0 := Aside0.mk (IsS105.grown (by repeat (first | (with_reducible first | exact HI0.out | apply IsS105.alloc | apply IsS105.drewN | apply IsS105.drew | apply IsS105.set_1 | apply IsS105.set_2) | exact HI0.out)) hg (IsS105.own_ne HI0.out HO_5.out (by decide))); replace HB := Aside0.mk ((by rw [hw]; exact below_set (HB.out) (Nat.le_trans HL.out GB18.out) : Below w0.heap.size w0 w23)); replace HK := Aside0.mk (KeepBut.trans (by repeat (first | (with_reducible first | exact HK.out | apply KeepBut.set_ | apply keep_drewN | apply keep_drew | apply keep_alloc) | exact HK.out)) (KeepBut.of_grown hg g) (Kd.R_base2 HO_5.out)); replace HO_5 := Aside0.mk (hp_); clear hg hw hp_))
   go_ret
   exact ⟨_, by first | rfl | (simp [errW_none, errW_some] <;> rfl) | (simp [*, errW_none, errW_some] <;> rfl), by (with_reducible repeat (first | apply Kd.R_alloc | apply Kd.R_drewN | apply Kd.R_drew)); exact HO_5.out, by repeat (first | (with_reducible first | exact HI0.out | apply IsS105.alloc | apply IsS105.drewN | apply IsS105.drew | apply IsS105.set_1 | apply IsS105.set_2) | exact HI0.out), by repeat (first | (with_reducible first | exact HB.out | apply below_alloc | apply pw_below_drewN | apply below_drew1 | refine below_set ?_ (IsS105.ge HI0.out)) | exact HB.out), by repeat (first | (with_reducible first | exact HK.out | apply KeepBut.set_ | apply keep_drewN | apply keep_drew | apply keep_alloc) | exact HK.out)⟩

def spec_DrawBehindOf.j0 : Nat → List Int → Int → List Int → Bool → List Int → Int → Int → Option (List Int × Int × Int)
 | 0, _, _, _, _, _, _, _ => none
 | k + 1, x6, x7, x8, x36, x1371000, x1371001, x1371002 => if x36 = true then ((spec_l1Cur_pick.f x1371000 x1371001 x1371002 (x8.length : Int)).bind fun bt1386 => (if 0 ≤ bt1386.1 then (if bt1386.1 < (x8.length : Int) then (some (x6, x7, rd x8 bt1386.1)) else (none)) else (none))) else ((spec_l1Cur_pick.f x1371000 x1371001 x1371002 9).bind fun bt1390 => (some (x6, x7, bt1390.1)))
def spec_DrawBehindOf.f (k : Nat) (l0 : List Int) : Option (List Int × Int × Int) := (slices_xorshift_Next.f l0).bind fun bt1367 => ((spec_l1Cur_parents.f k bt1367.1 bt1367.2.1 bt1367.2.2).bind fun bt1371 => ((spec_l1Cur_pick.f bt1367.1 bt1371.2.1 bt1371.2.2 (wrap64 ((bt1371.1.length : Int) + 1))).bind fun bt1376 => ((spec_BranchesAt.f k bt1371.1 bt1376.1).bind fun bt1379 => (if bt1379.2 = true then (if (bt1379.1.length : Int) > 0 then ((spec_l1Cur_one.f bt1367.1 bt1376.2.1 bt1376.2.2 6).bind fun bt1383 => (spec_DrawBehindOf.j0 k bt1371.1 bt1376.1 bt1379.1 (!bt1383.1) bt1367.1 bt1383.2.1 bt1383.2.2)) else (spec_DrawBehindOf.j0 k bt1371.1 bt1376.1 bt1379.1 false bt1367.1 bt1376.2.1 bt1376.2.2)) else (spec_DrawBehindOf.j0 k bt1371.1 bt1376.1 bt1379.1 false bt1367.1 bt1376.2.1 bt1376.2.2)))))
theorem spec_DrawBehindOf.mono_l : ∀ k, (∀ y0 y1 y2 y3 y4 y5 y6, LeO (spec_DrawBehindOf.j0 k y0 y1 y2 y3 y4 y5 y6) (spec_DrawBehindOf.j0 (k + 1) y0 y1 y2 y3 y4 y5 y6))
 | 0 => fun _ _ _ _ _ _ _ r h => by simp [spec_DrawBehindOf.j0] at h
 | k + 1 => by
  have ih0 := spec_DrawBehindOf.mono_l k
  ·intro y0 y1 y2 y3 y4 y5 y6
   unfold spec_DrawBehindOf.j0
   repeat' first
   | (with_reducible exact ih0 _ _ _ _ _ _ _)
   | (with_reducible exact spec_BranchesAt.mono _ _ _)
   | (with_reducible exact spec_l1Cur_parents.mono _ _ _ _)
   | (with_reducible exact LeO.refl _)
   | (with_reducible exact LeO.none _)
   | (with_reducible refine LeO.ite ?_ ?_)
   | (with_reducible refine LeO.bind ?_ (fun _ => ?_))
theorem spec_DrawBehindOf.mono : ∀ a0 k, LeO (spec_DrawBehindOf.f k a0) (spec_DrawBehindOf.f (k + 1) a0) := by
 intro a0 k
 have ih0 := spec_DrawBehindOf.mono_l k
 unfold spec_DrawBehindOf.f
 repeat' first
   | (with_reducible exact ih0 _ _ _ _ _ _ _)
   | (with_reducible exact spec_BranchesAt.mono _ _ _)
   | (with_reducible exact spec_l1Cur_parents.mono _ _ _ _)
   | (with_reducible exact LeO.refl _)
   | (with_reducible exact LeO.none _)
   | (with_reducible refine LeO.ite ?_ ?_)
   | (with_reducible refine LeO.bind ?_ (fun _ => ?_))
def spec_DrawBehindOf.T6 : Bool × List (List Nat × List Nat) := (true, [([], []), ([], []), ([], []), ([], []), ([], []), ([4], [4]), ([3, 5], [3, 5]), ([2, 6], [2, 6]), ([7], [7]), ([0, 6, 0], [0]), ([1, 9, 0, 1, 9], [1]), ([8, 10, 0, 1, 2, 3, 4, 5, 6, 7, 8, 9, 10], [8])])
def spec_DrawBehindOf.B6 : List Nat := [0, 0, 0, 0, 0, 16, 56, 124, 252, 121, 635, 2047]
theorem spec_DrawBehindOf.tab6 : rtab .any (opsOf Try.f39 6) = spec_DrawBehindOf.T6 := by kernel_rfl
theorem spec_DrawBehindOf.bits6 : waitsOk spec_DrawBehindOf.T6.2 spec_DrawBehindOf.B6 = true := by kernel_rfl
set_option maxHeartbeats 8000000 in
set_option maxRecDepth 100000 in
theorem spec_DrawBehindOf.calls (k : Nat) (A0 : Option Addr) (c0 : Nat) (l0 : List Int) (r1 : List Int) (r2 : Int) (r3 : Int) (w : World) (hr0 : Kd.C (Kd.int .u8) w A0 l0.length l0) (hc0 : l0.length ≤ c0) (h : spec_DrawBehindOf.f k l0 = some (r1, r2, r3)) :
  Calls Try.prog 39 #[.slice A0 l0.length c0] w fun e w' => ∃ v0_ : Value, e = .returned (.tuple #[v0_, .int .i64 r2, .int .i64 r3]) ∧ Kd.R (Kd.int .i64) 3 w' w.heap.size (fun _ => True) v0_ r1 ∧ Below w.heap.size w w' := by
 have HR0 := Aside0.mk hr0
 have HC0 := Aside0.mk hc0
 clear hr0 hc0
 have HB := Aside0.mk (Below.refl w.heap.size w)
 have H : ((slices_xorshift_Next.f l0).bind fun bt1367 => ((spec_l1Cur_parents.f k bt1367.1 bt1367.2.1 bt1367.2.2).bind fun bt1371 => ((spec_l1Cur_pick.f bt1367.1 bt1371.2.1 bt1371.2.2 (wrap64 ((bt1371.1.length : Int) + 1))).bind fun bt1376 => ((spec_BranchesAt.f k bt1371.1 bt1376.1).bind fun bt1379 => (if bt1379.2 = true then (if (bt1379.1.length : Int) > 0 then ((spec_l1Cur_one.f bt1367.1 bt1376.2.1 bt1376.2.2 6).bind fun bt1383 => (spec_DrawBehindOf.j0 k bt1371.1 bt1376.1 bt1379.1 (!bt1383.1) bt1367.1 bt1383.2.1 bt1383.2.2)) else (spec_DrawBehindOf.j0 k bt1371.1 bt1376.1 bt1379.1 false bt1367.1 bt1376.2.1 bt1376.2.2)) else (spec_DrawBehindOf.j0 k bt1371.1 bt1376.1 bt1379.1 false bt1367.1 bt1376.2.1 bt1376.2.2)))))) = some (r1, r2, r3) := h
 clear h
 replace H := Option.bind_eq_some_iff.mp H
 obtain ⟨⟨t1367, t1368, t1369⟩, A20, H⟩ := H
 replace H : ((spec_l1Cur_parents.f k t1367 t1368 t1369).bind fun bt1371 => ((spec_l1Cur_pick.f t1367 bt1371.2.1 bt1371.2.2 (wrap64 ((bt1371.1.length : Int) + 1))).bind fun bt1376 => ((spec_BranchesAt.f k bt1371.1 bt1376.1).bind fun bt1379 => (if bt1379.2 = true then (if (bt1379.1.length : Int) > 0 then ((spec_l1Cur_one.f t1367 bt1376.2.1 bt1376.2.2 6).bind fun bt1383 => (spec_DrawBehindOf.j0 k bt1371.1 bt1376.1 bt1379.1 (!bt1383.1) t1367 bt1383.2.1 bt1383.2.2)) else (spec_DrawBehindOf.j0 k bt1371.1 bt1376.1 bt1379.1 false t1367 bt1376.2.1 bt1376.2.2)) else (spec_DrawBehindOf.j0 k bt1371.1 bt1376.1 bt1379.1 false t1367 bt1376.2.1 bt1376.2.2))))) = some (r1, r2, r3) := H
 have DE_A2 : Aside0 (t1367 = l0 ∧ t1368 = 0 ∧ t1369 = 0) := ⟨by have h_ := A20; simp only [slices_xorshift_Next.f, Option.some.injEq, Prod.mk.injEq] at h_; exact ⟨h_.1.symm, h_.2.1.symm, h_.2.2.symm⟩⟩
 have A2 := Aside0.mk A20
 clear A20
 replace H := Option.bind_eq_some_iff.mp H
 obtain ⟨⟨t1371, t1374, t1375⟩, A30, H⟩ := H
 replace H : ((spec_l1Cur_pick.f t1367 t1374 t1375 (wrap64 ((t1371.length : Int) + 1))).bind fun bt1376 => ((spec_BranchesAt.f k t1371 bt1376.1).bind fun bt1379 => (if bt1379.2 = true then (if (bt1379.1.length : Int) > 0 then ((spec_l1Cur_one.f t1367 bt1376.2.1 bt1376.2.2 6).bind fun bt1383 => (spec_DrawBehindOf.j0 k t1371 bt1376.1 bt1379.1 (!bt1383.1) t1367 bt1383.2.1 bt1383.2.2)) else (spec_DrawBehindOf.j0 k t1371 bt1376.1 bt1379.1 false t1367 bt1376.2.1 bt1376.2.2)) else (spec_DrawBehindOf.j0 k t1371 bt1376.1 bt1379.1 false t1367 bt1376.2.1 bt1376.2.2)))) = some (r1, r2, r3) := H
 have A3 := Aside0.mk A30
 clear A30
 replace H := Option.bind_eq_some_iff.mp H
 obtain ⟨⟨t1376, t1377, t1378⟩, A40, H⟩ := H
 replace H : ((spec_BranchesAt.f k t1371 t1376).bind fun bt1379 => (if bt1379.2 = true then (if (bt1379.1.length : Int) > 0 then ((spec_l1Cur_one.f t1367 t1377 t1378 6).bind fun bt1383 => (spec_DrawBehindOf.j0 k t1371 t1376 bt1379.1 (!bt1383.1) t1367 bt1383.2.1 bt1383.2.2)) else (spec_DrawBehindOf.j0 k t1371 t1376 bt1379.1 false t1367 t1377 t1378)) else (spec_DrawBehindOf.j0 k t1371 t1376 bt1379.1 false t1367 t1377 t1378))) = some (r1, r2, r3) := H
 have A4 := Aside0.mk A40
 clear A40
 replace H := Option.bind_eq_some_iff.mp H
 obtain ⟨⟨t1379, t1382⟩, A50, H⟩ := H
 replace H : (if t1382 = true then (if (t1379.length : Int) > 0 then ((spec_l1Cur_one.f t1367 t1377 t1378 6).bind fun bt1383 => (spec_DrawBehindOf.j0 k t1371 t1376 t1379 (!bt1383.1) t1367 bt1383.2.1 bt1383.2.2)) else (spec_DrawBehindOf.j0 k t1371 t1376 t1379 false t1367 t1377 t1378)) else (spec_DrawBehindOf.j0 k t1371 t1376 t1379 false t1367 t1377 t1378)) = some (r1, r2, r3) := H
 have A5 := Aside0.mk A50
 clear A50
 have HC6 := Aside0.mk H
 clear H
 go_enter Try.func39, Try.ntmps39
 go_upto_region 5 with (first | ((with_reducible refine gate_dst (N := 12) rfl ?_); refine box_event ?hg (N := 12) ?hd (cs := #[.slice A0 l0.length c0, .int .i64 0, .int .u64 0]) (t := 105) ?hr ?_; (case hd => rfl); (case hg => rfl); (case hr => first | (go_simp; done) | (go_simp; rfl)); intro g1370 hg w7 hbox hb2; have hi : IsS105 w w7 g1370 t1367 t1368 t1369 := (by rw [DE_A2.out.1, DE_A2.out.2.1, DE_A2.out.2.2]; exact ⟨_, _, hbox, (gw_ hg HB).out, HR0.out⟩); have hb := (bst_ HB hb2).out; clear hg hbox; have HI1370 := Aside0.mk (hi); replace HB := Aside0.mk (hb); clear hb hb2 hi) | ((with_reducible refine gate_callee (f := 96) rfl ?_); refine goesL_ (some 14) rfl rfl Try.func96 (by kernel_rfl) rfl #[.pointer (some ⟨g1370, 0, none⟩)] rfl tm_ ?_; (with_reducible refine (spec_l1Cur_parents.calls k g1370 t1367 t1368 t1369 t1371 t1374 t1375 w _ ?side1 ?side2 A3.out).mono ?_); (case side1 => repeat (first | (with_reducible first | exact HI1370.out | apply IsS105.alloc | apply IsS105.drewN | apply IsS105.drew | apply IsS105.set_1 | apply IsS105.set_2) | exact HI1370.out)); (case side2 => repeat (first | (with_reducible first | exact HB.out | apply below_alloc | apply pw_below_drewN | apply below_drew1 | refine below_set ?_ (IsS105.ge HI1370.out)) | exact HB.out)); rintro e w8 ⟨v1372, rfl, ho0, hi, hb, hk⟩; refine ⟨_, rfl, ?_⟩; have HO1373 := Aside0.mk (Kd.R_lower ho0 (below_size (by repeat (first | (with_reducible first | exact HB.out | apply below_alloc | apply pw_below_drewN | apply below_drew1 | refine below_set ?_ (IsS105.ge HI1370.out)) | exact HB.out)))); replace HB := Aside0.mk (hb); replace HI1370 := Aside0.mk (hi); clear hb hk hi ho0; obtain ⟨Ao9, co9, eo9⟩ := Kd.R_slice HO1373.out; subst eo9) | ((with_reducible refine gate_callee (f := 94) rfl ?_); refine goesL_ (some 19) rfl rfl Try.func94 (by kernel_rfl) rfl #[.pointer (some ⟨g1370, 0, none⟩), .int .i64 (wrap64 ((t1371.length : Int) + 1))] rfl tm_ ?_; (with_reducible refine (spec_l1Cur_pick.calls g1370 t1367 t1374 t1375 (wrap64 ((t1371.length : Int) + 1)) t1376 t1377 t1378 w _ ?side1 ?side2 A4.out).mono ?_); (case side1 => repeat (first | (with_reducible first | exact HI1370.out | apply IsS105.alloc | apply IsS105.drewN | apply IsS105.drew | apply IsS105.set_1 | apply IsS105.set_2) | exact HI1370.out)); (case side2 => repeat (first | (with_reducible first | exact HB.out | apply below_alloc | apply pw_below_drewN | apply below_drew1 | refine below_set ?_ (IsS105.ge HI1370.out)) | exact HB.out)); rintro e w10 ⟨rfl, hi, hb, hk⟩; refine ⟨_, rfl, ?_⟩; replace HO1373 := Aside0.mk (Kd.R_mono (Kd.R_keep (IsS105.apart (show IsS105 w _ g1370 t1367 t1374 t1375 from by repeat (first | (with_reducible first | exact HI1370.out | apply IsS105.alloc | apply IsS105.drewN | apply IsS105.drew | apply IsS105.set_1 | apply IsS105.set_2) | exact HI1370.out)) (ra HO1373.out) (by decide)) hk (fun _ h => h.2)) (fun _ h => h.1)); replace HB := Aside0.mk (hb); replace HI1370 := Aside0.mk (hi); clear hb hk hi) | ((with_reducible refine gate_callee (f := 46) rfl ?_); refine goesL_ (some 23) rfl rfl Try.func46 (by kernel_rfl) rfl #[.slice Ao9 t1371.length co9, .int .i64 t1376] rfl tm_ ?_; (with_reducible refine (spec_BranchesAt.calls k _ _ t1371 t1376 t1379 t1382 _ ?side1 ?side2 A5.out).mono ?_); (case side1 => exact ca (Kd.R_reads' HO1373.out).2.2); (case side2 => exact (Kd.R_reads' HO1373.out).2.1); rintro e w11 ⟨v1380, rfl, ho0, hb⟩; refine ⟨_, rfl, ?_⟩; have HO1381 := Aside0.mk (Kd.V_lower (Kd.V_mono (ok' := fun k_ => no_ (.slice Ao9 t1371.length co9) k_ ∧ k_ ≠ g1370) ho0 (fun k_ hk_ => ⟨(Kd.fresh' (rl_ HO1373) k_ hk_), (IsS105.fresh (by repeat (first | (with_reducible first | exact HI1370.out | apply IsS105.alloc | apply IsS105.drewN | apply IsS105.drew | apply IsS105.set_1 | apply IsS105.set_2) | exact HI1370.out)) k_ hk_)⟩)) (below_size (by repeat (first | (with_reducible first | exact HB.out | apply below_alloc | apply pw_below_drewN | apply below_drew1 | refine below_set ?_ (IsS105.ge HI1370.out)) | exact HB.out)))); replace HO1373 := rb_ HO1373 hb; replace HB := Aside0.mk (below_step (by repeat (first | (with_reducible first | exact HB.out | apply below_alloc | apply pw_below_drewN | apply below_drew1 | refine below_set ?_ (IsS105.ge HI1370.out)) | exact HB.out)) hb); replace HI1370 := Aside0.mk (IsS105.below (by repeat (first | (with_reducible first | exact HI1370.out | apply IsS105.alloc | apply IsS105.drewN | apply IsS105.drew | apply IsS105.set_1 | apply IsS105.set_2) | exact HI1370.out)) hb); clear hb ho0))
 (try simp only [Act.put, List.setIfInBounds_toArray, List.set_cons_zero, List.set_cons_succ])
 go_cut [36] (fun v36 wc => ∃ (kq : Nat) (x36_5 : Bool) (x1371001_5 : Int) (x1371002_5 : Int), v36 = .bool x36_5 ∧ Aside0 (spec_DrawBehindOf.j0 kq t1371 t1376 t1379 x36_5 t1367 x1371001_5 x1371002_5 = some (r1, r2, r3)) ∧ Aside0 (kq ≤ k) ∧ Aside0 (Kd.R (Kd.int .i64) 3 wc w.heap.size (fun _ => True) (.slice Ao9 t1371.length co9) t1371) ∧ Aside0 (Kd.V (Kd.int .i64) 3 wc w.heap.size (fun k_ => no_ (.slice Ao9 t1371.length co9) k_ ∧ k_ ≠ g1370) v1380 t1379) ∧ Aside0 (IsS105 w wc g1370 t1367 x1371001_5 x1371002_5) ∧ Aside0 (Below w.heap.size w wc))
 case first =>
  have H := HC6.out
  clear HC6
  by_cases c12 : t1382 = true
  rotate_left
  ·replace c12 := Bool.eq_false_iff.mpr c12
   subst c12
   rw [if_neg (show ¬ (false = true) by decide)] at H
   have H' := Aside0.mk H
   clear H
   go_wp2
   go_meet
   case rel => exact ⟨_, (false), (t1377), (t1378), (by first | rfl | (simp; done) | (simp [*]; done)), H', ⟨by first | omega | exact Nat.le_refl _⟩, ⟨ra HO1373.out⟩, ⟨by (with_reducible repeat (first | apply Kd.V_alloc | apply Kd.V_drewN | apply Kd.V_drew)); exact HO1381.out⟩, ⟨by repeat (first | (with_reducible first | exact HI1370.out | apply IsS105.alloc | apply IsS105.drewN | apply IsS105.drew | apply IsS105.set_1 | apply IsS105.set_2) | exact HI1370.out)⟩, ⟨by repeat (first | (with_reducible first | exact HB.out | apply below_alloc | apply pw_below_drewN | apply below_drew1 | refine below_set ?_ (IsS105.ge HI1370.out)) | exact HB.out)⟩⟩
  subst c12
  rw [if_pos rfl] at H
  by_cases c13 : (t1379.length : Int) > 0
  rotate_left
  ·rw [if_neg c13] at H
   have c13b0 : decide (0 < (t1379.length : Int)) = false := decide_eq_false c13
   have c13b1 : decide (0 < t1379.length) = false := decide_eq_false (by omega)
   clear c13
   (first | rw [c13b0] | (simp only [i64_w, i32_w]; rw [c13b0]) | skip)
   have H' := Aside0.mk H
   clear H
   obtain ⟨Ao17, co17, eo17⟩ := Kd.V_slice HO1381.out
   subst eo17
   go_wp2
   go_meet
   case rel => exact ⟨_, (false), (t1377), (t1378), (by first | rfl | (simp; done) | (simp [*]; done)), H', ⟨by first | omega | exact Nat.le_refl _⟩, ⟨ra HO1373.out⟩, ⟨by (with_reducible repeat (first | apply Kd.V_alloc | apply Kd.V_drewN | apply Kd.V_drew)); exact HO1381.out⟩, ⟨by repeat (first | (with_reducible first | exact HI1370.out | apply IsS105.alloc | apply IsS105.drewN | apply IsS105.drew | apply IsS105.set_1 | apply IsS105.set_2) | exact HI1370.out)⟩, ⟨by repeat (first | (with_reducible first | exact HB.out | apply below_alloc | apply pw_below_drewN | apply below_drew1 | refine below_set ?_ (IsS105.ge HI1370.out)) | exact HB.out)⟩⟩
  rw [if_pos c13] at H
  have c13b0 : decide (0 < (t1379.length : Int)) = true := decide_eq_true c13
  have c13b1 : decide (0 < t1379.length) = true := decide_eq_true (by omega)
  clear c13
  (first | rw [c13b0] | (simp only [i64_w, i32_w]; rw [c13b0]) | skip)
  replace H := Option.bind_eq_some_iff.mp H
  obtain ⟨⟨t1383, t1384, t1385⟩, A140, H⟩ := H
  replace H : (spec_DrawBehindOf.j0 k t1371 t1376 t1379 (!t1383) t1367 t1384 t1385) = some (r1, r2, r3) := H
  have A14 := Aside0.mk A140
  clear A140
  have H' := Aside0.mk H
  clear H
  obtain ⟨Ao15, co15, eo15⟩ := Kd.V_slice HO1381.out
  subst eo15
  go_wp2_with (first | (go_at_call 95; (with_reducible refine (spec_l1Cur_one.calls g1370 t1367 t1377 t1378 6 t1383 t1384 t1385 w _ ?side1 ?side2 A14.out).mono ?_); (case side1 => repeat (first | (with_reducible first | exact HI1370.out | apply IsS105.alloc | apply IsS105.drewN | apply IsS105.drew | apply IsS105.set_1 | apply IsS105.set_2) | exact HI1370.out)); (case side2 => repeat (first | (with_reducible first | exact HB.out | apply below_alloc | apply pw_below_drewN | apply below_drew1 | refine below_set ?_ (IsS105.ge HI1370.out)) | exact HB.out)); rintro e w16 ⟨rfl, hi, hb, hk⟩; replace HO1373 := Aside0.mk (Kd.R_mono (Kd.R_keep (IsS105.apart (show IsS105 w _ g1370 t1367 t1377 t1378 from by repeat (first | (with_reducible first | exact HI1370.out | apply IsS105.alloc | apply IsS105.drewN | apply IsS105.drew | apply IsS105.set_1 | apply IsS105.set_2) | exact HI1370.out)) (ra HO1373.out) (by decide)) hk (fun _ h => h.2)) (fun _ h => h.1)); replace HO1381 := Aside0.mk (Kd.V_mono (Kd.V_keep (Kd.V_mono (ok := fun k_ => (no_ (.slice Ao9 t1371.length co9) k_ ∧ k_ ≠ g1370)) (by (with_reducible repeat (first | apply Kd.V_alloc | apply Kd.V_drewN | apply Kd.V_drew)); exact HO1381.out) (fun k_ hk_ => (⟨hk_, hk_.2⟩ : _ ∧ k_ ≠ g1370))) hk (fun _ h => h.2)) (fun _ h => h.1)); replace HB := Aside0.mk (hb); replace HI1370 := Aside0.mk (hi); clear hb hk hi))
  go_meet
  case rel => exact ⟨_, (!t1383), (t1384), (t1385), (by first | rfl | (simp; done) | (simp [*]; done)), H', ⟨by first | omega | exact Nat.le_refl _⟩, ⟨ra HO1373.out⟩, ⟨by (with_reducible repeat (first | apply Kd.V_alloc | apply Kd.V_drewN | apply Kd.V_drew)); exact HO1381.out⟩, ⟨by repeat (first | (with_reducible first | exact HI1370.out | apply IsS105.alloc | apply IsS105.drewN | apply IsS105.drew | apply IsS105.set_1 | apply IsS105.set_2) | exact HI1370.out)⟩, ⟨by repeat (first | (with_reducible first | exact HB.out | apply below_alloc | apply pw_below_drewN | apply below_drew1 | refine below_set ?_ (IsS105.ge HI1370.out)) | exact HB.out)⟩⟩
 case rest =>
  clear HC6
  obtain ⟨kq, x36_5, x1371001_5, x1371002_5, rfl, HA, HJ5, HO_6, HO_8, HI1370, HB⟩ := hcut
  cases kq with
  | zero => exact absurd HA.out (by simp [spec_DrawBehindOf.j0])
  | succ kj5 =>
   have H := HA.out
   clear HA
   simp only [spec_DrawBehindOf.j0] at H
   by_cases c18 : x36_5 = true
   rotate_left
   ·replace c18 := Bool.eq_false_iff.mpr c18
    subst c18
    rw [if_neg (show ¬ (false = true) by decide)] at H
    replace H := Option.bind_eq_some_iff.mp H
    obtain ⟨⟨t1390, t1391, t1392⟩, A250, H⟩ := H
    replace H : (some (t1371, t1376, t1390)) = some (r1, r2, r3) := H
    have A25 := Aside0.mk A250
    clear A250
    simp only [Option.some.injEq, Prod.mk.injEq] at H
    obtain ⟨rfl, rfl, rfl⟩ := H
    go_wp2_with (first | ((with_reducible refine gate_callee (f := 94) rfl ?_); refine goesL_ (some 49) rfl rfl Try.func94 (by kernel_rfl) rfl #[.pointer (some ⟨g1370, 0, none⟩), .int .i64 9] rfl tm_ ?_; (with_reducible refine (spec_l1Cur_pick.calls g1370 t1367 x1371001_5 x1371002_5 9 t1390 t1391 t1392 w _ ?side1 ?side2 A25.out).mono ?_); (case side1 => repeat (first | (with_reducible first | exact HI1370.out | apply IsS105.alloc | apply IsS105.drewN | apply IsS105.drew | apply IsS105.set_1 | apply IsS105.set_2) | exact HI1370.out)); (case side2 => repeat (first | (with_reducible first | exact HB.out | apply below_alloc | apply pw_below_drewN | apply below_drew1 | refine below_set ?_ (IsS105.ge HI1370.out)) | exact HB.out)); rintro e w26 ⟨rfl, hi, hb, hk⟩; refine ⟨_, rfl, ?_⟩; replace HO_6 := Aside0.mk (Kd.R_mono (Kd.R_keep (IsS105.apart (show IsS105 w _ g1370 t1367 x1371001_5 x1371002_5 from by repeat (first | (with_reducible first | exact HI1370.out | apply IsS105.alloc | apply IsS105.drewN | apply IsS105.drew | apply IsS105.set_1 | apply IsS105.set_2) | exact HI1370.out)) (ra HO_6.out) (by decide)) hk (fun _ h => h.2)) (fun _ h => h.1)); replace HO_8 := Aside0.mk (Kd.V_mono (Kd.V_keep (Kd.V_mono (ok := fun k_ => (no_ (.slice Ao9 t1371.length co9) k_ ∧ k_ ≠ g1370)) (by (with_reducible repeat (first | apply Kd.V_alloc | apply Kd.V_drewN | apply Kd.V_drew)); exact HO_8.out) (fun k_ hk_ => (⟨hk_, hk_.2⟩ : _ ∧ k_ ≠ g1370))) hk (fun _ h => h.2)) (fun _ h => h.1)); replace HB := Aside0.mk (hb); replace HI1370 := Aside0.mk (hi); clear hb hk hi))
    go_ret3
    exact ⟨_, by first | rfl | (simp [errW_none, errW_some] <;> rfl) | (simp [*, errW_none, errW_some] <;> rfl), by (with_reducible repeat (first | apply Kd.R_alloc | apply Kd.R_drewN | apply Kd.R_drew)); exact HO_6.out, by repeat (first | (with_reducible first | exact HB.out | apply below_alloc | apply pw_below_drewN | apply below_drew1 | refine below_set ?_ (IsS105.ge HI1370.out)) | exact HB.out)⟩
   subst c18
   rw [if_pos rfl] at H
   replace H := Option.bind_eq_some_iff.mp H
   obtain ⟨⟨t1386, t1387, t1388⟩, A190, H⟩ := H
   replace H : (if 0 ≤ t1386 then (if t1386 < (t1379.length : Int) then (some (t1371, t1376, rd t1379 t1386)) else (none)) else (none)) = some (r1, r2, r3) := H
   have A19 := Aside0.mk A190
   clear A190
   by_cases c20 : 0 ≤ t1386
   rotate_left
   ·rw [if_neg c20] at H
    exact absurd H (by simp)
   rw [if_pos c20] at H
   have c20b0 : decide (0 ≤ t1386) = true := decide_eq_true c20
   clear c20
   by_cases c21 : t1386 < (t1379.length : Int)
   rotate_left
   ·rw [if_neg c21] at H
    exact absurd H (by simp)
   rw [if_pos c21] at H
   have c21b0 : decide (t1386 < (t1379.length : Int)) = true := decide_eq_true c21
   clear c21
   simp only [Option.some.injEq, Prod.mk.injEq] at H
   obtain ⟨rfl, rfl, rfl⟩ := H
   try go_wp2
   replace HO_6 := rd_ HO_6
   replace HO_8 := Aside0.mk (Kd.V_drew HO_8.out)
   replace HI1370 := Aside0.mk (IsS105.drew HI1370.out)
   replace HB := Aside0.mk (below_drew1 HB.out)
   obtain ⟨Ao23, co23, eo23⟩ := Kd.V_slice HO_8.out
   subst eo23
   have p1389 : 0 ≤ (t1386 : Int) := of_decide_eq_true (by first | (with_reducible assumption) | assumption)
   have q1389 : t1386 < (t1379.length : Int) := of_decide_eq_true (by first | (with_reducible assumption) | assumption)
   obtain ⟨ad1389, e1389, hx1389_0⟩ := Kd.at_int (Kd.V_reads' HO_8.out).2.2 t1386 p1389 q1389
   cases e1389
   replace p1389 := eq_true p1389
   replace q1389 := eq_true q1389
   refine start_ (n := 12) (S := fun w' => w'.cell? (ad1389.add (t1386).toNat) = some (.int .i64 (rd t1379 t1386))) (ds := []) (bs 12 0) (by kernel_rfl) rfl rfl (hx1389_0) (fun hHeld => ?_); refine with_tabW spec_DrawBehindOf.tab6 spec_DrawBehindOf.bits6 (fun HT_ HW_ => ?_)
   generalize wc.drew = w22 at HO_6 HO_8 HI1370 HB hx1389_0 hHeld ⊢
   refine pu_ 0 37 (bs 12 1) HT_ ?_
   refine pu_ 1 38 (bs 12 3) HT_ ?_
   refine pu_ 2 39 (bs 12 7) HT_ ?_
   refine pu_ 3 40 (bs 12 15) HT_ ?_
   refine pu_ 4 41 (bs 12 31) HT_ ?_
   refine pu_ 5 42 (bs 12 63) HT_ ?_
   refine one_ (i := 6) (N := some 43) (bs 12 127) rfl rfl (one_of HT_.out (by kernel_rfl)) (by decide) (fun K hK => ?_)
   refine goes_ Try.func94 (by kernel_rfl) rfl #[.pointer (some ⟨g1370, 0, none⟩), .int .i64 (t1379.length : Int)] (by rfl) rfl rfl tm_ ?_
   with_reducible refine (spec_l1Cur_pick.calls g1370 t1367 x1371001_5 x1371002_5 (t1379.length : Int) t1386 t1387 t1388 w _ ?side1 ?side2 A19.out).mono ?_
   (case side1 => repeat (first | (with_reducible first | exact HI1370.out | apply IsS105.alloc | apply IsS105.drewN | apply IsS105.drew | apply IsS105.set_1 | apply IsS105.set_2) | exact HI1370.out))
   (case side2 => repeat (first | (with_reducible first | exact HB.out | apply below_alloc | apply pw_below_drewN | apply below_drew1 | refine below_set ?_ (IsS105.ge HI1370.out)) | exact HB.out))
   rintro e w24 ⟨rfl, hi, hb, hk⟩
   have hv_ := Kd.V_keep HO_8.out hk (fun _ h => h.2); obtain ⟨ad_, e_, HS0_⟩ := Kd.at_int (Kd.V_reads' hv_).2.2 t1386 (of_eq_true p1389) (of_eq_true q1389); obtain rfl : ad1389 = ad_ := (by injection e_); clear hv_ e_
   refine ⟨_, rfl, ?_⟩
   replace HO_6 := Aside0.mk (Kd.R_mono (Kd.R_keep (IsS105.apart (show IsS105 w _ g1370 t1367 x1371001_5 x1371002_5 from by repeat (first | (with_reducible first | exact HI1370.out | apply IsS105.alloc | apply IsS105.drewN | apply IsS105.drew | apply IsS105.set_1 | apply IsS105.set_2) | exact HI1370.out)) (ra HO_6.out) (by decide)) hk (fun _ h => h.2)) (fun _ h => h.1))
   replace HO_8 := Aside0.mk (Kd.V_mono (Kd.V_keep (Kd.V_mono (ok := fun k_ => (no_ (.slice Ao9 t1371.length co9) k_ ∧ k_ ≠ g1370)) (by (with_reducible repeat (first | apply Kd.V_alloc | apply Kd.V_drewN | apply Kd.V_drew)); exact HO_8.out) (fun k_ hk_ => (⟨hk_, hk_.2⟩ : _ ∧ k_ ≠ g1370))) hk (fun _ h => h.2)) (fun _ h => h.1))
   replace HB := Aside0.mk (hb)
   replace HI1370 := Aside0.mk (hi)
   clear hb hk hi
   refine hK.out _ _ (HS0_) (fun hHeld => ?_)
   clear hK K
   refine nm_ 43 ?_
   refine pu_ 7 44 (bs 12 255) HT_ ?_
   refine pu_ 9 2 (bs 12 767) HT_ ?_
   refine pu_ 10 3 (bs 12 1791) HT_ ?_
   refine take_ (i := 8) (N := some 45) (v := ?_) (a' := ?_) (bs 12 2047) rfl rfl (take_ofW HT_.out HW_.out (by kernel_rfl)) (fun _ _ _ h => h) (Or.inl ⟨by rfl, ?_⟩) hHeld ?_ ?_
   rotate_left
   ·intro w' s0
    go_simp
    with_reducible rfl
   rotate_left
   ·simp only [Act.put, List.setIfInBounds_toArray, List.set_cons_zero, List.set_cons_succ, i64_w, i32_w]
    rfl
   refine pu_ 11 4 (bs 12 4095) HT_ ?_
   refine done_ (done_of HT_.out (by kernel_rfl)) ?_
   try go_wp2
   go_ret3
   exact ⟨_, by first | rfl | (simp [errW_none, errW_some] <;> rfl) | (simp [*, errW_none, errW_some] <;> rfl), by (with_reducible repeat (first | apply Kd.R_alloc | apply Kd.R_drewN | apply Kd.R_drew)); exact HO_6.out, by repeat (first | (with_reducible first | exact HB.out | apply below_alloc | apply pw_below_drewN | apply below_drew1 | refine below_set ?_ (IsS105.ge HI1370.out)) | exact HB.out)⟩

def impl_BehindOf.f (k : Nat) (l0 : List Int) (a1 : Int) (a2 : Int) : Option (List Int × Bool) := (impl_goodTree.f k l0 (([a1, a2] : List Int))).bind fun t1396 => (if t1396 = true then ((impl_branches.f k l0 a1).bind fun t1397 => ((slices_Contains_int_int.f k t1397 a2).bind fun t1400 => (if t1400 = true then ((impl_behind.f k l0 a1 a2).bind fun t1401 => (some (t1401, true))) else (some (([] : List Int), false))))) else (some (([] : List Int), false)))
theorem impl_BehindOf.mono : ∀ a0 a1 a2 k, LeO (impl_BehindOf.f k a0 a1 a2) (impl_BehindOf.f (k + 1) a0 a1 a2) := by
 intro a0 a1 a2 k
 unfold impl_BehindOf.f
 repeat' first
   | (with_reducible exact impl_behind.mono _ _ _ _)
   | (with_reducible exact impl_branches.mono _ _ _)
   | (with_reducible exact impl_goodTree.mono _ _ _)
   | (with_reducible exact slices_Contains_int_int.mono _ _ _)
   | (with_reducible exact LeO.refl _)
   | (with_reducible exact LeO.none _)
   | (with_reducible refine LeO.ite ?_ ?_)
   | (with_reducible refine LeO.bind ?_ (fun _ => ?_))
set_option maxHeartbeats 8000000 in
set_option maxRecDepth 100000 in
theorem impl_BehindOf.calls (k : Nat) (A0 : Option Addr) (c0 : Nat) (l0 : List Int) (a1 : Int) (a2 : Int) (r1 : List Int) (r2 : Bool) (w : World) (hr0 : Kd.C (Kd.int .i64) w A0 l0.length l0) (hc0 : l0.length ≤ c0) (h : impl_BehindOf.f k l0 a1 a2 = some (r1, r2)) :
  Calls Try.prog 40 #[.slice A0 l0.length c0, .int .i64 a1, .int .i64 a2] w fun e w' => ∃ v0_ : Value, e = .returned (.tuple #[v0_, .bool r2]) ∧ Kd.R (Kd.int .i64) 3 w' w.heap.size (fun _ => True) v0_ r1 ∧ Below w.heap.size w w' := by
 have HR0 := Aside0.mk hr0
 have HC0 := Aside0.mk hc0
 clear hr0 hc0
 have HB := Aside0.mk (Below.refl w.heap.size w)
 have H : ((impl_goodTree.f k l0 (([a1, a2] : List Int))).bind fun t1396 => (if t1396 = true then ((impl_branches.f k l0 a1).bind fun t1397 => ((slices_Contains_int_int.f k t1397 a2).bind fun t1400 => (if t1400 = true then ((impl_behind.f k l0 a1 a2).bind fun t1401 => (some (t1401, true))) else (some (([] : List Int), false))))) else (some (([] : List Int), false)))) = some (r1, r2) := h
 clear h
 obtain ⟨y1393, hy1393⟩ : ∃ y_ : List Int, y_ = (([a1, a2] : List Int)) := ⟨_, rfl⟩
 replace H : ((impl_goodTree.f k l0 y1393).bind fun t1396 => (if t1396 = true then ((impl_branches.f k l0 a1).bind fun t1397 => ((slices_Contains_int_int.f k t1397 a2).bind fun t1400 => (if t1400 = true then ((impl_behind.f k l0 a1 a2).bind fun t1401 => (some (t1401, true))) else (some (([] : List Int), false))))) else (some (([] : List Int), false)))) = some (r1, r2) := by first | (rw [hy1393]; with_reducible exact H) | (have H2_ := (Option.bind_some _ _).symm.trans H; rw [hy1393]; with_reducible exact H2_) | (have H2_ := (Option.bind_some _ _).symm.trans H; with_reducible exact H2_) | with_reducible exact H | (rw [hy1393]; exact H) | exact H
 have Ny1393 := Aside0.mk hy1393
 clear hy1393
 replace H := Option.bind_eq_some_iff.mp H
 obtain ⟨t1396, A40, H⟩ := H
 replace H : (if t1396 = true then ((impl_branches.f k l0 a1).bind fun t1397 => ((slices_Contains_int_int.f k t1397 a2).bind fun t1400 => (if t1400 = true then ((impl_behind.f k l0 a1 a2).bind fun t1401 => (some (t1401, true))) else (some (([] : List Int), false))))) else (some (([] : List Int), false))) = some (r1, r2) := H
 have A4 := Aside0.mk A40
 clear A40
 by_cases c5 : t1396 = true
 rotate_left
 ·replace c5 := Bool.eq_false_iff.mpr c5
  subst c5
  rw [if_neg (show ¬ (false = true) by decide)] at H
  simp only [Option.some.injEq, Prod.mk.injEq] at H
  obtain ⟨rfl, rfl⟩ := H
  go_enter Try.func40, Try.ntmps40
  go_wp2_with (first | ((with_reducible refine gate_dst (N := 11) rfl ?_); refine Kd.R_lit (Kd.int .i64) _ 3 ?hg (N := 11) ?hd (xs := ([a1, a2] : List Int)) (inner := [.int .i64 a1, .int .i64 a2]) (ok := fun _ => True) (okp := fun _ => True) ?hr ?hp (fun _ hk => hk) trivial (Below.refl _ _) (Nat.le_refl _) (by simp) ?_; (case hd => rfl); (case hg => rfl); (case hr => first | (go_simp; done) | (go_simp; rfl)); (case hp => exact (Reps.one (show Kd.M (Kd.int .i64) _ _ _ a1 [.int .i64 a1] from rfl) (Reps.one (show Kd.M (Kd.int .i64) _ _ _ a2 [.int .i64 a2] from rfl) (Reps.none _ _)))); intro v1394 w21 ho22 hb hg_ hnew_; clear hg_ hnew_; (first | rw [← Ny1393.out] at ho22 | (simp only [Int.reduceToNat] at ho22; rw [← Ny1393.out] at ho22)); have HO1395 := Aside0.mk (Kd.R_lower ho22 (below_size (hB HB))); replace HB := bst_ HB hb; clear hb ho22; obtain ⟨Ao23, co23, eo23⟩ := Kd.R_slice HO1395.out; subst eo23) | ((with_reducible refine gate_callee (f := 77) rfl ?_); refine goesL_ (some 12) rfl rfl Try.func77 (by kernel_rfl) rfl #[.slice A0 l0.length c0, .slice Ao23 y1393.length co23] rfl tm_ ?_; (with_reducible refine (impl_goodTree.calls k _ _ l0 _ _ y1393 false _ ?side1 ?side2 ?side3 ?side4 A4.out).mono ?_); (case side1 => exact ca (Kd.C_below HR0.out HB.out)); (case side2 => exact HC0.out); (case side3 => exact ca (Kd.R_reads' HO1395.out).2.2); (case side4 => exact (Kd.R_reads' HO1395.out).2.1); rintro e w' ⟨rfl, ⟨nd, rfl⟩⟩; refine ⟨_, rfl, ?_⟩))
  go_ret2
  exact ⟨_, by first | rfl | (simp [errW_none, errW_some] <;> rfl) | (simp [*, errW_none, errW_some] <;> rfl), by first | exact Kd.R_nil _ _ _ _ _ | exact Kd.N_nil _ _ _ _ _ | exact Kd.V_nil _ _ _ _ _ | exact Kd.Q_nil _ _ _ _ _ | exact Kd.S_nil _ _ _ _ _, by repeat (first | (with_reducible first | exact HB.out | apply below_alloc | apply pw_below_drewN | apply below_drew1) | exact HB.out)⟩
 subst c5
 rw [if_pos rfl] at H
 replace H := Option.bind_eq_some_iff.mp H
 obtain ⟨t1397, A60, H⟩ := H
 replace H : ((slices_Contains_int_int.f k t1397 a2).bind fun t1400 => (if t1400 = true then ((impl_behind.f k l0 a1 a2).bind fun t1401 => (some (t1401, true))) else (some (([] : List Int), false)))) = some (r1, r2) := H
 have A6 := Aside0.mk A60
 clear A60
 replace H := Option.bind_eq_some_iff.mp H
 obtain ⟨t1400, A70, H⟩ := H
 replace H : (if t1400 = true then ((impl_behind.f k l0 a1 a2).bind fun t1401 => (some (t1401, true))) else (some (([] : List Int), false))) = some (r1, r2) := H
 have A7 := Aside0.mk A70
 clear A70
 by_cases c8 : t1400 = true
 rotate_left
 ·replace c8 := Bool.eq_false_iff.mpr c8
  subst c8
  rw [if_neg (show ¬ (false = true) by decide)] at H
  simp only [Option.some.injEq, Prod.mk.injEq] at H
  obtain ⟨rfl, rfl⟩ := H
  go_enter Try.func40, Try.ntmps40
  go_wp2_with (first | ((with_reducible refine gate_dst (N := 11) rfl ?_); refine Kd.R_lit (Kd.int .i64) _ 3 ?hg (N := 11) ?hd (xs := ([a1, a2] : List Int)) (inner := [.int .i64 a1, .int .i64 a2]) (ok := fun _ => True) (okp := fun _ => True) ?hr ?hp (fun _ hk => hk) trivial (Below.refl _ _) (Nat.le_refl _) (by simp) ?_; (case hd => rfl); (case hg => rfl); (case hr => first | (go_simp; done) | (go_simp; rfl)); (case hp => exact (Reps.one (show Kd.M (Kd.int .i64) _ _ _ a1 [.int .i64 a1] from rfl) (Reps.one (show Kd.M (Kd.int .i64) _ _ _ a2 [.int .i64 a2] from rfl) (Reps.none _ _)))); intro v1394 w16 ho17 hb hg_ hnew_; clear hg_ hnew_; (first | rw [← Ny1393.out] at ho17 | (simp only [Int.reduceToNat] at ho17; rw [← Ny1393.out] at ho17)); have HO1395 := Aside0.mk (Kd.R_lower ho17 (below_size (hB HB))); replace HB := bst_ HB hb; clear hb ho17; obtain ⟨Ao18, co18, eo18⟩ := Kd.R_slice HO1395.out; subst eo18) | ((with_reducible refine gate_callee (f := 77) rfl ?_); refine goesL_ (some 12) rfl rfl Try.func77 (by kernel_rfl) rfl #[.slice A0 l0.length c0, .slice Ao18 y1393.length co18] rfl tm_ ?_; (with_reducible refine (impl_goodTree.calls k _ _ l0 _ _ y1393 true _ ?side1 ?side2 ?side3 ?side4 A4.out).mono ?_); (case side1 => exact ca (Kd.C_below HR0.out HB.out)); (case side2 => exact HC0.out); (case side3 => exact ca (Kd.R_reads' HO1395.out).2.2); (case side4 => exact (Kd.R_reads' HO1395.out).2.1); rintro e w' ⟨rfl, ⟨nd, rfl⟩⟩; refine ⟨_, rfl, ?_⟩) | (go_at_call 98; (with_reducible refine (impl_branches.calls k _ _ l0 a1 t1397 _ ?side1 ?side2 A6.out).mono ?_); (case side1 => exact ca (Kd.C_below HR0.out (hB HB))); (case side2 => exact HC0.out); rintro e w19 ⟨v1398, rfl, ho0, hb⟩; have HO1399 := Aside0.mk (Kd.R_lower (Kd.R_new' ho0 (rl_ HO1395)) (below_size (hB HB))); replace HO1395 := re_ HO1395 ho0 hb; replace HB := bst_ HB hb; clear hb ho0; obtain ⟨Ao20, co20, eo20⟩ := Kd.R_slice HO1399.out; subst eo20) | (go_at_call 97; (with_reducible refine (slices_Contains_int_int.calls k _ _ t1397 a2 false _ ?side1 ?side2 A7.out).mono ?_); (case side1 => exact ca (Kd.R_reads' HO1399.out).2.2); (case side2 => exact (Kd.R_reads' HO1399.out).2.1); rintro e w' ⟨rfl, ⟨nd, rfl⟩⟩))
  go_ret2
  exact ⟨_, by first | rfl | (simp [errW_none, errW_some] <;> rfl) | (simp [*, errW_none, errW_some] <;> rfl), by first | exact Kd.R_nil _ _ _ _ _ | exact Kd.N_nil _ _ _ _ _ | exact Kd.V_nil _ _ _ _ _ | exact Kd.Q_nil _ _ _ _ _ | exact Kd.S_nil _ _ _ _ _, by repeat (first | (with_reducible first | exact HB.out | apply below_alloc | apply pw_below_drewN | apply below_drew1) | exact HB.out)⟩
 subst c8
 rw [if_pos rfl] at H
 replace H := Option.bind_eq_some_iff.mp H
 obtain ⟨t1401, A90, H⟩ := H
 replace H : (some (t1401, true)) = some (r1, r2) := H
 have A9 := Aside0.mk A90
 clear A90
 simp only [Option.some.injEq, Prod.mk.injEq] at H
 obtain ⟨rfl, rfl⟩ := H
 go_enter Try.func40, Try.ntmps40
 go_wp2_with (first | ((with_reducible refine gate_dst (N := 11) rfl ?_); refine Kd.R_lit (Kd.int .i64) _ 3 ?hg (N := 11) ?hd (xs := ([a1, a2] : List Int)) (inner := [.int .i64 a1, .int .i64 a2]) (ok := fun _ => True) (okp := fun _ => True) ?hr ?hp (fun _ hk => hk) trivial (Below.refl _ _) (Nat.le_refl _) (by simp) ?_; (case hd => rfl); (case hg => rfl); (case hr => first | (go_simp; done) | (go_simp; rfl)); (case hp => exact (Reps.one (show Kd.M (Kd.int .i64) _ _ _ a1 [.int .i64 a1] from rfl) (Reps.one (show Kd.M (Kd.int .i64) _ _ _ a2 [.int .i64 a2] from rfl) (Reps.none _ _)))); intro v1394 w10 ho11 hb hg_ hnew_; clear hg_ hnew_; (first | rw [← Ny1393.out] at ho11 | (simp only [Int.reduceToNat] at ho11; rw [← Ny1393.out] at ho11)); have HO1395 := Aside0.mk (Kd.R_lower ho11 (below_size (hB HB))); replace HB := bst_ HB hb; clear hb ho11; obtain ⟨Ao12, co12, eo12⟩ := Kd.R_slice HO1395.out; subst eo12) | ((with_reducible refine gate_callee (f := 77) rfl ?_); refine goesL_ (some 12) rfl rfl Try.func77 (by kernel_rfl) rfl #[.slice A0 l0.length c0, .slice Ao12 y1393.length co12] rfl tm_ ?_; (with_reducible refine (impl_goodTree.calls k _ _ l0 _ _ y1393 true _ ?side1 ?side2 ?side3 ?side4 A4.out).mono ?_); (case side1 => exact ca (Kd.C_below HR0.out HB.out)); (case side2 => exact HC0.out); (case side3 => exact ca (Kd.R_reads' HO1395.out).2.2); (case side4 => exact (Kd.R_reads' HO1395.out).2.1); rintro e w' ⟨rfl, ⟨nd, rfl⟩⟩; refine ⟨_, rfl, ?_⟩) | (go_at_call 98; (with_reducible refine (impl_branches.calls k _ _ l0 a1 t1397 _ ?side1 ?side2 A6.out).mono ?_); (case side1 => exact ca (Kd.C_below HR0.out (hB HB))); (case side2 => exact HC0.out); rintro e w13 ⟨v1398, rfl, ho0, hb⟩; have HO1399 := Aside0.mk (Kd.R_lower (Kd.R_new' ho0 (rl_ HO1395)) (below_size (hB HB))); replace HO1395 := re_ HO1395 ho0 hb; replace HB := bst_ HB hb; clear hb ho0; obtain ⟨Ao14, co14, eo14⟩ := Kd.R_slice HO1399.out; subst eo14) | (go_at_call 97; (with_reducible refine (slices_Contains_int_int.calls k _ _ t1397 a2 true _ ?side1 ?side2 A7.out).mono ?_); (case side1 => exact ca (Kd.R_reads' HO1399.out).2.2); (case side2 => exact (Kd.R_reads' HO1399.out).2.1); rintro e w' ⟨rfl, ⟨nd, rfl⟩⟩) | ((with_reducible refine gate_callee (f := 99) rfl ?_); refine goesL_ (some 25) rfl rfl Try.func99 (by kernel_rfl) rfl #[.slice A0 l0.length c0, .int .i64 a1, .int .i64 a2] rfl tm_ ?_; (with_reducible refine (impl_behind.calls k _ _ l0 a1 a2 t1401 _ ?side1 ?side2 A9.out).mono ?_); (case side1 => exact ca (Kd.C_below HR0.out (hB HB))); (case side2 => exact HC0.out); rintro e w15 ⟨v1402, rfl, ho0, hb⟩; refine ⟨_, rfl, ?_⟩; have HO1403 := Aside0.mk (Kd.R_lower (Kd.R_new' (Kd.R_new' ho0 (rl_ HO1395)) (rl_ HO1399)) (below_size (hB HB))); replace HO1395 := re_ HO1395 ho0 hb; replace HO1399 := re_ HO1399 ho0 hb; replace HB := bst_ HB hb; clear hb ho0))
 go_ret2
 exact ⟨_, by first | rfl | (simp [errW_none, errW_some] <;> rfl) | (simp [*, errW_none, errW_some] <;> rfl), by (with_reducible repeat (first | apply Kd.R_alloc | apply Kd.R_drewN | apply Kd.R_drew)); exact Kd.R_mono HO1403.out (fun _ hk => trivial), by repeat (first | (with_reducible first | exact HB.out | apply below_alloc | apply pw_below_drewN | apply below_drew1) | exact HB.out)⟩

def spec_BehindOf.f (k : Nat) (l0 : List Int) (a1 : Int) (a2 : Int) : Option (List Int × Bool) := (spec_l10Two.f k l0 a1 a1).bind fun t1404 => (if t1404 = true then ((spec_l10Joined.f k l0 a1).bind fun t1405 => ((spec_l1Has.f k t1405 a2).bind fun t1408 => (if t1408 = true then ((spec_l14Behind.f k l0 a1 a2).bind fun t1409 => (some (t1409, true))) else (some (([] : List Int), false))))) else (some (([] : List Int), false)))
theorem spec_BehindOf.mono : ∀ a0 a1 a2 k, LeO (spec_BehindOf.f k a0 a1 a2) (spec_BehindOf.f (k + 1) a0 a1 a2) := by
 intro a0 a1 a2 k
 unfold spec_BehindOf.f
 repeat' first
   | (with_reducible exact spec_l10Joined.mono _ _ _)
   | (with_reducible exact spec_l10Two.mono _ _ _ _)
   | (with_reducible exact spec_l14Behind.mono _ _ _ _)
   | (with_reducible exact spec_l1Has.mono _ _ _)
   | (with_reducible exact LeO.refl _)
   | (with_reducible exact LeO.none _)
   | (with_reducible refine LeO.ite ?_ ?_)
   | (with_reducible refine LeO.bind ?_ (fun _ => ?_))
set_option maxHeartbeats 8000000 in
set_option maxRecDepth 100000 in
theorem spec_BehindOf.calls (k : Nat) (A0 : Option Addr) (c0 : Nat) (l0 : List Int) (a1 : Int) (a2 : Int) (r1 : List Int) (r2 : Bool) (w : World) (hr0 : Kd.C (Kd.int .i64) w A0 l0.length l0) (hc0 : l0.length ≤ c0) (h : spec_BehindOf.f k l0 a1 a2 = some (r1, r2)) :
  Calls Try.prog 41 #[.slice A0 l0.length c0, .int .i64 a1, .int .i64 a2] w fun e w' => ∃ v0_ : Value, e = .returned (.tuple #[v0_, .bool r2]) ∧ Kd.V (Kd.int .i64) 3 w' w.heap.size (fun k_ => (w.heap.size ≤ k_)) v0_ r1 ∧ Below w.heap.size w w' := by
 have HR0 := Aside0.mk hr0
 have HC0 := Aside0.mk hc0
 clear hr0 hc0
 have HB := Aside0.mk (Below.refl w.heap.size w)
 have H : ((spec_l10Two.f k l0 a1 a1).bind fun t1404 => (if t1404 = true then ((spec_l10Joined.f k l0 a1).bind fun t1405 => ((spec_l1Has.f k t1405 a2).bind fun t1408 => (if t1408 = true then ((spec_l14Behind.f k l0 a1 a2).bind fun t1409 => (some (t1409, true))) else (some (([] : List Int), false))))) else (some (([] : List Int), false)))) = some (r1, r2) := h
 clear h
 replace H := Option.bind_eq_some_iff.mp H
 obtain ⟨t1404, A40, H⟩ := H
 replace H : (if t1404 = true then ((spec_l10Joined.f k l0 a1).bind fun t1405 => ((spec_l1Has.f k t1405 a2).bind fun t1408 => (if t1408 = true then ((spec_l14Behind.f k l0 a1 a2).bind fun t1409 => (some (t1409, true))) else (some (([] : List Int), false))))) else (some (([] : List Int), false))) = some (r1, r2) := H
 have A4 := Aside0.mk A40
 clear A40
 by_cases c5 : t1404 = true
 rotate_left
 ·replace c5 := Bool.eq_false_iff.mpr c5
  subst c5
  rw [if_neg (show ¬ (false = true) by decide)] at H
  simp only [Option.some.injEq, Prod.mk.injEq] at H
  obtain ⟨rfl, rfl⟩ := H
  go_enter Try.func41, Try.ntmps41
  go_wp2_with (first | ((with_reducible refine gate_callee (f := 74) rfl ?_); refine goesL_ (some 11) rfl rfl Try.func74 (by kernel_rfl) rfl #[.slice A0 l0.length c0, .int .i64 a1, .int .i64 a1] rfl tm_ ?_; (with_reducible refine (spec_l10Two.calls k _ _ l0 a1 a1 false _ ?side1 ?side2 A4.out).mono ?_); (case side1 => exact ca HR0.out); (case side2 => exact HC0.out); rintro e w' ⟨rfl, ⟨nd, rfl⟩⟩; refine ⟨_, rfl, ?_⟩))
  go_ret2
  exact ⟨_, by first | rfl | (simp [errW_none, errW_some] <;> rfl) | (simp [*, errW_none, errW_some] <;> rfl), Kd.V_nil _ _ _ _ _, by repeat (first | (with_reducible first | exact HB.out | apply below_alloc | apply pw_below_drewN | apply below_drew1) | exact HB.out)⟩
 subst c5
 rw [if_pos rfl] at H
 replace H := Option.bind_eq_some_iff.mp H
 obtain ⟨t1405, A60, H⟩ := H
 replace H : ((spec_l1Has.f k t1405 a2).bind fun t1408 => (if t1408 = true then ((spec_l14Behind.f k l0 a1 a2).bind fun t1409 => (some (t1409, true))) else (some (([] : List Int), false)))) = some (r1, r2) := H
 have A6 := Aside0.mk A60
 clear A60
 replace H := Option.bind_eq_some_iff.mp H
 obtain ⟨t1408, A70, H⟩ := H
 replace H : (if t1408 = true then ((spec_l14Behind.f k l0 a1 a2).bind fun t1409 => (some (t1409, true))) else (some (([] : List Int), false))) = some (r1, r2) := H
 have A7 := Aside0.mk A70
 clear A70
 by_cases c8 : t1408 = true
 rotate_left
 ·replace c8 := Bool.eq_false_iff.mpr c8
  subst c8
  rw [if_neg (show ¬ (false = true) by decide)] at H
  simp only [Option.some.injEq, Prod.mk.injEq] at H
  obtain ⟨rfl, rfl⟩ := H
  go_enter Try.func41, Try.ntmps41
  go_wp2_with (first | ((with_reducible refine gate_callee (f := 74) rfl ?_); refine goesL_ (some 11) rfl rfl Try.func74 (by kernel_rfl) rfl #[.slice A0 l0.length c0, .int .i64 a1, .int .i64 a1] rfl tm_ ?_; (with_reducible refine (spec_l10Two.calls k _ _ l0 a1 a1 true _ ?side1 ?side2 A4.out).mono ?_); (case side1 => exact ca HR0.out); (case side2 => exact HC0.out); rintro e w' ⟨rfl, ⟨nd, rfl⟩⟩; refine ⟨_, rfl, ?_⟩) | (go_at_call 101; (with_reducible refine (spec_l10Joined.calls k _ _ l0 a1 t1405 _ ?side1 ?side2 A6.out).mono ?_); (case side1 => exact ca HR0.out); (case side2 => exact HC0.out); rintro e w13 ⟨v1406, rfl, ho0, hb⟩; have HO1407 := Aside0.mk (Kd.V_lower (Kd.V_mono (ok' := fun k_ => (w.heap.size ≤ k_)) ho0 (fun k_ hk_ => (Nat.le_trans (below_size (hB HB)) hk_))) (below_size (hB HB))); replace HB := bst_ HB hb; clear hb ho0; obtain ⟨Ao14, co14, eo14⟩ := Kd.V_slice HO1407.out; subst eo14) | (go_at_call 100; (with_reducible refine (spec_l1Has.calls k _ _ t1405 a2 false _ ?side1 ?side2 A7.out).mono ?_); (case side1 => repeat (first | exact (Kd.V_reads' HO1407.out).2.2 | (with_reducible refine Kd.C_alloc ?_ _) | (with_reducible refine Kd.C_drewN ?_ _) | (with_reducible refine Kd.C_drew ?_))); (case side2 => exact (Kd.V_reads' HO1407.out).2.1); rintro e w' ⟨rfl, ⟨nd, rfl⟩⟩))
  go_ret2
  exact ⟨_, by first | rfl | (simp [errW_none, errW_some] <;> rfl) | (simp [*, errW_none, errW_some] <;> rfl), Kd.V_nil _ _ _ _ _, by repeat (first | (with_reducible first | exact HB.out | apply below_alloc | apply pw_below_drewN | apply below_drew1) | exact HB.out)⟩
 subst c8
 rw [if_pos rfl] at H
 replace H := Option.bind_eq_some_iff.mp H
 obtain ⟨t1409, A90, H⟩ := H
 replace H : (some (t1409, true)) = some (r1, r2) := H
 have A9 := Aside0.mk A90
 clear A90
 simp only [Option.some.injEq, Prod.mk.injEq] at H
 obtain ⟨rfl, rfl⟩ := H
 go_enter Try.func41, Try.ntmps41
 go_wp2_with (first | ((with_reducible refine gate_callee (f := 74) rfl ?_); refine goesL_ (some 11) rfl rfl Try.func74 (by kernel_rfl) rfl #[.slice A0 l0.length c0, .int .i64 a1, .int .i64 a1] rfl tm_ ?_; (with_reducible refine (spec_l10Two.calls k _ _ l0 a1 a1 true _ ?side1 ?side2 A4.out).mono ?_); (case side1 => exact ca HR0.out); (case side2 => exact HC0.out); rintro e w' ⟨rfl, ⟨nd, rfl⟩⟩; refine ⟨_, rfl, ?_⟩) | (go_at_call 101; (with_reducible refine (spec_l10Joined.calls k _ _ l0 a1 t1405 _ ?side1 ?side2 A6.out).mono ?_); (case side1 => exact ca HR0.out); (case side2 => exact HC0.out); rintro e w10 ⟨v1406, rfl, ho0, hb⟩; have HO1407 := Aside0.mk (Kd.V_lower (Kd.V_mono (ok' := fun k_ => (w.heap.size ≤ k_)) ho0 (fun k_ hk_ => (Nat.le_trans (below_size (hB HB)) hk_))) (below_size (hB HB))); replace HB := bst_ HB hb; clear hb ho0; obtain ⟨Ao11, co11, eo11⟩ := Kd.V_slice HO1407.out; subst eo11) | (go_at_call 100; (with_reducible refine (spec_l1Has.calls k _ _ t1405 a2 true _ ?side1 ?side2 A7.out).mono ?_); (case side1 => repeat (first | exact (Kd.V_reads' HO1407.out).2.2 | (with_reducible refine Kd.C_alloc ?_ _) | (with_reducible refine Kd.C_drewN ?_ _) | (with_reducible refine Kd.C_drew ?_))); (case side2 => exact (Kd.V_reads' HO1407.out).2.1); rintro e w' ⟨rfl, ⟨nd, rfl⟩⟩) | ((with_reducible refine gate_callee (f := 102) rfl ?_); refine goesL_ (some 24) rfl rfl Try.func102 (by kernel_rfl) rfl #[.slice A0 l0.length c0, .int .i64 a1, .int .i64 a2] rfl tm_ ?_; (with_reducible refine (spec_l14Behind.calls k _ _ l0 a1 a2 t1409 _ ?side1 ?side2 A9.out).mono ?_); (case side1 => exact ca (Kd.C_below HR0.out (hB HB))); (case side2 => exact HC0.out); rintro e w12 ⟨v1410, rfl, ho0, hb⟩; refine ⟨_, rfl, ?_⟩; have HO1411 := Aside0.mk (Kd.V_lower (Kd.V_mono (ok' := fun k_ => (w.heap.size ≤ k_)) ho0 (fun k_ hk_ => (Nat.le_trans (below_size (hB HB)) hk_))) (below_size (hB HB))); replace HO1407 := Aside0.mk (Kd.V_below (by (with_reducible repeat (first | apply Kd.V_alloc | apply Kd.V_drewN | apply Kd.V_drew)); exact HO1407.out) hb); replace HB := bst_ HB hb; clear hb ho0))
 go_ret2
 exact ⟨_, by first | rfl | (simp [errW_none, errW_some] <;> rfl) | (simp [*, errW_none, errW_some] <;> rfl), by (with_reducible repeat (first | apply Kd.V_alloc | apply Kd.V_drewN | apply Kd.V_drew)); exact HO1411.out, by repeat (first | (with_reducible first | exact HB.out | apply below_alloc | apply pw_below_drewN | apply below_drew1) | exact HB.out)⟩

end Go.Proofs.Ytfkjnpgpofcinaa.P
