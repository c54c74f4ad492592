import Derived.Test.YtpohlcjkabojcaaF0
import Derived.Test.YtpohlcjkabojcaaF2
import Derived.Test.YtpohlcjkabojcaaF11
import Derived.Test.YtpohlcjkabojcaaF13
namespace Go.Proofs.Ytpohlcjkabojcaa.P
open Go.RowKit Go.Proofs.YtpohlcjkabojcaaW.PrintWords Go.Proofs.YtpohlcjkabojcaaW.PrintLast Go.Proofs.YtpohlcjkabojcaaW.PrintMore
attribute [local go_sem] max2_int min2_int max_two min_two max_three min_three max_four min_four   -- for this text's walks alone
set_option linter.unusedVariables false
set_option linter.unusedSimpArgs false

mutual
def spec_l8Groups.l0 : Nat → Int → List (S86) → List Int → Int → Option (List Int)
 | 0, _, _, _, _ => none
 | k + 1, x0, x1, x5, x6 => if x6 < x0 then (if x5.length < 17592186044416 then (spec_l8Groups.l0 k x0 x1 (x5 ++ [x6]) (wrap64 (x6 + 1))) else (none)) else (spec_l8Groups.l1 k x1 x5 (x5.length : Int) 0)
def spec_l8Groups.l1 : Nat → List (S86) → List Int → Int → Int → Option (List Int)
 | 0, _, _, _, _ => none
 | k + 1, x1, x5, x20, x21 => if x21 < x20 then (spec_l8Groups.l2 k x1 x5 x20 x21 x1 (x1.length : Int) 0) else (some x5)
def spec_l8Groups.l2 : Nat → List (S86) → List Int → Int → Int → List (S86) → Int → Int → Option (List Int)
 | 0, _, _, _, _, _, _, _ => none
 | k + 1, x1, x5, x20, x21, x23, x24, x25 => if x25 < x24 then (if 0 ≤ x25 then (if x25 < (x23.length : Int) then (if 0 ≤ ((rd_T86 x23 x25).f0) then (if ((rd_T86 x23 x25).f0) < (x5.length : Int) then (if 0 ≤ ((rd_T86 x23 x25).f1) then (if ((rd_T86 x23 x25).f1) < (x5.length : Int) then ((spec_l1Least.f (rd x5 ((rd_T86 x23 x25).f0)) (rd x5 ((rd_T86 x23 x25).f1))).bind fun t355 => (spec_l8Groups.l2 k x1 ((x5.set (((rd_T86 x23 x25).f0) : Int).toNat t355).set (((rd_T86 x23 x25).f1) : Int).toNat t355) x20 x21 x23 x24 (wrap64 (x25 + 1)))) else (none)) else (none)) else (none)) else (none)) else (none)) else (none)) else (spec_l8Groups.l1 k x1 x5 x20 (wrap64 (x21 + 1)))
end
def spec_l8Groups.f (k : Nat) (a0 : Int) (l1 : List (S86)) : Option (List Int) := spec_l8Groups.l0 k a0 l1 ([] : List Int) 0
theorem spec_l8Groups.mono_l : ∀ k, (∀ y0 y1 y2 y3, LeO (spec_l8Groups.l0 k y0 y1 y2 y3) (spec_l8Groups.l0 (k + 1) y0 y1 y2 y3)) ∧ (∀ y0 y1 y2 y3, LeO (spec_l8Groups.l1 k y0 y1 y2 y3) (spec_l8Groups.l1 (k + 1) y0 y1 y2 y3)) ∧ (∀ y0 y1 y2 y3 y4 y5 y6, LeO (spec_l8Groups.l2 k y0 y1 y2 y3 y4 y5 y6) (spec_l8Groups.l2 (k + 1) y0 y1 y2 y3 y4 y5 y6))
 | 0 => ⟨fun _ _ _ _ r h => by simp [spec_l8Groups.l0] at h, fun _ _ _ _ r h => by simp [spec_l8Groups.l1] at h, fun _ _ _ _ _ _ _ r h => by simp [spec_l8Groups.l2] at h⟩
 | k + 1 => by
  obtain ⟨ih0, ih1, ih2⟩ := spec_l8Groups.mono_l k
  refine ⟨?_, ?_, ?_⟩
  ·intro y0 y1 y2 y3
   unfold spec_l8Groups.l0
   repeat' first
   | (with_reducible exact ih0 _ _ _ _)
   | (with_reducible exact ih1 _ _ _ _)
   | (with_reducible exact ih2 _ _ _ _ _ _ _)
   | (with_reducible exact LeO.refl _)
   | (with_reducible exact LeO.none _)
   | (with_reducible refine LeO.ite ?_ ?_)
   | (with_reducible refine LeO.bind ?_ (fun _ => ?_))
  ·intro y0 y1 y2 y3
   unfold spec_l8Groups.l1
   repeat' first
   | (with_reducible exact ih0 _ _ _ _)
   | (with_reducible exact ih1 _ _ _ _)
   | (with_reducible exact ih2 _ _ _ _ _ _ _)
   | (with_reducible exact LeO.refl _)
   | (with_reducible exact LeO.none _)
   | (with_reducible refine LeO.ite ?_ ?_)
   | (with_reducible refine LeO.bind ?_ (fun _ => ?_))
  ·intro y0 y1 y2 y3 y4 y5 y6
   unfold spec_l8Groups.l2
   repeat' first
   | (with_reducible exact ih0 _ _ _ _)
   | (with_reducible exact ih1 _ _ _ _)
   | (with_reducible exact ih2 _ _ _ _ _ _ _)
   | (with_reducible exact LeO.refl _)
   | (with_reducible exact LeO.none _)
   | (with_reducible refine LeO.ite ?_ ?_)
   | (with_reducible refine LeO.bind ?_ (fun _ => ?_))
theorem spec_l8Groups.mono : ∀ a0 a1 k, LeO (spec_l8Groups.f k a0 a1) (spec_l8Groups.f (k + 1) a0 a1) := by
 intro a0 a1 k
 obtain ⟨ih0, ih1, ih2⟩ := spec_l8Groups.mono_l k
 unfold spec_l8Groups.f
 repeat' first
   | (with_reducible exact ih0 _ _ _ _)
   | (with_reducible exact ih1 _ _ _ _)
   | (with_reducible exact ih2 _ _ _ _ _ _ _)
   | (with_reducible exact LeO.refl _)
   | (with_reducible exact LeO.none _)
   | (with_reducible refine LeO.ite ?_ ?_)
   | (with_reducible refine LeO.bind ?_ (fun _ => ?_))
set_option maxHeartbeats 8000000 in
set_option maxRecDepth 100000 in
theorem spec_l8Groups.calls (k : Nat) (a0 : Int) (A1 : Option Addr) (c1 : Nat) (l1 : List (S86)) (r : List Int) (w : World) (hr1 : Kd.C k86 w A1 l1.length l1) (hc1 : l1.length ≤ c1) (h : spec_l8Groups.f k a0 l1 = some r) :
  Calls Try.prog 63 #[.int .i64 a0, .slice A1 l1.length c1] w fun e w' => ∃ v0_ : Value, e = .returned (v0_) ∧ Kd.R (Kd.int .i64) 3 w' w.heap.size (fun _ => True) v0_ r ∧ Below w.heap.size w w' := by
 have hu86 := Try.underlying86
 have HR1 := Aside0.mk hr1
 have HC1 := Aside0.mk hc1
 clear hr1 hc1
 have HB := Aside0.mk (Below.refl w.heap.size w)
 have H : (spec_l8Groups.l0 k a0 l1 ([] : List Int) 0) = some r := h
 clear h
 have H' := Aside0.mk H
 clear H
 go_enter Try.func63, Try.ntmps63
 go_wp2
 repeat (go_quiet (fail); try go_wp2)
 go_loopg [5, 6] k (fun kq v5 v6 w' => ∃ (x5_1 : List Int) (x6_1 : Int), v6 = .int .i64 x6_1 ∧ Aside0 (spec_l8Groups.l0 kq a0 l1 x5_1 x6_1 = some r) ∧ Aside0 (kq ≤ k) ∧ Aside0 (Kd.R (Kd.int .i64) 3 w' w.heap.size (fun _ => True) v5 x5_1) ∧ Aside0 (Below w.heap.size w w'))
 case atStart => exact ⟨(([] : List Int)), (0), (by first | rfl | (simp; done) | (simp [*]; done)), H', ⟨Nat.le_refl _⟩, ⟨by first | exact Kd.R_nil _ _ _ _ _ | exact Kd.N_nil _ _ _ _ _ | exact Kd.V_nil _ _ _ _ _ | exact Kd.Q_nil _ _ _ _ _ | exact Kd.S_nil _ _ _ _ _⟩, ⟨hB HB⟩⟩
 case round =>
  clear H'
  try clear c1
  obtain ⟨x5_1, x6_1, rfl, HA, HK1, HO_5, HB⟩ := hrel
  cases gk with
  | zero => exact absurd HA.out (by simp [spec_l8Groups.l0])
  | succ k1 =>
   have H := HA.out
   clear HA
   simp only [spec_l8Groups.l0] at H
   by_cases c3 : x6_1 < a0
   ·rw [if_pos c3] at H
    have c3b0 : decide (x6_1 < a0) = true := decide_eq_true c3
    clear c3
    by_cases c4 : x5_1.length < 17592186044416
    rotate_left
    ·rw [if_neg c4] at H
     exact absurd H (by simp)
    rw [if_pos c4] at H
    have LMc4 := Aside0.mk c4
    clear c4
    obtain ⟨y348, hy348⟩ : ∃ y_ : List Int, y_ = (x5_1 ++ [x6_1]) := ⟨_, rfl⟩
    replace H : (spec_l8Groups.l0 k1 a0 l1 y348 (wrap64 (x6_1 + 1))) = some r := by first | (rw [hy348]; with_reducible exact H) | (have H2_ := (Option.bind_some _ _).symm.trans H; rw [hy348]; with_reducible exact H2_) | (have H2_ := (Option.bind_some _ _).symm.trans H; with_reducible exact H2_) | with_reducible exact H | (rw [hy348]; exact H) | exact H
    have Ny348 := Aside0.mk hy348
    clear hy348
    have H' := Aside0.mk H
    clear H
    go_wp2_with (first | ((with_reducible refine gate_builtin (b := .append) (xs := #[.tmp 15, .tmp 17]) rfl ?_); at_builtin; refine Kd.R_append (Kd.int .i64) (w0 := w) w.heap.size rfl (.tmp 15) (.tmp 17) 23 3 (.int .i64 0) 8 rfl Try.underlying23 info3 rfl (by decide) (by omega) u5 x5_1 x6_1 [.int .i64 x6_1] (fun _ => True) (fun _ => False) rfl rfl ?aP (fun _ hk => hk.elim) ?aF ?aO ?aB ?aS ?aL ?_; (case aP => exact rfl); (case aB => exact (hB HB)); (case aF => exact (fun _ _ => trivial)); (case aO => exact (ra HO_5.out)); (case aS => exact (below_size (hB HB))); (case aL => have := LMc4.out; omega); intro v349 w5 ho hb hg hat; rw [← Ny348.out] at ho; have HO350 := Aside0.mk (ho); replace HB := Aside0.mk (hb); clear HO_5; clear ho hb hg hat))
    repeat (go_quiet (first | ((with_reducible refine gate_builtin (b := .append) (xs := #[.tmp 15, .tmp 17]) rfl ?_); at_builtin; refine Kd.R_append (Kd.int .i64) (w0 := w) w.heap.size rfl (.tmp 15) (.tmp 17) 23 3 (.int .i64 0) 8 rfl Try.underlying23 info3 rfl (by decide) (by omega) u5 x5_1 x6_1 [.int .i64 x6_1] (fun _ => True) (fun _ => False) rfl rfl ?aP (fun _ hk => hk.elim) ?aF ?aO ?aB ?aS ?aL ?_; (case aP => exact rfl); (case aB => exact (hB HB)); (case aF => exact (fun _ _ => trivial)); (case aO => exact (ra HO_5.out)); (case aS => exact (below_size (hB HB))); (case aL => have := LMc4.out; omega); intro v349 w5 ho hb hg hat; rw [← Ny348.out] at ho; have HO350 := Aside0.mk (ho); replace HB := Aside0.mk (hb); clear HO_5; clear ho hb hg hat)); try go_wp2_with (first | ((with_reducible refine gate_builtin (b := .append) (xs := #[.tmp 15, .tmp 17]) rfl ?_); at_builtin; refine Kd.R_append (Kd.int .i64) (w0 := w) w.heap.size rfl (.tmp 15) (.tmp 17) 23 3 (.int .i64 0) 8 rfl Try.underlying23 info3 rfl (by decide) (by omega) u5 x5_1 x6_1 [.int .i64 x6_1] (fun _ => True) (fun _ => False) rfl rfl ?aP (fun _ hk => hk.elim) ?aF ?aO ?aB ?aS ?aL ?_; (case aP => exact rfl); (case aB => exact (hB HB)); (case aF => exact (fun _ _ => trivial)); (case aO => exact (ra HO_5.out)); (case aS => exact (below_size (hB HB))); (case aL => have := LMc4.out; omega); intro v349 w5 ho hb hg hat; rw [← Ny348.out] at ho; have HO350 := Aside0.mk (ho); replace HB := Aside0.mk (hb); clear HO_5; clear ho hb hg hat)))
    go_roundg k1
    case measure => have := HK1.out; omega
    case rel => exact ⟨(y348), (wrap64 (x6_1 + 1)), (by first | rfl | (simp; done) | (simp [*]; done)), H', ⟨by have := HK1.out; omega⟩, ⟨ra HO350.out⟩, ⟨hB HB⟩⟩
   rw [if_neg c3] at H
   have c3b0 : decide (x6_1 < a0) = false := decide_eq_false c3
   clear c3
   have H' := Aside0.mk H
   clear H
   obtain ⟨Ao6, co6, eo6⟩ := Kd.R_slice HO_5.out
   subst eo6
   go_wp2
   repeat (go_quiet (fail); try go_wp2)
   go_loopg [21] k1 (fun kq v21 w' => ∃ (x5_2 : List Int) (x21_2 : Int), v21 = .int .i64 x21_2 ∧ Aside0 (spec_l8Groups.l1 kq l1 x5_2 (x5_1.length : Int) x21_2 = some r) ∧ Aside0 (kq ≤ k1) ∧ Aside0 (Kd.R (Kd.int .i64) 3 w' w.heap.size (fun _ => True) (.slice Ao6 x5_1.length co6) x5_2) ∧ Aside0 (Below w.heap.size w w'))
   case atStart => exact ⟨(x5_1), (0), (by first | rfl | (simp; done) | (simp [*]; done)), H', ⟨Nat.le_refl _⟩, ⟨ra HO_5.out⟩, ⟨hB HB⟩⟩
   case round =>
    clear H'
    try clear c1
    try clear c3
    try clear c3b0
    obtain ⟨x5_2, x21_2, rfl, HA, HK2, HO_5, HB⟩ := hrel
    have hl5_2 := (Kd.R_reads' HO_5.out).1
    rw [hl5_2] at HO_5
    (try simp only [hl5_2])
    cases gk with
    | zero => exact absurd HA.out (by simp [spec_l8Groups.l1])
    | succ k2 =>
     have H := HA.out
     clear HA
     simp only [spec_l8Groups.l1] at H
     by_cases c7 : x21_2 < (x5_1.length : Int)
     rotate_left
     ·rw [if_neg c7] at H
      have c7b0 : decide (x21_2 < (x5_1.length : Int)) = false := decide_eq_false c7
      try rw [hl5_2] at c7b0
      clear c7
      obtain rfl := Option.some.inj H
      go_wp2
      repeat (go_quiet (fail); try go_wp2)
      go_ret
      exact ⟨_, by first | rfl | (simp [errW_none, errW_some] <;> rfl) | (simp [*, errW_none, errW_some] <;> rfl), by (with_reducible repeat (first | apply Kd.R_alloc | apply Kd.R_drewN | apply Kd.R_drew)); exact HO_5.out, by repeat (first | (with_reducible first | exact HB.out | apply below_alloc | apply pw_below_drewN | apply below_drew1) | exact HB.out)⟩
     rw [if_pos c7] at H
     have c7b0 : decide (x21_2 < (x5_1.length : Int)) = true := decide_eq_true c7
     try rw [hl5_2] at c7b0
     clear c7
     have H' := Aside0.mk H
     clear H
     go_wp2
     repeat (go_quiet (fail); try go_wp2)
     go_loopg [25] k2 (fun kq v25 w' => ∃ (x5_3 : List Int) (x25_3 : Int), v25 = .int .i64 x25_3 ∧ Aside0 (spec_l8Groups.l2 kq l1 x5_3 (x5_1.length : Int) x21_2 l1 (l1.length : Int) x25_3 = some r) ∧ Aside0 (kq ≤ k2) ∧ Aside0 (Kd.R (Kd.int .i64) 3 w' w.heap.size (fun _ => True) (.slice Ao6 x5_2.length co6) x5_3) ∧ Aside0 (Below w.heap.size w w'))
     case atStart => exact ⟨(x5_2), (0), (by first | rfl | (simp; done) | (simp [*]; done)), H', ⟨Nat.le_refl _⟩, ⟨by (try simp only [hl5_2]); (with_reducible repeat (first | apply Kd.R_alloc | apply Kd.R_drewN | apply Kd.R_drew)); exact HO_5.out⟩, ⟨hB HB⟩⟩
     case round =>
      clear H'
      try clear c1
      try clear c3
      try clear c3b0
      try clear c7
      try clear c7b0
      obtain ⟨x5_3, x25_3, rfl, HA, HK3, HO_5, HB⟩ := hrel
      have hl5_3 := (Kd.R_reads' HO_5.out).1
      rw [hl5_3] at HO_5
      (try simp only [hl5_3])
      cases gk with
      | zero => exact absurd HA.out (by simp [spec_l8Groups.l2])
      | succ k3 =>
       have H := HA.out
       clear HA
       simp only [spec_l8Groups.l2] at H
       by_cases c8 : x25_3 < (l1.length : Int)
       rotate_left
       ·rw [if_neg c8] at H
        have c8b0 : decide (x25_3 < (l1.length : Int)) = false := decide_eq_false c8
        try rw [hl5_2] at c8b0
        try rw [hl5_3] at c8b0
        clear c8
        have H' := Aside0.mk H
        clear H
        go_wp2
        repeat (go_quiet (fail); try go_wp2)
        (try simp only [← hl5_2, ← hl5_3])
        go_roundg k3
        case measure => have := HK1.out; have := HK2.out; have := HK3.out; omega
        case rel => exact ⟨(x5_3), (wrap64 (x21_2 + 1)), (by first | rfl | (simp; done) | (simp [*]; done)), H', ⟨by have := HK1.out; have := HK2.out; have := HK3.out; omega⟩, ⟨by (try simp only [hl5_2]); (try simp only [hl5_3]); (with_reducible repeat (first | apply Kd.R_alloc | apply Kd.R_drewN | apply Kd.R_drew)); exact HO_5.out⟩, ⟨hB HB⟩⟩
       rw [if_pos c8] at H
       have c8b0 : decide (x25_3 < (l1.length : Int)) = true := decide_eq_true c8
       try rw [hl5_2] at c8b0
       try rw [hl5_3] at c8b0
       clear c8
       by_cases c9 : 0 ≤ x25_3
       rotate_left
       ·rw [if_neg c9] at H
        exact absurd H (by simp)
       rw [if_pos c9] at H
       have c9b0 : decide (0 ≤ x25_3) = true := decide_eq_true c9
       clear c9
       by_cases c10 : x25_3 < (l1.length : Int)
       rotate_left
       ·rw [if_neg c10] at H
        exact absurd H (by simp)
       rw [if_pos c10] at H
       have c10b0 : decide (x25_3 < (l1.length : Int)) = true := decide_eq_true c10
       try rw [hl5_2] at c10b0
       try rw [hl5_3] at c10b0
       clear c10
       by_cases c11 : 0 ≤ ((rd_T86 l1 x25_3).f0)
       rotate_left
       ·rw [if_neg c11] at H
        exact absurd H (by simp)
       rw [if_pos c11] at H
       have c11b0 : decide (0 ≤ ((rd_T86 l1 x25_3).f0)) = true := decide_eq_true c11
       clear c11
       by_cases c12 : ((rd_T86 l1 x25_3).f0) < (x5_3.length : Int)
       rotate_left
       ·rw [if_neg c12] at H
        exact absurd H (by simp)
       rw [if_pos c12] at H
       have c12b0 : decide (((rd_T86 l1 x25_3).f0) < (x5_3.length : Int)) = true := decide_eq_true c12
       try rw [hl5_2] at c12b0
       try rw [hl5_3] at c12b0
       clear c12
       by_cases c13 : 0 ≤ ((rd_T86 l1 x25_3).f1)
       rotate_left
       ·rw [if_neg c13] at H
        exact absurd H (by simp)
       rw [if_pos c13] at H
       have c13b0 : decide (0 ≤ ((rd_T86 l1 x25_3).f1)) = true := decide_eq_true c13
       clear c13
       by_cases c14 : ((rd_T86 l1 x25_3).f1) < (x5_3.length : Int)
       rotate_left
       ·rw [if_neg c14] at H
        exact absurd H (by simp)
       rw [if_pos c14] at H
       have c14b0 : decide (((rd_T86 l1 x25_3).f1) < (x5_3.length : Int)) = true := decide_eq_true c14
       try rw [hl5_2] at c14b0
       try rw [hl5_3] at c14b0
       clear c14
       replace H := Option.bind_eq_some_iff.mp H
       obtain ⟨t355, A150, H⟩ := H
       replace H : (spec_l8Groups.l2 k3 l1 ((x5_3.set (((rd_T86 l1 x25_3).f0) : Int).toNat t355).set (((rd_T86 l1 x25_3).f1) : Int).toNat t355) (x5_1.length : Int) x21_2 l1 (l1.length : Int) (wrap64 (x25_3 + 1))) = some r := H
       have A15 := Aside0.mk A150
       clear A150
       obtain ⟨y356, hy356⟩ : ∃ y_ : List Int, y_ = (x5_3.set (((rd_T86 l1 x25_3).f0) : Int).toNat t355) := ⟨_, rfl⟩
       replace H : (spec_l8Groups.l2 k3 l1 (y356.set (((rd_T86 l1 x25_3).f1) : Int).toNat t355) (x5_1.length : Int) x21_2 l1 (l1.length : Int) (wrap64 (x25_3 + 1))) = some r := by first | (rw [hy356]; with_reducible exact H) | (have H2_ := (Option.bind_some _ _).symm.trans H; rw [hy356]; with_reducible exact H2_) | (have H2_ := (Option.bind_some _ _).symm.trans H; with_reducible exact H2_) | with_reducible exact H | (rw [hy356]; exact H) | exact H
       have Ny356 := Aside0.mk hy356
       clear hy356
       obtain ⟨y357, hy357⟩ : ∃ y_ : List Int, y_ = (y356.set (((rd_T86 l1 x25_3).f1) : Int).toNat t355) := ⟨_, rfl⟩
       replace H : (spec_l8Groups.l2 k3 l1 y357 (x5_1.length : Int) x21_2 l1 (l1.length : Int) (wrap64 (x25_3 + 1))) = some r := by first | (rw [hy357]; with_reducible exact H) | (have H2_ := (Option.bind_some _ _).symm.trans H; rw [hy357]; with_reducible exact H2_) | (have H2_ := (Option.bind_some _ _).symm.trans H; with_reducible exact H2_) | with_reducible exact H | (rw [hy357]; exact H) | exact H
       have Ny357 := Aside0.mk hy357
       clear hy357
       have H' := Aside0.mk H
       clear H
       have p351 : 0 ≤ (x25_3 : Int) := of_decide_eq_true (by first | (with_reducible assumption) | assumption)
       have q351 : x25_3 < (l1.length : Int) := of_decide_eq_true (by first | (with_reducible assumption) | assumption)
       obtain ⟨ad351, e351, hx351_0, hx351_1, hx351_2⟩ := at_T86 HR1.out x25_3 p351 q351
       cases e351
       replace hx351_0 := (HB.out.cell (World.block_lt_of_cell? w _ hx351_0)).trans hx351_0
       replace hx351_1 := (HB.out.cell (World.block_lt_of_cell? w _ hx351_1)).trans hx351_1
       replace hx351_2 := (HB.out.cell (World.block_lt_of_cell? w _ hx351_2)).trans hx351_2
       replace p351 := eq_true p351
       replace q351 := eq_true q351
       go_wp2_with (first | ((with_reducible refine gate_dst (N := 8) rfl ?_); refine box_event ?hg (N := 8) ?hd (cs := #[.int .i64 0, .int .i64 0, .int .i64 0]) (t := 86) ?hr ?_; (case hd => rfl); (case hg => rfl); (case hr => first | (go_simp; done) | (go_simp; rfl)); intro gb352 hg w18 hbox hb; have BK352 := Aside0.mk (hbox); have GW352 := gw_ hg HB; have GE352 := gw_ hg HB; replace HO_5 := rb_ HO_5 hb; replace HB := bst_ HB hb; clear hb hbox hg; have hcz19_0 : w18.cell? ⟨gb352, 0, none⟩ = some (.int .i64 0) := bc_ BK352 0; have hcz19_1 : w18.cell? ⟨gb352, 1, none⟩ = some (.int .i64 0) := bc_ BK352 1; have hcz19_2 : w18.cell? ⟨gb352, 2, none⟩ = some (.int .i64 0) := bc_ BK352 2; have hfz19_0 := blk_frozen BK352.out 0; have hfz19_1 := blk_frozen BK352.out 1; have hfz19_2 := blk_frozen BK352.out 2) | ((with_reducible refine gate_store (t := 86) (p := 8) rfl ?_); (try (rw [drewN_self w18]; generalize hq_ : World.drewN w18 _ = w18; replace HO_5 := Aside0.mk (Kd.R_at hq_ HO_5.out); replace BK352 := Aside0.mk (blk_at hq_ BK352.out); replace HB := Aside0.mk (below_at hq_ HB.out); clear hq_)); refine store_event (t := 86) (p := 8) (v := ?vo_w20) (w1 := (((w18.setCell ⟨gb352, 0, none⟩ (.int .i64 ((rd_T86 l1 x25_3).f0))).setCell ⟨gb352, 1, none⟩ (.int .i64 ((rd_T86 l1 x25_3).f1))).setCell ⟨gb352, 2, none⟩ (.int .i64 ((rd_T86 l1 x25_3).f2)))) ?hg ?ho ?hn ?hr ?_; (case ho => rfl); (case hg => rfl); (case hn => rfl); (case hr => first | (go_simp; done) | (go_simp; rfl)); intro w20 hw; have n0_ : Aside0 (Kd.R (Kd.int .i64) 3 w20 w.heap.size (fun _ => True) (.slice Ao6 x5_3.length co6) x5_3) := ⟨(by rw [hw]; exact (ra (Kd.R_mono (Kd.R_far (p := ⟨gb352, 2, none⟩) (Kd.R_far (p := ⟨gb352, 1, none⟩) (Kd.R_far (p := ⟨gb352, 0, none⟩) (Kd.R_types HO_5.out BK352.out (by decide)) (fun _ hk => hk.2) (.int .i64 ((rd_T86 l1 x25_3).f0))) (fun _ hk => hk.2) (.int .i64 ((rd_T86 l1 x25_3).f1))) (fun _ hk => hk.2) (.int .i64 ((rd_T86 l1 x25_3).f2))) (fun _ hk => trivial))))⟩; have n1_ : Aside0 (w20.heap[gb352]? = some (.cells #[.int .i64 ((rd_T86 l1 x25_3).f0), .int .i64 ((rd_T86 l1 x25_3).f1), .int .i64 ((rd_T86 l1 x25_3).f2)] 86 (0, 0))) := ⟨(by rw [hw]; exact (by (with_reducible repeat (first | refine blk_drewN ?_ _ | refine blk_drew ?_ | refine blk_alloc ?_ _)); refine blk_put (cs := #[.int .i64 ((rd_T86 l1 x25_3).f0), .int .i64 ((rd_T86 l1 x25_3).f1), .int .i64 0]) ?_ 2 _ rfl; (with_reducible repeat (first | refine blk_drewN ?_ _ | refine blk_drew ?_ | refine blk_alloc ?_ _)); refine blk_put (cs := #[.int .i64 ((rd_T86 l1 x25_3).f0), .int .i64 0, .int .i64 0]) ?_ 1 _ rfl; (with_reducible repeat (first | refine blk_drewN ?_ _ | refine blk_drew ?_ | refine blk_alloc ?_ _)); refine blk_put (cs := #[.int .i64 0, .int .i64 0, .int .i64 0]) ?_ 0 _ rfl; (with_reducible repeat (first | refine blk_drewN ?_ _ | refine blk_drew ?_ | refine blk_alloc ?_ _)); exact BK352.out))⟩; have n2_ : Aside0 (Below w.heap.size w w20) := ⟨(by rw [hw]; exact (hB HB))⟩; clear hw; clear HO_5; clear BK352; clear HB; have HO_5 := n0_; have BK352 := n1_; have HB := n2_; clear n0_ n1_ n2_; have hcz21_0 : w20.cell? ⟨gb352, 0, none⟩ = some (.int .i64 ((rd_T86 l1 x25_3).f0)) := bc_ BK352 0; have hcz21_1 : w20.cell? ⟨gb352, 1, none⟩ = some (.int .i64 ((rd_T86 l1 x25_3).f1)) := bc_ BK352 1; have hcz21_2 : w20.cell? ⟨gb352, 2, none⟩ = some (.int .i64 ((rd_T86 l1 x25_3).f2)) := bc_ BK352 2; have hfz21_0 := blk_frozen BK352.out 0; have hfz21_1 := blk_frozen BK352.out 1; have hfz21_2 := blk_frozen BK352.out 2; have p353 : 0 ≤ (((rd_T86 l1 x25_3).f0) : Int) := of_decide_eq_true (by first | (with_reducible assumption) | assumption); have q353 : ((rd_T86 l1 x25_3).f0) < (x5_3.length : Int) := of_decide_eq_true (by first | (with_reducible assumption) | assumption); obtain ⟨ad353, e353, hx353_0⟩ := Kd.at_int (Kd.R_reads' HO_5.out).2.2 ((rd_T86 l1 x25_3).f0) p353 q353; cases e353; replace p353 := eq_true p353; replace q353 := eq_true q353; have p354 : 0 ≤ (((rd_T86 l1 x25_3).f1) : Int) := of_decide_eq_true (by first | (with_reducible assumption) | assumption); have q354 : ((rd_T86 l1 x25_3).f1) < (x5_3.length : Int) := of_decide_eq_true (by first | (with_reducible assumption) | assumption); obtain ⟨ad354, e354, hx354_0⟩ := Kd.at_int (Kd.R_reads' HO_5.out).2.2 ((rd_T86 l1 x25_3).f1) p354 q354; obtain rfl : ad353 = ad354 := (by injection e354); replace p354 := eq_true p354; replace q354 := eq_true q354) | (go_at_call 102; (with_reducible refine (spec_l1Least.calls (rd x5_3 ((rd_T86 l1 x25_3).f0)) (rd x5_3 ((rd_T86 l1 x25_3).f1)) t355 _ A15.out).mono ?_); rintro e w' ⟨rfl, ⟨nd, rfl⟩⟩; (try first | exact ⟨rfl, _, World.drewN_drewN _ _ _⟩ | exact ⟨rfl, _, Eq.trans (World.drewN_drewN _ _ _) (congrArg (World.drewN _) (Nat.add_assoc _ _ _))⟩); have p16 : 0 ≤ (((rd_T86 l1 x25_3).f0) : Int) := of_decide_eq_true (by first | (with_reducible assumption) | assumption); have q16 : (((rd_T86 l1 x25_3).f0) : Int) < ((x5_3.length : Int) : Int) := of_decide_eq_true (by first | (with_reducible assumption) | assumption); obtain ⟨go16, co16, eo16, gb16, gl16, cl16, HG16⟩ := Kd.R_form HO_5.out (by omega); (first | cases eo16 | (injection eo16 with ea_ en_ ec_; (first | subst ea_ | (injection ea_ with ea_; subst ea_)); subst ec_; clear en_)); have GB16 := Aside0.mk gb16; have GG16 := Aside0.mk HG16; clear gb16 gl16 HG16; (first | simp only [add_plain] at hx353_0 | skip); (first | simp only [add_plain] at hx354_0 | skip); obtain ⟨hx16_0, hf16_0⟩ := Kd.R_celln 0 HO_5.out (((rd_T86 l1 x25_3).f0) : Int) p16 q16; replace p16 := eq_true p16; replace q16 := eq_true q16; obtain ⟨hy22_, hz22_⟩ := Kd.R_celln 0 HO_5.out (((rd_T86 l1 x25_3).f0) : Int) (of_decide_eq_true (by first | (with_reducible assumption) | assumption)) (of_decide_eq_true (by first | (with_reducible assumption) | assumption)); have HP22 := Kd.R_putg HO_5.out (((rd_T86 l1 x25_3).f0) : Int) t355) | ((with_reducible refine gate_store (t := 3) (p := 44) rfl ?_); (try (rw [drewN_self w20]; generalize hq_ : World.drewN w20 _ = w20; replace HO_5 := Aside0.mk (Kd.R_at hq_ HO_5.out); replace BK352 := Aside0.mk (blk_at hq_ BK352.out); replace HB := Aside0.mk (below_at hq_ HB.out); clear hq_; (try (obtain ⟨hy22_, hz22_⟩ := Kd.R_celln 0 HO_5.out (((rd_T86 l1 x25_3).f0) : Int) (of_decide_eq_true (by first | (with_reducible assumption) | assumption)) (of_decide_eq_true (by first | (with_reducible assumption) | assumption)))); (try (have HP22 := Kd.R_putg HO_5.out (((rd_T86 l1 x25_3).f0) : Int) t355)))); refine store_event (t := 3) (p := 44) (v := ?vo_w23) (w1 := (w20.setCell ⟨go16, (((rd_T86 l1 x25_3).f0) : Int).toNat, none⟩ (.int .i64 t355))) ?hg ?ho ?hn ?hr ?_; (case ho => rfl); (case hg => rfl); (case hn => rfl); (case hr => first | (go_simp; done) | (go_simp; rfl)); intro w23 hw; have hg : w20.grownBy w23 (some go16) := (by rw [hw]; exact HP22.2); have hp_ : Kd.R (Kd.int .i64) 3 w23 w.heap.size (fun _ => True) (.slice (some ⟨go16, 0, none⟩) x5_3.length co6) y356 := (by rw [hw, Ny356.out]; exact HP22.1); clear HP22; replace BK352 := Aside0.mk (blk_grown (g := gb352) (o := .cells #[.int .i64 ((rd_T86 l1 x25_3).f0), .int .i64 ((rd_T86 l1 x25_3).f1), .int .i64 ((rd_T86 l1 x25_3).f2)] 86 (0, 0)) (ba BK352.out) hg (Kd.R_ne HO_5.out BK352.out (by decide))); replace HO_5 := Aside0.mk (hp_); replace HB := Aside0.mk ((by rw [hw]; exact below_set (HB.out) GB16.out : Below w.heap.size w w23)); clear hg hw hp_; have hcz24_0 : w23.cell? ⟨gb352, 0, none⟩ = some (.int .i64 ((rd_T86 l1 x25_3).f0)) := bc_ BK352 0; have hcz24_1 : w23.cell? ⟨gb352, 1, none⟩ = some (.int .i64 ((rd_T86 l1 x25_3).f1)) := bc_ BK352 1; have hcz24_2 : w23.cell? ⟨gb352, 2, none⟩ = some (.int .i64 ((rd_T86 l1 x25_3).f2)) := bc_ BK352 2; have hfz24_0 := blk_frozen BK352.out 0; have hfz24_1 := blk_frozen BK352.out 1; have hfz24_2 := blk_frozen BK352.out 2; have p17 : 0 ≤ (((rd_T86 l1 x25_3).f1) : Int) := of_decide_eq_true (by first | (with_reducible assumption) | assumption); have q17 : (((rd_T86 l1 x25_3).f1) : Int) < ((x5_3.length : Int) : Int) := of_decide_eq_true (by first | (with_reducible assumption) | assumption); obtain ⟨hx17_0, hf17_0⟩ := Kd.R_celln 0 HO_5.out (((rd_T86 l1 x25_3).f1) : Int) p17 q17; replace p17 := eq_true p17; replace q17 := eq_true q17; obtain ⟨hy25_, hz25_⟩ := Kd.R_celln 0 HO_5.out (((rd_T86 l1 x25_3).f1) : Int) (of_decide_eq_true (by first | (with_reducible assumption) | assumption)) (of_decide_eq_true (by first | (with_reducible assumption) | assumption)); have HP25 := Kd.R_putg HO_5.out (((rd_T86 l1 x25_3).f1) : Int) t355) | ((with_reducible refine gate_store (t := 3) (p := 49) rfl ?_); (try (rw [drewN_self w23]; generalize hq_ : World.drewN w23 _ = w23; replace HO_5 := Aside0.mk (Kd.R_at hq_ HO_5.out); replace BK352 := Aside0.mk (blk_at hq_ BK352.out); replace HB := Aside0.mk (below_at hq_ HB.out); clear hq_; (try (obtain ⟨hy25_, hz25_⟩ := Kd.R_celln 0 HO_5.out (((rd_T86 l1 x25_3).f1) : Int) (of_decide_eq_true (by first | (with_reducible assumption) | assumption)) (of_decide_eq_true (by first | (with_reducible assumption) | assumption)))); (try (have HP25 := Kd.R_putg HO_5.out (((rd_T86 l1 x25_3).f1) : Int) t355)))); refine store_event (t := 3) (p := 49) (v := ?vo_w26) (w1 := (w23.setCell ⟨go16, (((rd_T86 l1 x25_3).f1) : Int).toNat, none⟩ (.int .i64 t355))) ?hg ?ho ?hn ?hr ?_; (case ho => rfl); (case hg => rfl); (case hn => rfl); (case hr => first | (go_simp; done) | (go_simp; rfl)); intro w26 hw; have hg : w23.grownBy w26 (some go16) := (by rw [hw]; exact HP25.2); have hp_ : Kd.R (Kd.int .i64) 3 w26 w.heap.size (fun _ => True) (.slice (some ⟨go16, 0, none⟩) x5_3.length co6) y357 := (by rw [hw, Ny357.out]; exact HP25.1); clear HP25; replace BK352 := Aside0.mk (blk_grown (g := gb352) (o := .cells #[.int .i64 ((rd_T86 l1 x25_3).f0), .int .i64 ((rd_T86 l1 x25_3).f1), .int .i64 ((rd_T86 l1 x25_3).f2)] 86 (0, 0)) (ba BK352.out) hg (Kd.R_ne HO_5.out BK352.out (by decide))); replace HO_5 := Aside0.mk (hp_); replace HB := Aside0.mk ((by rw [hw]; exact below_set (HB.out) GB16.out : Below w.heap.size w w26)); clear hg hw hp_))
       repeat (go_quiet (first | ((with_reducible refine gate_dst (N := 8) rfl ?_); refine box_event ?hg (N := 8) ?hd (cs := #[.int .i64 0, .int .i64 0, .int .i64 0]) (t := 86) ?hr ?_; (case hd => rfl); (case hg => rfl); (case hr => first | (go_simp; done) | (go_simp; rfl)); intro gb352 hg w18 hbox hb; have BK352 := Aside0.mk (hbox); have GW352 := gw_ hg HB; have GE352 := gw_ hg HB; replace HO_5 := rb_ HO_5 hb; replace HB := bst_ HB hb; clear hb hbox hg; have hcz19_0 : w18.cell? ⟨gb352, 0, none⟩ = some (.int .i64 0) := bc_ BK352 0; have hcz19_1 : w18.cell? ⟨gb352, 1, none⟩ = some (.int .i64 0) := bc_ BK352 1; have hcz19_2 : w18.cell? ⟨gb352, 2, none⟩ = some (.int .i64 0) := bc_ BK352 2; have hfz19_0 := blk_frozen BK352.out 0; have hfz19_1 := blk_frozen BK352.out 1; have hfz19_2 := blk_frozen BK352.out 2) | ((with_reducible refine gate_store (t := 86) (p := 8) rfl ?_); (try (rw [drewN_self w18]; generalize hq_ : World.drewN w18 _ = w18; replace HO_5 := Aside0.mk (Kd.R_at hq_ HO_5.out); replace BK352 := Aside0.mk (blk_at hq_ BK352.out); replace HB := Aside0.mk (below_at hq_ HB.out); clear hq_)); refine store_event (t := 86) (p := 8) (v := ?vo_w20) (w1 := (((w18.setCell ⟨gb352, 0, none⟩ (.int .i64 ((rd_T86 l1 x25_3).f0))).setCell ⟨gb352, 1, none⟩ (.int .i64 ((rd_T86 l1 x25_3).f1))).setCell ⟨gb352, 2, none⟩ (.int .i64 ((rd_T86 l1 x25_3).f2)))) ?hg ?ho ?hn ?hr ?_; (case ho => rfl); (case hg => rfl); (case hn => rfl); (case hr => first | (go_simp; done) | (go_simp; rfl)); intro w20 hw; have n0_ : Aside0 (Kd.R (Kd.int .i64) 3 w20 w.heap.size (fun _ => True) (.slice Ao6 x5_3.length co6) x5_3) := ⟨(by rw [hw]; exact (ra (Kd.R_mono (Kd.R_far (p := ⟨gb352, 2, none⟩) (Kd.R_far (p := ⟨gb352, 1, none⟩) (Kd.R_far (p := ⟨gb352, 0, none⟩) (Kd.R_types HO_5.out BK352.out (by decide)) (fun _ hk => hk.2) (.int .i64 ((rd_T86 l1 x25_3).f0))) (fun _ hk => hk.2) (.int .i64 ((rd_T86 l1 x25_3).f1))) (fun _ hk => hk.2) (.int .i64 ((rd_T86 l1 x25_3).f2))) (fun _ hk => trivial))))⟩; have n1_ : Aside0 (w20.heap[gb352]? = some (.cells #[.int .i64 ((rd_T86 l1 x25_3).f0), .int .i64 ((rd_T86 l1 x25_3).f1), .int .i64 ((rd_T86 l1 x25_3).f2)] 86 (0, 0))) := ⟨(by rw [hw]; exact (by (with_reducible repeat (first | refine blk_drewN ?_ _ | refine blk_drew ?_ | refine blk_alloc ?_ _)); refine blk_put (cs := #[.int .i64 ((rd_T86 l1 x25_3).f0), .int .i64 ((rd_T86 l1 x25_3).f1), .int .i64 0]) ?_ 2 _ rfl; (with_reducible repeat (first | refine blk_drewN ?_ _ | refine blk_drew ?_ | refine blk_alloc ?_ _)); refine blk_put (cs := #[.int .i64 ((rd_T86 l1 x25_3).f0), .int .i64 0, .int .i64 0]) ?_ 1 _ rfl; (with_reducible repeat (first | refine blk_drewN ?_ _ | refine blk_drew ?_ | refine blk_alloc ?_ _)); refine blk_put (cs := #[.int .i64 0, .int .i64 0, .int .i64 0]) ?_ 0 _ rfl; (with_reducible repeat (first | refine blk_drewN ?_ _ | refine blk_drew ?_ | refine blk_alloc ?_ _)); exact BK352.out))⟩; have n2_ : Aside0 (Below w.heap.size w w20) := ⟨(by rw [hw]; exact (hB HB))⟩; clear hw; clear HO_5; clear BK352; clear HB; have HO_5 := n0_; have BK352 := n1_; have HB := n2_; clear n0_ n1_ n2_; have hcz21_0 : w20.cell? ⟨gb352, 0, none⟩ = some (.int .i64 ((rd_T86 l1 x25_3).f0)) := bc_ BK352 0; have hcz21_1 : w20.cell? ⟨gb352, 1, none⟩ = some (.int .i64 ((rd_T86 l1 x25_3).f1)) := bc_ BK352 1; have hcz21_2 : w20.cell? ⟨gb352, 2, none⟩ = some (.int .i64 ((rd_T86 l1 x25_3).f2)) := bc_ BK352 2; have hfz21_0 := blk_frozen BK352.out 0; have hfz21_1 := blk_frozen BK352.out 1; have hfz21_2 := blk_frozen BK352.out 2; have p353 : 0 ≤ (((rd_T86 l1 x25_3).f0) : Int) := of_decide_eq_true (by first | (with_reducible assumption) | assumption); have q353 : ((rd_T86 l1 x25_3).f0) < (x5_3.length : Int) := of_decide_eq_true (by first | (with_reducible assumption) | assumption); obtain ⟨ad353, e353, hx353_0⟩ := Kd.at_int (Kd.R_reads' HO_5.out).2.2 ((rd_T86 l1 x25_3).f0) p353 q353; cases e353; replace p353 := eq_true p353; replace q353 := eq_true q353; have p354 : 0 ≤ (((rd_T86 l1 x25_3).f1) : Int) := of_decide_eq_true (by first | (with_reducible assumption) | assumption); have q354 : ((rd_T86 l1 x25_3).f1) < (x5_3.length : Int) := of_decide_eq_true (by first | (with_reducible assumption) | assumption); obtain ⟨ad354, e354, hx354_0⟩ := Kd.at_int (Kd.R_reads' HO_5.out).2.2 ((rd_T86 l1 x25_3).f1) p354 q354; obtain rfl : ad353 = ad354 := (by injection e354); replace p354 := eq_true p354; replace q354 := eq_true q354) | (go_at_call 102; (with_reducible refine (spec_l1Least.calls (rd x5_3 ((rd_T86 l1 x25_3).f0)) (rd x5_3 ((rd_T86 l1 x25_3).f1)) t355 _ A15.out).mono ?_); rintro e w' ⟨rfl, ⟨nd, rfl⟩⟩; (try first | exact ⟨rfl, _, World.drewN_drewN _ _ _⟩ | exact ⟨rfl, _, Eq.trans (World.drewN_drewN _ _ _) (congrArg (World.drewN _) (Nat.add_assoc _ _ _))⟩); have p16 : 0 ≤ (((rd_T86 l1 x25_3).f0) : Int) := of_decide_eq_true (by first | (with_reducible assumption) | assumption); have q16 : (((rd_T86 l1 x25_3).f0) : Int) < ((x5_3.length : Int) : Int) := of_decide_eq_true (by first | (with_reducible assumption) | assumption); obtain ⟨go16, co16, eo16, gb16, gl16, cl16, HG16⟩ := Kd.R_form HO_5.out (by omega); (first | cases eo16 | (injection eo16 with ea_ en_ ec_; (first | subst ea_ | (injection ea_ with ea_; subst ea_)); subst ec_; clear en_)); have GB16 := Aside0.mk gb16; have GG16 := Aside0.mk HG16; clear gb16 gl16 HG16; (first | simp only [add_plain] at hx353_0 | skip); (first | simp only [add_plain] at hx354_0 | skip); obtain ⟨hx16_0, hf16_0⟩ := Kd.R_celln 0 HO_5.out (((rd_T86 l1 x25_3).f0) : Int) p16 q16; replace p16 := eq_true p16; replace q16 := eq_true q16; obtain ⟨hy22_, hz22_⟩ := Kd.R_celln 0 HO_5.out (((rd_T86 l1 x25_3).f0) : Int) (of_decide_eq_true (by first | (with_reducible assumption) | assumption)) (of_decide_eq_true (by first | (with_reducible assumption) | assumption)); have HP22 := Kd.R_putg HO_5.out (((rd_T86 l1 x25_3).f0) : Int) t355) | ((with_reducible refine gate_store (t := 3) (p := 44) rfl ?_); (try (rw [drewN_self w20]; generalize hq_ : World.drewN w20 _ = w20; replace HO_5 := Aside0.mk (Kd.R_at hq_ HO_5.out); replace BK352 := Aside0.mk (blk_at hq_ BK352.out); replace HB := Aside0.mk (below_at hq_ HB.out); clear hq_; (try (obtain ⟨hy22_, hz22_⟩ := Kd.R_celln 0 HO_5.out (((rd_T86 l1 x25_3).f0) : Int) (of_decide_eq_true (by first | (with_reducible assumption) | assumption)) (of_decide_eq_true (by first | (with_reducible assumption) | assumption)))); (try (have HP22 := Kd.R_putg HO_5.out (((rd_T86 l1 x25_3).f0) : Int) t355)))); refine store_event (t := 3) (p := 44) (v := ?vo_w23) (w1 := (w20.setCell ⟨go16, (((rd_T86 l1 x25_3).f0) : Int).toNat, none⟩ (.int .i64 t355))) ?hg ?ho ?hn ?hr ?_; (case ho => rfl); (case hg => rfl); (case hn => rfl); (case hr => first | (go_simp; done) | (go_simp; rfl)); intro w23 hw; have hg : w20.grownBy w23 (some go16) := (by rw [hw]; exact HP22.2); have hp_ : Kd.R (Kd.int .i64) 3 w23 w.heap.size (fun _ => True) (.slice (some ⟨go16, 0, none⟩) x5_3.length co6) y356 := (by rw [hw, Ny356.out]; exact HP22.1); clear HP22; replace BK352 := Aside0.mk (blk_grown (g := gb352) (o := .cells #[.int .i64 ((rd_T86 l1 x25_3).f0), .int .i64 ((rd_T86 l1 x25_3).f1), .int .i64 ((rd_T86 l1 x25_3).f2)] 86 (0, 0)) (ba BK352.out) hg (Kd.R_ne HO_5.out BK352.out (by decide))); replace HO_5 := Aside0.mk (hp_); replace HB := Aside0.mk ((by rw [hw]; exact below_set (HB.out) GB16.out : Below w.heap.size w w23)); clear hg hw hp_; have hcz24_0 : w23.cell? ⟨gb352, 0, none⟩ = some (.int .i64 ((rd_T86 l1 x25_3).f0)) := bc_ BK352 0; have hcz24_1 : w23.cell? ⟨gb352, 1, none⟩ = some (.int .i64 ((rd_T86 l1 x25_3).f1)) := bc_ BK352 1; have hcz24_2 : w23.cell? ⟨gb352, 2, none⟩ = some (.int .i64 ((rd_T86 l1 x25_3).f2)) := bc_ BK352 2; have hfz24_0 := blk_frozen BK352.out 0; have hfz24_1 := blk_frozen BK352.out 1; have hfz24_2 := blk_frozen BK352.out 2; have p17 : 0 ≤ (((rd_T86 l1 x25_3).f1) : Int) := of_decide_eq_true (by first | (with_reducible assumption) | assumption); have q17 : (((rd_T86 l1 x25_3).f1) : Int) < ((x5_3.length : Int) : Int) := of_decide_eq_true (by first | (with_reducible assumption) | assumption); obtain ⟨hx17_0, hf17_0⟩ := Kd.R_celln 0 HO_5.out (((rd_T86 l1 x25_3).f1) : Int) p17 q17; replace p17 := eq_true p17; replace q17 := eq_true q17; obtain ⟨hy25_, hz25_⟩ := Kd.R_celln 0 HO_5.out (((rd_T86 l1 x25_3).f1) : Int) (of_decide_eq_true (by first | (with_reducible assumption) | assumption)) (of_decide_eq_true (by first | (with_reducible assumption) | assumption)); have HP25 := Kd.R_putg HO_5.out (((rd_T86 l1 x25_3).f1) : Int) t355) | ((with_reducible refine gate_store (t := 3) (p := 49) rfl ?_); (try (rw [drewN_self w23]; generalize hq_ : World.drewN w23 _ = w23; replace HO_5 := Aside0.mk (Kd.R_at hq_ HO_5.out); replace BK352 := Aside0.mk (blk_at hq_ BK352.out); replace HB := Aside0.mk (below_at hq_ HB.out); clear hq_; (try (obtain ⟨hy25_, hz25_⟩ := Kd.R_celln 0 HO_5.out (((rd_T86 l1 x25_3).f1) : Int) (of_decide_eq_true (by first | (with_reducible assumption) | assumption)) (of_decide_eq_true (by first | (with_reducible assumption) | assumption)))); (try (have HP25 := Kd.R_putg HO_5.out (((rd_T86 l1 x25_3).f1) : Int) t355)))); refine store_event (t := 3) (p := 49) (v := ?vo_w26) (w1 := (w23.setCell ⟨go16, (((rd_T86 l1 x25_3).f1) : Int).toNat, none⟩ (.int .i64 t355))) ?hg ?ho ?hn ?hr ?_; (case ho => rfl); (case hg => rfl); (case hn => rfl); (case hr => first | (go_simp; done) | (go_simp; rfl)); intro w26 hw; have hg : w23.grownBy w26 (some go16) := (by rw [hw]; exact HP25.2); have hp_ : Kd.R (Kd.int .i64) 3 w26 w.heap.size (fun _ => True) (.slice (some ⟨go16, 0, none⟩) x5_3.length co6) y357 := (by rw [hw, Ny357.out]; exact HP25.1); clear HP25; replace BK352 := Aside0.mk (blk_grown (g := gb352) (o := .cells #[.int .i64 ((rd_T86 l1 x25_3).f0), .int .i64 ((rd_T86 l1 x25_3).f1), .int .i64 ((rd_T86 l1 x25_3).f2)] 86 (0, 0)) (ba BK352.out) hg (Kd.R_ne HO_5.out BK352.out (by decide))); replace HO_5 := Aside0.mk (hp_); replace HB := Aside0.mk ((by rw [hw]; exact below_set (HB.out) GB16.out : Below w.heap.size w w26)); clear hg hw hp_)); try go_wp2_with (first | ((with_reducible refine gate_dst (N := 8) rfl ?_); refine box_event ?hg (N := 8) ?hd (cs := #[.int .i64 0, .int .i64 0, .int .i64 0]) (t := 86) ?hr ?_; (case hd => rfl); (case hg => rfl); (case hr => first | (go_simp; done) | (go_simp; rfl)); intro gb352 hg w18 hbox hb; have BK352 := Aside0.mk (hbox); have GW352 := gw_ hg HB; have GE352 := gw_ hg HB; replace HO_5 := rb_ HO_5 hb; replace HB := bst_ HB hb; clear hb hbox hg; have hcz19_0 : w18.cell? ⟨gb352, 0, none⟩ = some (.int .i64 0) := bc_ BK352 0; have hcz19_1 : w18.cell? ⟨gb352, 1, none⟩ = some (.int .i64 0) := bc_ BK352 1; have hcz19_2 : w18.cell? ⟨gb352, 2, none⟩ = some (.int .i64 0) := bc_ BK352 2; have hfz19_0 := blk_frozen BK352.out 0; have hfz19_1 := blk_frozen BK352.out 1; have hfz19_2 := blk_frozen BK352.out 2) | ((with_reducible refine gate_store (t := 86) (p := 8) rfl ?_); (try (rw [drewN_self w18]; generalize hq_ : World.drewN w18 _ = w18; replace HO_5 := Aside0.mk (Kd.R_at hq_ HO_5.out); replace BK352 := Aside0.mk (blk_at hq_ BK352.out); replace HB := Aside0.mk (below_at hq_ HB.out); clear hq_)); refine store_event (t := 86) (p := 8) (v := ?vo_w20) (w1 := (((w18.setCell ⟨gb352, 0, none⟩ (.int .i64 ((rd_T86 l1 x25_3).f0))).setCell ⟨gb352, 1, none⟩ (.int .i64 ((rd_T86 l1 x25_3).f1))).setCell ⟨gb352, 2, none⟩ (.int .i64 ((rd_T86 l1 x25_3).f2)))) ?hg ?ho ?hn ?hr ?_; (case ho => rfl); (case hg => rfl); (case hn => rfl); (case hr => first | (go_simp; done) | (go_simp; rfl)); intro w20 hw; have n0_ : Aside0 (Kd.R (Kd.int .i64) 3 w20 w.heap.size (fun _ => True) (.slice Ao6 x5_3.length co6) x5_3) := ⟨(by rw [hw]; exact (ra (Kd.R_mono (Kd.R_far (p := ⟨gb352, 2, none⟩) (Kd.R_far (p := ⟨gb352, 1, none⟩) (Kd.R_far (p := ⟨gb352, 0, none⟩) (Kd.R_types HO_5.out BK352.out (by decide)) (fun _ hk => hk.2) (.int .i64 ((rd_T86 l1 x25_3).f0))) (fun _ hk => hk.2) (.int .i64 ((rd_T86 l1 x25_3).f1))) (fun _ hk => hk.2) (.int .i64 ((rd_T86 l1 x25_3).f2))) (fun _ hk => trivial))))⟩; have n1_ : Aside0 (w20.heap[gb352]? = some (.cells #[.int .i64 ((rd_T86 l1 x25_3).f0), .int .i64 ((rd_T86 l1 x25_3).f1), .int .i64 ((rd_T86 l1 x25_3).f2)] 86 (0, 0))) := ⟨(by rw [hw]; exact (by (with_reducible repeat (first | refine blk_drewN ?_ _ | refine blk_drew ?_ | refine blk_alloc ?_ _)); refine blk_put (cs := #[.int .i64 ((rd_T86 l1 x25_3).f0), .int .i64 ((rd_T86 l1 x25_3).f1), .int .i64 0]) ?_ 2 _ rfl; (with_reducible repeat (first | refine blk_drewN ?_ _ | refine blk_drew ?_ | refine blk_alloc ?_ _)); refine blk_put (cs := #[.int .i64 ((rd_T86 l1 x25_3).f0), .int .i64 0, .int .i64 0]) ?_ 1 _ rfl; (with_reducible repeat (first | refine blk_drewN ?_ _ | refine blk_drew ?_ | refine blk_alloc ?_ _)); refine blk_put (cs := #[.int .i64 0, .int .i64 0, .int .i64 0]) ?_ 0 _ rfl; (with_reducible repeat (first | refine blk_drewN ?_ _ | refine blk_drew ?_ | refine blk_alloc ?_ _)); exact BK352.out))⟩; have n2_ : Aside0 (Below w.heap.size w w20) := ⟨(by rw [hw]; exact (hB HB))⟩; clear hw; clear HO_5; clear BK352; clear HB; have HO_5 := n0_; have BK352 := n1_; have HB := n2_; clear n0_ n1_ n2_; have hcz21_0 : w20.cell? ⟨gb352, 0, none⟩ = some (.int .i64 ((rd_T86 l1 x25_3).f0)) := bc_ BK352 0; have hcz21_1 : w20.cell? ⟨gb352, 1, none⟩ = some (.int .i64 ((rd_T86 l1 x25_3).f1)) := bc_ BK352 1; have hcz21_2 : w20.cell? ⟨gb352, 2, none⟩ = some (.int .i64 ((rd_T86 l1 x25_3).f2)) := bc_ BK352 2; have hfz21_0 := blk_frozen BK352.out 0; have hfz21_1 := blk_frozen BK352.out 1; have hfz21_2 := blk_frozen BK352.out 2; have p353 : 0 ≤ (((rd_T86 l1 x25_3).f0) : Int) := of_decide_eq_true (by first | (with_reducible assumption) | assumption); have q353 : ((rd_T86 l1 x25_3).f0) < (x5_3.length : Int) := of_decide_eq_true (by first | (with_reducible assumption) | assumption); obtain ⟨ad353, e353, hx353_0⟩ := Kd.at_int (Kd.R_reads' HO_5.out).2.2 ((rd_T86 l1 x25_3).f0) p353 q353; cases e353; replace p353 := eq_true p353; replace q353 := eq_true q353; have p354 : 0 ≤ (((rd_T86 l1 x25_3).f1) : Int) := of_decide_eq_true (by first | (with_reducible assumption) | assumption); have q354 : ((rd_T86 l1 x25_3).f1) < (x5_3.length : Int) := of_decide_eq_true (by first | (with_reducible assumption) | assumption); obtain ⟨ad354, e354, hx354_0⟩ := Kd.at_int (Kd.R_reads' HO_5.out).2.2 ((rd_T86 l1 x25_3).f1) p354 q354; obtain rfl : ad353 = ad354 := (by injection e354); replace p354 := eq_true p354; replace q354 := eq_true q354) | (go_at_call 102; (with_reducible refine (spec_l1Least.calls (rd x5_3 ((rd_T86 l1 x25_3).f0)) (rd x5_3 ((rd_T86 l1 x25_3).f1)) t355 _ A15.out).mono ?_); rintro e w' ⟨rfl, ⟨nd, rfl⟩⟩; (try first | exact ⟨rfl, _, World.drewN_drewN _ _ _⟩ | exact ⟨rfl, _, Eq.trans (World.drewN_drewN _ _ _) (congrArg (World.drewN _) (Nat.add_assoc _ _ _))⟩); have p16 : 0 ≤ (((rd_T86 l1 x25_3).f0) : Int) := of_decide_eq_true (by first | (with_reducible assumption) | assumption); have q16 : (((rd_T86 l1 x25_3).f0) : Int) < ((x5_3.length : Int) : Int) := of_decide_eq_true (by first | (with_reducible assumption) | assumption); obtain ⟨go16, co16, eo16, gb16, gl16, cl16, HG16⟩ := Kd.R_form HO_5.out (by omega); (first | cases eo16 | (injection eo16 with ea_ en_ ec_; (first | subst ea_ | (injection ea_ with ea_; subst ea_)); subst ec_; clear en_)); have GB16 := Aside0.mk gb16; have GG16 := Aside0.mk HG16; clear gb16 gl16 HG16; (first | simp only [add_plain] at hx353_0 | skip); (first | simp only [add_plain] at hx354_0 | skip); obtain ⟨hx16_0, hf16_0⟩ := Kd.R_celln 0 HO_5.out (((rd_T86 l1 x25_3).f0) : Int) p16 q16; replace p16 := eq_true p16; replace q16 := eq_true q16; obtain ⟨hy22_, hz22_⟩ := Kd.R_celln 0 HO_5.out (((rd_T86 l1 x25_3).f0) : Int) (of_decide_eq_true (by first | (with_reducible assumption) | assumption)) (of_decide_eq_true (by first | (with_reducible assumption) | assumption)); have HP22 := Kd.R_putg HO_5.out (((rd_T86 l1 x25_3).f0) : Int) t355) | ((with_reducible refine gate_store (t := 3) (p := 44) rfl ?_); (try (rw [drewN_self w20]; generalize hq_ : World.drewN w20 _ = w20; replace HO_5 := Aside0.mk (Kd.R_at hq_ HO_5.out); replace BK352 := Aside0.mk (blk_at hq_ BK352.out); replace HB := Aside0.mk (below_at hq_ HB.out); clear hq_; (try (obtain ⟨hy22_, hz22_⟩ := Kd.R_celln 0 HO_5.out (((rd_T86 l1 x25_3).f0) : Int) (of_decide_eq_true (by first | (with_reducible assumption) | assumption)) (of_decide_eq_true (by first | (with_reducible assumption) | assumption)))); (try (have HP22 := Kd.R_putg HO_5.out (((rd_T86 l1 x25_3).f0) : Int) t355)))); refine store_event (t := 3) (p := 44) (v := ?vo_w23) (w1 := (w20.setCell ⟨go16, (((rd_T86 l1 x25_3).f0) : Int).toNat, none⟩ (.int .i64 t355))) ?hg ?ho ?hn ?hr ?_; (case ho => rfl); (case hg => rfl); (case hn => rfl); (case hr => first | (go_simp; done) | (go_simp; rfl)); intro w23 hw; have hg : w20.grownBy w23 (some go16) := (by rw [hw]; exact HP22.2); have hp_ : Kd.R (Kd.int .i64) 3 w23 w.heap.size (fun _ => True) (.slice (some ⟨go16, 0, none⟩) x5_3.length co6) y356 := (by rw [hw, Ny356.out]; exact HP22.1); clear HP22; replace BK352 := Aside0.mk (blk_grown (g := gb352) (o := .cells #[.int .i64 ((rd_T86 l1 x25_3).f0), .int .i64 ((rd_T86 l1 x25_3).f1), .int .i64 ((rd_T86 l1 x25_3).f2)] 86 (0, 0)) (ba BK352.out) hg (Kd.R_ne HO_5.out BK352.out (by decide))); replace HO_5 := Aside0.mk (hp_); replace HB := Aside0.mk ((by rw [hw]; exact below_set (HB.out) GB16.out : Below w.heap.size w w23)); clear hg hw hp_; have hcz24_0 : w23.cell? ⟨gb352, 0, none⟩ = some (.int .i64 ((rd_T86 l1 x25_3).f0)) := bc_ BK352 0; have hcz24_1 : w23.cell? ⟨gb352, 1, none⟩ = some (.int .i64 ((rd_T86 l1 x25_3).f1)) := bc_ BK352 1; have hcz24_2 : w23.cell? ⟨gb352, 2, none⟩ = some (.int .i64 ((rd_T86 l1 x25_3).f2)) := bc_ BK352 2; have hfz24_0 := blk_frozen BK352.out 0; have hfz24_1 := blk_frozen BK352.out 1; have hfz24_2 := blk_frozen BK352.out 2; have p17 : 0 ≤ (((rd_T86 l1 x25_3).f1) : Int) := of_decide_eq_true (by first | (with_reducible assumption) | assumption); have q17 : (((rd_T86 l1 x25_3).f1) : Int) < ((x5_3.length : Int) : Int) := of_decide_eq_true (by first | (with_reducible assumption) | assumption); obtain ⟨hx17_0, hf17_0⟩ := Kd.R_celln 0 HO_5.out (((rd_T86 l1 x25_3).f1) : Int) p17 q17; replace p17 := eq_true p17; replace q17 := eq_true q17; obtain ⟨hy25_, hz25_⟩ := Kd.R_celln 0 HO_5.out (((rd_T86 l1 x25_3).f1) : Int) (of_decide_eq_true (by first | (with_reducible assumption) | assumption)) (of_decide_eq_true (by first | (with_reducible assumption) | assumption)); have HP25 := Kd.R_putg HO_5.out (((rd_T86 l1 x25_3).f1) : Int) t355) | ((with_reducible refine gate_store (t := 3) (p := 49) rfl ?_); (try (rw [drewN_self w23]; generalize hq_ : World.drewN w23 _ = w23; replace HO_5 := Aside0.mk (Kd.R_at hq_ HO_5.out); replace BK352 := Aside0.mk (blk_at hq_ BK352.out); replace HB := Aside0.mk (below_at hq_ HB.out); clear hq_; (try (obtain ⟨hy25_, hz25_⟩ := Kd.R_celln 0 HO_5.out (((rd_T86 l1 x25_3).f1) : Int) (of_decide_eq_true (by first | (with_reducible assumption) | assumption)) (of_decide_eq_true (by first | (with_reducible assumption) | assumption)))); (try (have HP25 := Kd.R_putg HO_5.out (((rd_T86 l1 x25_3).f1) : Int) t355)))); refine store_event (t := 3) (p := 49) (v := ?vo_w26) (w1 := (w23.setCell ⟨go16, (((rd_T86 l1 x25_3).f1) : Int).toNat, none⟩ (.int .i64 t355))) ?hg ?ho ?hn ?hr ?_; (case ho => rfl); (case hg => rfl); (case hn => rfl); (case hr => first | (go_simp; done) | (go_simp; rfl)); intro w26 hw; have hg : w23.grownBy w26 (some go16) := (by rw [hw]; exact HP25.2); have hp_ : Kd.R (Kd.int .i64) 3 w26 w.heap.size (fun _ => True) (.slice (some ⟨go16, 0, none⟩) x5_3.length co6) y357 := (by rw [hw, Ny357.out]; exact HP25.1); clear HP25; replace BK352 := Aside0.mk (blk_grown (g := gb352) (o := .cells #[.int .i64 ((rd_T86 l1 x25_3).f0), .int .i64 ((rd_T86 l1 x25_3).f1), .int .i64 ((rd_T86 l1 x25_3).f2)] 86 (0, 0)) (ba BK352.out) hg (Kd.R_ne HO_5.out BK352.out (by decide))); replace HO_5 := Aside0.mk (hp_); replace HB := Aside0.mk ((by rw [hw]; exact below_set (HB.out) GB16.out : Below w.heap.size w w26)); clear hg hw hp_)))
       (try simp only [← hl5_3])
       go_roundg k3
       case measure => have := HK1.out; have := HK2.out; have := HK3.out; omega
       case rel => exact ⟨(y357), (wrap64 (x25_3 + 1)), (by first | rfl | (simp; done) | (simp [*]; done)), H', ⟨by have := HK1.out; have := HK2.out; have := HK3.out; omega⟩, ⟨by (try simp only [hl5_2]); (try simp only [hl5_3]); (with_reducible repeat (first | apply Kd.R_alloc | apply Kd.R_drewN | apply Kd.R_drew)); exact HO_5.out⟩, ⟨hB HB⟩⟩

def spec_CanReach.f (k : Nat) (a0_0 : Int) (l0_1 : List (S86)) (l0_2 : List Int) (l0_3 : List (S130)) (a1 : Int) (a2 : Int) : Option (Bool × Bool) := (spec_l17Spots.f k a0_0 l0_1 l0_2 l0_3 a1 a2).bind fun bt359 => (if bt359.2.2 = true then ((spec_l17Up.f k a0_0 l0_1 l0_2 l0_3).bind fun t362 => ((spec_l8Groups.f k a0_0 t362).bind fun t365 => (if 0 ≤ bt359.1 then (if bt359.1 < (t365.length : Int) then (if 0 ≤ bt359.2.1 then (if bt359.2.1 < (t365.length : Int) then (some (((rd t365 bt359.1) == (rd t365 bt359.2.1)), true)) else (none)) else (none)) else (none)) else (none)))) else (some (false, false)))
theorem spec_CanReach.mono : ∀ a0 a1 a2 a3 a4 a5 k, LeO (spec_CanReach.f k a0 a1 a2 a3 a4 a5) (spec_CanReach.f (k + 1) a0 a1 a2 a3 a4 a5) := by
 intro a0 a1 a2 a3 a4 a5 k
 unfold spec_CanReach.f
 repeat' first
   | (with_reducible exact spec_l17Spots.mono _ _ _ _ _ _ _)
   | (with_reducible exact spec_l17Up.mono _ _ _ _ _)
   | (with_reducible exact spec_l8Groups.mono _ _ _)
   | (with_reducible exact LeO.refl _)
   | (with_reducible exact LeO.none _)
   | (with_reducible refine LeO.ite ?_ ?_)
   | (with_reducible refine LeO.bind ?_ (fun _ => ?_))
def spec_CanReach.T5 : Bool × List (List Nat × List Nat) := (true, [([], []), ([], []), ([0, 1], [0, 1]), ([2], [2]), ([], []), ([], []), ([4, 5], [4, 5]), ([6], [6]), ([3, 7], [3, 7]), ([8, 0, 1, 2, 3, 4, 5, 6, 7, 8], [8]), ([9, 0, 1, 2, 3, 4, 5, 6, 7, 8, 9], [])])
def spec_CanReach.B5 : List Nat := [0, 0, 3, 7, 0, 0, 48, 112, 255, 511, 1023]
theorem spec_CanReach.tab5 : rtab .any (opsOf Try.f20 5) = spec_CanReach.T5 := by kernel_rfl
theorem spec_CanReach.bits5 : waitsOk spec_CanReach.T5.2 spec_CanReach.B5 = true := by kernel_rfl
set_option maxHeartbeats 8000000 in
set_option maxRecDepth 100000 in
theorem spec_CanReach.calls (k : Nat) (a0_0 : Int) (A0_1 : Option Addr) (c0_1 : Nat) (l0_1 : List (S86)) (A0_2 : Option Addr) (c0_2 : Nat) (l0_2 : List Int) (A0_3 : Option Addr) (c0_3 : Nat) (l0_3 : List (S130)) (a1 : Int) (a2 : Int) (r1 : Bool) (r2 : Bool) (w : World) (hr0_1 : Kd.C k86 w A0_1 l0_1.length l0_1) (hc0_1 : l0_1.length ≤ c0_1) (hr0_2 : Kd.C (Kd.int .i64) w A0_2 l0_2.length l0_2) (hc0_2 : l0_2.length ≤ c0_2) (hr0_3 : Kd.C k130 w A0_3 l0_3.length l0_3) (hc0_3 : l0_3.length ≤ c0_3) (h : spec_CanReach.f k a0_0 l0_1 l0_2 l0_3 a1 a2 = some (r1, r2)) :
  Calls Try.prog 20 #[.agg #[.int .i64 a0_0, .slice A0_1 l0_1.length c0_1, .slice A0_2 l0_2.length c0_2, .slice A0_3 l0_3.length c0_3], .int .i64 a1, .int .i64 a2] w fun e w' => e = .returned (.tuple #[.bool r1, .bool r2]) ∧ Below w.heap.size w w' := by
 have hu33 := Try.underlying33
 have HR0_1 := Aside0.mk hr0_1
 have HC0_1 := Aside0.mk hc0_1
 clear hr0_1 hc0_1
 have HR0_2 := Aside0.mk hr0_2
 have HC0_2 := Aside0.mk hc0_2
 clear hr0_2 hc0_2
 have HR0_3 := Aside0.mk hr0_3
 have HC0_3 := Aside0.mk hc0_3
 clear hr0_3 hc0_3
 have HB := Aside0.mk (Below.refl w.heap.size w)
 have H : ((spec_l17Spots.f k a0_0 l0_1 l0_2 l0_3 a1 a2).bind fun bt359 => (if bt359.2.2 = true then ((spec_l17Up.f k a0_0 l0_1 l0_2 l0_3).bind fun t362 => ((spec_l8Groups.f k a0_0 t362).bind fun t365 => (if 0 ≤ bt359.1 then (if bt359.1 < (t365.length : Int) then (if 0 ≤ bt359.2.1 then (if bt359.2.1 < (t365.length : Int) then (some (((rd t365 bt359.1) == (rd t365 bt359.2.1)), true)) else (none)) else (none)) else (none)) else (none)))) else (some (false, false)))) = some (r1, r2) := h
 clear h
 replace H := Option.bind_eq_some_iff.mp H
 obtain ⟨⟨t359, t360, t361⟩, A40, H⟩ := H
 replace H : (if t361 = true then ((spec_l17Up.f k a0_0 l0_1 l0_2 l0_3).bind fun t362 => ((spec_l8Groups.f k a0_0 t362).bind fun t365 => (if 0 ≤ t359 then (if t359 < (t365.length : Int) then (if 0 ≤ t360 then (if t360 < (t365.length : Int) then (some (((rd t365 t359) == (rd t365 t360)), true)) else (none)) else (none)) else (none)) else (none)))) else (some (false, false))) = some (r1, r2) := H
 have A4 := Aside0.mk A40
 clear A40
 by_cases c5 : t361 = true
 rotate_left
 ·replace c5 := Bool.eq_false_iff.mpr c5
  subst c5
  rw [if_neg (show ¬ (false = true) by decide)] at H
  simp only [Option.some.injEq, Prod.mk.injEq] at H
  obtain ⟨rfl, rfl⟩ := H
  go_enter Try.func20, Try.ntmps20
  go_wp2_with (first | ((with_reducible refine gate_dst (N := 3) rfl ?_); refine box_event ?hg (N := 3) ?hd (cs := #[.int .i64 a0_0, .slice A0_1 l0_1.length c0_1, .slice A0_2 l0_2.length c0_2, .slice A0_3 l0_3.length c0_3]) (t := 33) ?hr ?_; (case hd => rfl); (case hg => rfl); (case hr => first | (go_simp; done) | (go_simp; rfl)); intro gb358 hg w21 hbox hb; have BK358 := Aside0.mk (hbox); have GW358 := gw_ hg HB; have GE358 := gw_ hg HB; replace HB := bst_ HB hb; clear hb hbox hg; have hcz22_0 : w21.cell? ⟨gb358, 0, none⟩ = some (.int .i64 a0_0) := bc_ BK358 0; have hcz22_1 : w21.cell? ⟨gb358, 1, none⟩ = some (.slice A0_1 l0_1.length c0_1) := bc_ BK358 1; have hcz22_2 : w21.cell? ⟨gb358, 2, none⟩ = some (.slice A0_2 l0_2.length c0_2) := bc_ BK358 2; have hcz22_3 : w21.cell? ⟨gb358, 3, none⟩ = some (.slice A0_3 l0_3.length c0_3) := bc_ BK358 3; have hfz22_0 := blk_frozen BK358.out 0; have hfz22_1 := blk_frozen BK358.out 1; have hfz22_2 := blk_frozen BK358.out 2; have hfz22_3 := blk_frozen BK358.out 3) | ((with_reducible refine gate_callee (f := 62) rfl ?_); refine goesL_ (some 16) rfl rfl Try.func62 (by kernel_rfl) rfl #[.agg #[.int .i64 a0_0, .slice A0_1 l0_1.length c0_1, .slice A0_2 l0_2.length c0_2, .slice A0_3 l0_3.length c0_3], .int .i64 a1, .int .i64 a2] rfl tm_ ?_; (with_reducible refine (spec_l17Spots.calls k a0_0 _ _ l0_1 _ _ l0_2 _ _ l0_3 a1 a2 t359 t360 false _ ?side1 ?side2 ?side3 ?side4 ?side5 ?side6 A4.out).mono ?_); (case side1 => exact ca (Kd.C_below HR0_1.out HB.out)); (case side2 => exact HC0_1.out); (case side3 => exact ca (Kd.C_below HR0_2.out HB.out)); (case side4 => exact HC0_2.out); (case side5 => exact ca (Kd.C_below HR0_3.out HB.out)); (case side6 => exact HC0_3.out); rintro e w23 ⟨rfl, hb⟩; refine ⟨_, rfl, ?_⟩; replace BK358 := bb_ BK358 hb; replace HB := bst_ HB hb; clear hb))
  go_ret2
  exact ⟨by first | rfl | (simp [errW_none, errW_some] <;> rfl) | (simp [*, errW_none, errW_some] <;> rfl), by repeat (first | (with_reducible first | exact HB.out | apply below_alloc | apply pw_below_drewN | apply below_drew1 | refine below_set ?_ GE358.out) | exact HB.out)⟩
 subst c5
 rw [if_pos rfl] at H
 replace H := Option.bind_eq_some_iff.mp H
 obtain ⟨t362, A60, H⟩ := H
 replace H : ((spec_l8Groups.f k a0_0 t362).bind fun t365 => (if 0 ≤ t359 then (if t359 < (t365.length : Int) then (if 0 ≤ t360 then (if t360 < (t365.length : Int) then (some (((rd t365 t359) == (rd t365 t360)), true)) else (none)) else (none)) else (none)) else (none))) = some (r1, r2) := H
 have A6 := Aside0.mk A60
 clear A60
 replace H := Option.bind_eq_some_iff.mp H
 obtain ⟨t365, A70, H⟩ := H
 replace H : (if 0 ≤ t359 then (if t359 < (t365.length : Int) then (if 0 ≤ t360 then (if t360 < (t365.length : Int) then (some (((rd t365 t359) == (rd t365 t360)), true)) else (none)) else (none)) else (none)) else (none)) = some (r1, r2) := H
 have A7 := Aside0.mk A70
 clear A70
 by_cases c8 : 0 ≤ t359
 rotate_left
 ·rw [if_neg c8] at H
  exact absurd H (by simp)
 rw [if_pos c8] at H
 have c8b0 : decide (0 ≤ t359) = true := decide_eq_true c8
 clear c8
 by_cases c9 : t359 < (t365.length : Int)
 rotate_left
 ·rw [if_neg c9] at H
  exact absurd H (by simp)
 rw [if_pos c9] at H
 have c9b0 : decide (t359 < (t365.length : Int)) = true := decide_eq_true c9
 clear c9
 by_cases c10 : 0 ≤ t360
 rotate_left
 ·rw [if_neg c10] at H
  exact absurd H (by simp)
 rw [if_pos c10] at H
 have c10b0 : decide (0 ≤ t360) = true := decide_eq_true c10
 clear c10
 by_cases c11 : t360 < (t365.length : Int)
 rotate_left
 ·rw [if_neg c11] at H
  exact absurd H (by simp)
 rw [if_pos c11] at H
 have c11b0 : decide (t360 < (t365.length : Int)) = true := decide_eq_true c11
 clear c11
 simp only [Option.some.injEq, Prod.mk.injEq] at H
 obtain ⟨rfl, rfl⟩ := H
 go_enter Try.func20, Try.ntmps20
 try go_wp2_with (first | ((with_reducible refine gate_dst (N := 3) rfl ?_); refine box_event ?hg (N := 3) ?hd (cs := #[.int .i64 a0_0, .slice A0_1 l0_1.length c0_1, .slice A0_2 l0_2.length c0_2, .slice A0_3 l0_3.length c0_3]) (t := 33) ?hr ?_; (case hd => rfl); (case hg => rfl); (case hr => first | (go_simp; done) | (go_simp; rfl)); intro gb358 hg w12 hbox hb; have BK358 := Aside0.mk (hbox); have GW358 := gw_ hg HB; have GE358 := gw_ hg HB; replace HB := bst_ HB hb; clear hb hbox hg; have hcz13_0 : w12.cell? ⟨gb358, 0, none⟩ = some (.int .i64 a0_0) := bc_ BK358 0; have hcz13_1 : w12.cell? ⟨gb358, 1, none⟩ = some (.slice A0_1 l0_1.length c0_1) := bc_ BK358 1; have hcz13_2 : w12.cell? ⟨gb358, 2, none⟩ = some (.slice A0_2 l0_2.length c0_2) := bc_ BK358 2; have hcz13_3 : w12.cell? ⟨gb358, 3, none⟩ = some (.slice A0_3 l0_3.length c0_3) := bc_ BK358 3; have hfz13_0 := blk_frozen BK358.out 0; have hfz13_1 := blk_frozen BK358.out 1; have hfz13_2 := blk_frozen BK358.out 2; have hfz13_3 := blk_frozen BK358.out 3) | ((with_reducible refine gate_callee (f := 62) rfl ?_); refine goesL_ (some 16) rfl rfl Try.func62 (by kernel_rfl) rfl #[.agg #[.int .i64 a0_0, .slice A0_1 l0_1.length c0_1, .slice A0_2 l0_2.length c0_2, .slice A0_3 l0_3.length c0_3], .int .i64 a1, .int .i64 a2] rfl tm_ ?_; (with_reducible refine (spec_l17Spots.calls k a0_0 _ _ l0_1 _ _ l0_2 _ _ l0_3 a1 a2 t359 t360 true _ ?side1 ?side2 ?side3 ?side4 ?side5 ?side6 A4.out).mono ?_); (case side1 => exact ca (Kd.C_below HR0_1.out HB.out)); (case side2 => exact HC0_1.out); (case side3 => exact ca (Kd.C_below HR0_2.out HB.out)); (case side4 => exact HC0_2.out); (case side5 => exact ca (Kd.C_below HR0_3.out HB.out)); (case side6 => exact HC0_3.out); rintro e w14 ⟨rfl, hb⟩; refine ⟨_, rfl, ?_⟩; replace BK358 := bb_ BK358 hb; replace HB := bst_ HB hb; clear hb))
 replace BK358 := bd_ BK358
 replace HB := Aside0.mk (below_drew1 HB.out)
 refine start_ (n := 6) (S := fun w' => w'.cell? ⟨gb358, 0, none⟩ = some (.int .i64 a0_0) ∧ w'.cell? ⟨gb358, 1, none⟩ = some (.slice A0_1 l0_1.length c0_1) ∧ w'.cell? ⟨gb358, 2, none⟩ = some (.slice A0_2 l0_2.length c0_2) ∧ w'.cell? ⟨gb358, 3, none⟩ = some (.slice A0_3 l0_3.length c0_3)) (ds := []) (bs 6 0) (by kernel_rfl) rfl rfl ⟨bc_ BK358 0, bc_ BK358 1, bc_ BK358 2, bc_ BK358 3⟩ (fun hHeld => ?_)
 generalize w14.drew = w15 at BK358 HB hHeld ⊢
 refine pure_ (i := 0) (N := some 22) (v := ?_) (a' := ?_) (bs 6 1) rfl rfl (by kernel_rfl) (fun _ _ _ h => h) (Or.inl ⟨by rfl, ?_⟩) ?_ ?_
 rotate_left
 ·intro w'
  go_simp
  with_reducible rfl
 rotate_left
 ·simp only [Act.put, List.setIfInBounds_toArray, List.set_cons_zero, List.set_cons_succ, i64_w, i32_w]
  rfl
 refine take_ (i := 1) (N := some 23) (v := ?_) (a' := ?_) (bs 6 3) rfl rfl (by kernel_rfl) (fun _ _ _ h => h) (Or.inl ⟨by rfl, ?_⟩) hHeld ?_ ?_
 rotate_left
 ·rintro w' ⟨s0, s1, s2, s3⟩
  go_simp
  with_reducible rfl
 rotate_left
 ·simp only [Act.put, List.setIfInBounds_toArray, List.set_cons_zero, List.set_cons_succ, i64_w, i32_w]
  rfl
 refine take_ (i := 2) (N := some 24) (v := ?_) (a' := ?_) (bs 6 7) rfl rfl (by kernel_rfl) (fun _ _ _ h => h) (Or.inl ⟨by rfl, ?_⟩) hHeld ?_ ?_
 rotate_left
 ·rintro w' ⟨s0, s1, s2, s3⟩
  go_simp
  with_reducible rfl
 rotate_left
 ·simp only [Act.put, List.setIfInBounds_toArray, List.set_cons_zero, List.set_cons_succ, i64_w, i32_w]
  rfl
 refine one_ (i := 3) (N := some 25) (bs 6 15) rfl rfl (by kernel_rfl) (by decide) (fun K hK => ?_)
 refine goes_ Try.func54 (by kernel_rfl) rfl #[.agg #[.int .i64 a0_0, .slice A0_1 l0_1.length c0_1, .slice A0_2 l0_2.length c0_2, .slice A0_3 l0_3.length c0_3]] (by rfl) rfl rfl tm_ ?_
 with_reducible refine (spec_l17Up.calls k a0_0 _ _ l0_1 _ _ l0_2 _ _ l0_3 t362 _ ?side1 ?side2 ?side3 ?side4 ?side5 ?side6 A6.out).mono ?_
 (case side1 => exact ca (Kd.C_below HR0_1.out HB.out))
 (case side2 => exact HC0_1.out)
 (case side3 => exact ca (Kd.C_below HR0_2.out HB.out))
 (case side4 => exact HC0_2.out)
 (case side5 => exact ca (Kd.C_below HR0_3.out HB.out))
 (case side6 => exact HC0_3.out)
 rintro e w16 ⟨v363, rfl, ho0, hb⟩
 refine ⟨_, rfl, ?_⟩
 have HO364 := Aside0.mk (Kd.R_lower ho0 (below_size (hB HB)))
 replace BK358 := bb_ BK358 hb
 replace HB := bst_ HB hb
 clear hb ho0
 obtain ⟨Ao17, co17, eo17⟩ := Kd.R_slice HO364.out
 subst eo17
 refine hK.out _ _ ⟨bc_ BK358 0, bc_ BK358 1, bc_ BK358 2, bc_ BK358 3⟩ (fun hHeld => ?_)
 clear hK K
 refine nm_ 25 ?_
 refine one_ (i := 4) (N := some 26) (bs 6 31) rfl rfl (by kernel_rfl) (by decide) (fun K hK => ?_)
 refine goes_ Try.func63 (by kernel_rfl) rfl #[.int .i64 a0_0, .slice Ao17 t362.length co17] (by rfl) rfl rfl tm_ ?_
 with_reducible refine (spec_l8Groups.calls k a0_0 _ _ t362 t365 _ ?side1 ?side2 A7.out).mono ?_
 (case side1 => exact ca (Kd.R_reads' HO364.out).2.2)
 (case side2 => exact (Kd.R_reads' HO364.out).2.1)
 rintro e w18 ⟨v366, rfl, ho0, hb⟩
 refine ⟨_, rfl, ?_⟩
 have HO367 := Aside0.mk (Kd.R_lower ho0 (below_size (hB HB)))
 replace HO364 := rb_ HO364 hb
 replace BK358 := bb_ BK358 hb
 replace HB := bst_ HB hb
 clear hb ho0
 refine hK.out _ _ ⟨bc_ BK358 0, bc_ BK358 1, bc_ BK358 2, bc_ BK358 3⟩ (fun hHeld => ?_)
 clear hK K
 refine nm_ 26 ?_
 refine pure_ (i := 5) (N := some 11) (v := ?_) (a' := ?_) (bs 6 63) rfl rfl (by kernel_rfl) (fun _ _ _ h => h) (Or.inl ⟨by rfl, ?_⟩) ?_ ?_
 rotate_left
 ·intro w'
  go_simp
  with_reducible rfl
 rotate_left
 ·simp only [Act.put, List.setIfInBounds_toArray, List.set_cons_zero, List.set_cons_succ, i64_w, i32_w]
  rfl
 refine done_ (by kernel_rfl) ?_
 try go_wp2
 replace HO364 := rd_ HO364
 replace HO367 := rd_ HO367
 replace BK358 := bd_ BK358
 replace HB := Aside0.mk (below_drew1 HB.out)
 obtain ⟨Ao20, co20, eo20⟩ := Kd.R_slice HO367.out
 subst eo20
 have p368 : 0 ≤ (t359 : Int) := of_decide_eq_true (by first | (with_reducible assumption) | assumption)
 have q368 : t359 < (t365.length : Int) := of_decide_eq_true (by first | (with_reducible assumption) | assumption)
 obtain ⟨ad368, e368, hx368_0⟩ := Kd.at_int (Kd.R_reads' HO367.out).2.2 t359 p368 q368
 cases e368
 replace p368 := eq_true p368
 replace q368 := eq_true q368
 have p369 : 0 ≤ (t360 : Int) := of_decide_eq_true (by first | (with_reducible assumption) | assumption)
 have q369 : t360 < (t365.length : Int) := of_decide_eq_true (by first | (with_reducible assumption) | assumption)
 obtain ⟨ad369, e369, hx369_0⟩ := Kd.at_int (Kd.R_reads' HO367.out).2.2 t360 p369 q369
 obtain rfl : ad368 = ad369 := (by injection e369)
 replace p369 := eq_true p369
 replace q369 := eq_true q369
 refine start_ (n := 11) (S := fun w' => w'.cell? (ad368.add (t359).toNat) = some (.int .i64 (rd t365 t359)) ∧ w'.cell? (ad368.add (t360).toNat) = some (.int .i64 (rd t365 t360))) (ds := []) (bs 11 0) (by kernel_rfl) rfl rfl ⟨hx368_0, hx369_0⟩ (fun hHeld => ?_); refine with_tabW spec_CanReach.tab5 spec_CanReach.bits5 (fun HT_ HW_ => ?_)
 generalize w18.drew = w19 at HO364 HO367 BK358 HB hx368_0 hx369_0 hHeld ⊢
 refine pu_ 0 27 (bs 11 1) HT_ ?_
 refine pu_ 1 28 (bs 11 3) HT_ ?_
 refine pu_ 2 29 (bs 11 7) HT_ ?_
 refine pu_ 4 31 (bs 11 23) HT_ ?_
 refine pu_ 5 32 (bs 11 55) HT_ ?_
 refine pu_ 6 33 (bs 11 119) HT_ ?_
 refine tk_ 3 30 (bs 11 127) HT_ HW_ hHeld ?_
 refine tk_ 7 34 (bs 11 255) HT_ HW_ hHeld ?_
 refine pu_ 8 35 (bs 11 511) HT_ ?_
 refine pu_ 9 6 (bs 11 1023) HT_ ?_
 refine pu_ 10 7 (bs 11 2047) HT_ ?_
 refine done_ (done_of HT_.out (by kernel_rfl)) ?_
 try go_wp2
 go_ret2
 exact ⟨by first | rfl | (simp [errW_none, errW_some] <;> rfl) | (simp [*, errW_none, errW_some] <;> rfl), by repeat (first | (with_reducible first | exact HB.out | apply below_alloc | apply pw_below_drewN | apply below_drew1 | refine below_set ?_ GE358.out) | exact HB.out)⟩

def impl_CanReach.f (k : Nat) (a0_0 : Int) (l0_1 : List (S86)) (l0_2 : List Int) (l0_3 : List (S130)) (a1 : Int) (a2 : Int) : Option (Bool × Bool) := (impl_SendOne.f k a0_0 l0_1 l0_2 l0_3 a1 a2).bind fun bt456 => (some (bt456.2.1, bt456.2.2))
theorem impl_CanReach.mono : ∀ a0 a1 a2 a3 a4 a5 k, LeO (impl_CanReach.f k a0 a1 a2 a3 a4 a5) (impl_CanReach.f (k + 1) a0 a1 a2 a3 a4 a5) := by
 intro a0 a1 a2 a3 a4 a5 k
 unfold impl_CanReach.f
 repeat' first
   | (with_reducible exact impl_SendOne.mono _ _ _ _ _ _ _)
   | (with_reducible exact LeO.refl _)
   | (with_reducible exact LeO.none _)
   | (with_reducible refine LeO.ite ?_ ?_)
   | (with_reducible refine LeO.bind ?_ (fun _ => ?_))
set_option maxHeartbeats 8000000 in
set_option maxRecDepth 100000 in
theorem impl_CanReach.calls (k : Nat) (a0_0 : Int) (A0_1 : Option Addr) (c0_1 : Nat) (l0_1 : List (S86)) (A0_2 : Option Addr) (c0_2 : Nat) (l0_2 : List Int) (A0_3 : Option Addr) (c0_3 : Nat) (l0_3 : List (S130)) (a1 : Int) (a2 : Int) (r1 : Bool) (r2 : Bool) (w : World) (hr0_1 : Kd.C k86 w A0_1 l0_1.length l0_1) (hc0_1 : l0_1.length ≤ c0_1) (hr0_2 : Kd.C (Kd.int .i64) w A0_2 l0_2.length l0_2) (hc0_2 : l0_2.length ≤ c0_2) (hr0_3 : Kd.C k130 w A0_3 l0_3.length l0_3) (hc0_3 : l0_3.length ≤ c0_3) (h : impl_CanReach.f k a0_0 l0_1 l0_2 l0_3 a1 a2 = some (r1, r2)) :
  Calls Try.prog 21 #[.agg #[.int .i64 a0_0, .slice A0_1 l0_1.length c0_1, .slice A0_2 l0_2.length c0_2, .slice A0_3 l0_3.length c0_3], .int .i64 a1, .int .i64 a2] w fun e w' => e = .returned (.tuple #[.bool r1, .bool r2]) ∧ Below w.heap.size w w' := by
 have hu33 := Try.underlying33
 have HR0_1 := Aside0.mk hr0_1
 have HC0_1 := Aside0.mk hc0_1
 clear hr0_1 hc0_1
 have HR0_2 := Aside0.mk hr0_2
 have HC0_2 := Aside0.mk hc0_2
 clear hr0_2 hc0_2
 have HR0_3 := Aside0.mk hr0_3
 have HC0_3 := Aside0.mk hc0_3
 clear hr0_3 hc0_3
 have HB := Aside0.mk (Below.refl w.heap.size w)
 have H : ((impl_SendOne.f k a0_0 l0_1 l0_2 l0_3 a1 a2).bind fun bt456 => (some (bt456.2.1, bt456.2.2))) = some (r1, r2) := h
 clear h
 replace H := Option.bind_eq_some_iff.mp H
 obtain ⟨⟨t456, t459, t460⟩, A40, H⟩ := H
 replace H : (some (t459, t460)) = some (r1, r2) := H
 have A4 := Aside0.mk A40
 clear A40
 simp only [Option.some.injEq, Prod.mk.injEq] at H
 obtain ⟨rfl, rfl⟩ := H
 go_enter Try.func21, Try.ntmps21
 go_wp2_with (first | ((with_reducible refine gate_dst (N := 3) rfl ?_); refine box_event ?hg (N := 3) ?hd (cs := #[.int .i64 a0_0, .slice A0_1 l0_1.length c0_1, .slice A0_2 l0_2.length c0_2, .slice A0_3 l0_3.length c0_3]) (t := 33) ?hr ?_; (case hd => rfl); (case hg => rfl); (case hr => first | (go_simp; done) | (go_simp; rfl)); intro gb455 hg w5 hbox hb; have BK455 := Aside0.mk (hbox); have GW455 := gw_ hg HB; have GE455 := gw_ hg HB; replace HB := bst_ HB hb; clear hb hbox hg; have hcz6_0 : w5.cell? ⟨gb455, 0, none⟩ = some (.int .i64 a0_0) := bc_ BK455 0; have hcz6_1 : w5.cell? ⟨gb455, 1, none⟩ = some (.slice A0_1 l0_1.length c0_1) := bc_ BK455 1; have hcz6_2 : w5.cell? ⟨gb455, 2, none⟩ = some (.slice A0_2 l0_2.length c0_2) := bc_ BK455 2; have hcz6_3 : w5.cell? ⟨gb455, 3, none⟩ = some (.slice A0_3 l0_3.length c0_3) := bc_ BK455 3; have hfz6_0 := blk_frozen BK455.out 0; have hfz6_1 := blk_frozen BK455.out 1; have hfz6_2 := blk_frozen BK455.out 2; have hfz6_3 := blk_frozen BK455.out 3) | ((with_reducible refine gate_callee (f := 23) rfl ?_); refine goesL_ (some 15) rfl rfl Try.func23 (by kernel_rfl) rfl #[.agg #[.int .i64 a0_0, .slice A0_1 l0_1.length c0_1, .slice A0_2 l0_2.length c0_2, .slice A0_3 l0_3.length c0_3], .int .i64 a1, .int .i64 a2] rfl tm_ ?_; (with_reducible refine (impl_SendOne.calls k a0_0 _ _ l0_1 _ _ l0_2 _ _ l0_3 a1 a2 t456 t459 t460 _ ?side1 ?side2 ?side3 ?side4 ?side5 ?side6 A4.out).mono ?_); (case side1 => exact ca (Kd.C_below HR0_1.out HB.out)); (case side2 => exact HC0_1.out); (case side3 => exact ca (Kd.C_below HR0_2.out HB.out)); (case side4 => exact HC0_2.out); (case side5 => exact ca (Kd.C_below HR0_3.out HB.out)); (case side6 => exact HC0_3.out); rintro e w7 ⟨v457, rfl, ho0, hb⟩; refine ⟨_, rfl, ?_⟩; have HO458 := Aside0.mk (Kd.R_lower ho0 (below_size (hB HB))); replace BK455 := bb_ BK455 hb; replace HB := bst_ HB hb; clear hb ho0))
 go_ret2
 exact ⟨by first | rfl | (simp [errW_none, errW_some] <;> rfl) | (simp [*, errW_none, errW_some] <;> rfl), by repeat (first | (with_reducible first | exact HB.out | apply below_alloc | apply pw_below_drewN | apply below_drew1 | refine below_set ?_ GE455.out) | exact HB.out)⟩

end Go.Proofs.Ytpohlcjkabojcaa.P
