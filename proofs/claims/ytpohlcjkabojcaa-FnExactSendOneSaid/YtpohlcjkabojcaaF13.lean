import Derived.Test.YtpohlcjkabojcaaF0
import Derived.Test.YtpohlcjkabojcaaF6
import Derived.Test.YtpohlcjkabojcaaF11
import Derived.Test.YtpohlcjkabojcaaF12
namespace Go.Proofs.Ytpohlcjkabojcaa.P
open Go.RowKit Go.Proofs.YtpohlcjkabojcaaW.PrintWords Go.Proofs.YtpohlcjkabojcaaW.PrintLast Go.Proofs.YtpohlcjkabojcaaW.PrintMore
attribute [local go_sem] max2_int min2_int max_two min_two max_three min_three max_four min_four   -- for this text's walks alone
set_option linter.unusedVariables false
set_option linter.unusedSimpArgs false

def impl_hops.l0 : Nat → List (S86) → Int → List Int → List Int → List Int → Int → Int → Option (List Int)
 | 0, _, _, _, _, _, _, _ => none
 | k + 1, x1, x2, x3, x9, x15, x16, x17 => if x17 < x16 then (if 0 ≤ x17 then (if x17 < (x15.length : Int) then (if 0 ≤ x2 then (if x2 < (x3.length : Int) then (if (rd x3 x2) < 100000 then (if 0 ≤ (rd x15 x17) then (if (rd x15 x17) < (x3.length : Int) then ((impl_cost.f k x1 x2 (rd x15 x17)).bind fun t417 => (if (wrap64 ((rd x3 (rd x15 x17)) + t417)) = (rd x3 x2) then (if x9.length < 17592186044416 then (impl_hops.l0 k x1 x2 x3 (x9 ++ [rd x15 x17]) x15 x16 (wrap64 (x17 + 1))) else (none)) else (impl_hops.l0 k x1 x2 x3 x9 x15 x16 (wrap64 (x17 + 1))))) else (none)) else (none)) else (impl_hops.l0 k x1 x2 x3 x9 x15 x16 (wrap64 (x17 + 1)))) else (none)) else (none)) else (none)) else (none)) else (some x9)
def impl_hops.f (k : Nat) (a0 : Int) (l1 : List (S86)) (a2 : Int) (l3 : List Int) : Option (List Int) := (impl_near.f k a0 l1 a2).bind fun t411 => (impl_hops.l0 k l1 a2 l3 ([] : List Int) t411 (t411.length : Int) 0)
theorem impl_hops.mono_l : ∀ k, (∀ y0 y1 y2 y3 y4 y5 y6, LeO (impl_hops.l0 k y0 y1 y2 y3 y4 y5 y6) (impl_hops.l0 (k + 1) y0 y1 y2 y3 y4 y5 y6))
 | 0 => fun _ _ _ _ _ _ _ r h => by simp [impl_hops.l0] at h
 | k + 1 => by
  have ih0 := impl_hops.mono_l k
  ·intro y0 y1 y2 y3 y4 y5 y6
   unfold impl_hops.l0
   repeat' first
   | (with_reducible exact ih0 _ _ _ _ _ _ _)
   | (with_reducible exact impl_cost.mono _ _ _ _)
   | (with_reducible exact impl_near.mono _ _ _ _)
   | with_reducible first | exact LeO.refl _ | exact LeO.none _ | refine LeO.ite ?_ ?_ | refine LeO.bind ?_ fun _ => ?_
theorem impl_hops.mono : ∀ a0 a1 a2 a3 k, LeO (impl_hops.f k a0 a1 a2 a3) (impl_hops.f (k + 1) a0 a1 a2 a3) := by
 intro a0 a1 a2 a3 k
 have ih0 := impl_hops.mono_l k
 unfold impl_hops.f
 repeat' first
   | (with_reducible exact ih0 _ _ _ _ _ _ _)
   | (with_reducible exact impl_cost.mono _ _ _ _)
   | (with_reducible exact impl_near.mono _ _ _ _)
   | with_reducible first | exact LeO.refl _ | exact LeO.none _ | refine LeO.ite ?_ ?_ | refine LeO.bind ?_ fun _ => ?_
def impl_hops.T5 : Bool × List (List Nat × List Nat) := (true, [([], []), ([], []), ([0, 1], [0, 1]), ([2], [2]), ([3], [3]), ([4], [4]), ([5], [5]), ([5], [5]), ([6, 7, 5], [5, 6, 7]), ([8, 5], [5, 8]), ([5], [5]), ([5], [5]), ([5], [5]), ([10, 11, 12, 5, 5], [5, 10, 11, 12]), ([9, 13, 5], [5, 9, 13]), ([5], [5]), ([5], [5]), ([15, 16, 5], [5, 15, 16]), ([17, 5], [5, 17]), ([14, 18, 5], [5, 14, 18]), ([5, 19], [5, 19])])
def impl_hops.B5 : List Nat := [0, 0, 3, 7, 15, 31, 63, 63, 255, 511, 63, 63, 63, 7231, 16383, 63, 63, 98367, 229439, 524287, 1048575]
theorem impl_hops.tab5 : rtab .any (opsOf Try.f108 5) = impl_hops.T5 := by kernel_rfl
theorem impl_hops.bits5 : waitsOk impl_hops.T5.2 impl_hops.B5 = true := by kernel_rfl
set_option maxHeartbeats 8000000 in
set_option maxRecDepth 100000 in
theorem impl_hops.calls (k : Nat) (a0 : Int) (A1 : Option Addr) (c1 : Nat) (l1 : List (S86)) (a2 : Int) (A3 : Option Addr) (c3 : Nat) (l3 : List Int) (r : List Int) (w : World) (hr1 : Kd.C k86 w A1 l1.length l1) (hc1 : l1.length ≤ c1) (hr3 : Kd.C (Kd.int .i64) w A3 l3.length l3) (hc3 : l3.length ≤ c3) (h : impl_hops.f k a0 l1 a2 l3 = some r) :
  Calls Try.prog 108 #[.int .i64 a0, .slice A1 l1.length c1, .int .i64 a2, .slice A3 l3.length c3] w fun e w' => ∃ v0_ : Value, e = .returned (v0_) ∧ Kd.R (Kd.int .i64) 3 w' w.heap.size (fun _ => True) v0_ r ∧ Below w.heap.size w w' := by
 have HR1 := Aside0.mk hr1
 have HC1 := Aside0.mk hc1
 clear hr1 hc1
 have HR3 := Aside0.mk hr3
 have HC3 := Aside0.mk hc3
 clear hr3 hc3
 have HB := Aside0.mk (Below.refl w.heap.size w)
 have H : ((impl_near.f k a0 l1 a2).bind fun t411 => (impl_hops.l0 k l1 a2 l3 ([] : List Int) t411 (t411.length : Int) 0)) = some r := h
 clear h
 replace H := Option.bind_eq_some_iff.mp H
 obtain ⟨t411, A50, H⟩ := H
 replace H : (impl_hops.l0 k l1 a2 l3 ([] : List Int) t411 (t411.length : Int) 0) = some r := H
 have A5 := Aside0.mk A50
 clear A50
 have H' := Aside0.mk H
 clear H
 go_enter Try.func108, Try.ntmps108
 go_wp2_with (first | (refine goesL_ (some 15) rfl rfl Try.func113 (by kernel_rfl) rfl #[.int .i64 a0, .slice A1 l1.length c1, .int .i64 a2] rfl tm_ ?_; (with_reducible refine (impl_near.calls k a0 _ _ l1 a2 t411 _ ?side1 ?side2 A5.out).mono ?_); (case side1 => exact ca HR1.out); (case side2 => exact HC1.out); rintro e w6 ⟨v412, rfl, ho0, hb⟩; refine ⟨_, rfl, ?_⟩; have HO413 := Aside0.mk (Kd.R_lower ho0 (below_size (hB HB))); replace HB := bst_ HB hb; clear hb ho0; obtain ⟨Ao7, co7, eo7⟩ := Kd.R_slice HO413.out; subst eo7))
 go_loopg [9, 17] k (fun kq v9 v17 w' => ∃ (x9_1 : List Int) (x17_1 : Int), v17 = .int .i64 x17_1 ∧ Aside0 (impl_hops.l0 kq l1 a2 l3 x9_1 t411 (t411.length : Int) x17_1 = some r) ∧ Aside0 (kq ≤ k) ∧ Aside0 (Kd.R (Kd.int .i64) 3 w' w.heap.size (fun k_ => no_ (.slice Ao7 t411.length co7) k_) v9 x9_1) ∧ Aside0 (Kd.R (Kd.int .i64) 3 w' w.heap.size (fun k_ => no_ v9 k_) (.slice Ao7 t411.length co7) t411) ∧ Aside0 (Below w.heap.size w w'))
 case atStart => exact ⟨(([] : List Int)), (0), (by first | rfl | (simp; done) | (simp [*]; done)), H', ⟨Nat.le_refl _⟩, ⟨by first | exact Kd.R_nil _ _ _ _ _ | exact Kd.N_nil _ _ _ _ _ | exact Kd.V_nil _ _ _ _ _ | exact Kd.Q_nil _ _ _ _ _ | exact Kd.S_nil _ _ _ _ _⟩, ⟨by (with_reducible repeat (first | apply Kd.R_alloc | apply Kd.R_drewN | apply Kd.R_drew)); exact Kd.R_mono HO413.out (fun _ hk => (by simp [Value.ownBlock]))⟩, ⟨hB HB⟩⟩
 case round =>
  clear H'
  try clear c1
  try clear c3
  obtain ⟨x9_1, x17_1, rfl, HA, HK1, HO_9, HO_15, HB⟩ := hrel
  cases gk with
  | zero => exact absurd HA.out (by simp [impl_hops.l0])
  | succ k1 =>
   have H := HA.out
   clear HA
   simp only [impl_hops.l0] at H
   by_cases c8 : x17_1 < (t411.length : Int)
   rotate_left
   ·rw [if_neg c8] at H
    have c8b0 : decide (x17_1 < (t411.length : Int)) = false := decide_eq_false c8
    clear c8
    obtain rfl := Option.some.inj H
    go_wp2
    go_ret
    exact ⟨_, rt_, by (with_reducible repeat (first | apply Kd.R_alloc | apply Kd.R_drewN | apply Kd.R_drew)); exact Kd.R_mono HO_9.out (fun _ hk => trivial), hB HB⟩
   rw [if_pos c8] at H
   have c8b0 : decide (x17_1 < (t411.length : Int)) = true := decide_eq_true c8
   clear c8
   by_cases c9 : 0 ≤ x17_1
   rotate_left
   ·rw [if_neg c9] at H
    exact absurd H (by simp)
   rw [if_pos c9] at H
   have c9b0 : decide (0 ≤ x17_1) = true := decide_eq_true c9
   clear c9
   by_cases c10 : x17_1 < (t411.length : Int)
   rotate_left
   ·rw [if_neg c10] at H
    exact absurd H (by simp)
   rw [if_pos c10] at H
   have c10b0 : decide (x17_1 < (t411.length : Int)) = true := decide_eq_true c10
   clear c10
   by_cases c11 : 0 ≤ a2
   rotate_left
   ·rw [if_neg c11] at H
    exact absurd H (by simp)
   rw [if_pos c11] at H
   have c11b0 : decide (0 ≤ a2) = true := decide_eq_true c11
   clear c11
   by_cases c12 : a2 < (l3.length : Int)
   rotate_left
   ·rw [if_neg c12] at H
    exact absurd H (by simp)
   rw [if_pos c12] at H
   have c12b0 : decide (a2 < (l3.length : Int)) = true := decide_eq_true c12
   clear c12
   by_cases c13 : (rd l3 a2) < 100000
   rotate_left
   ·rw [if_neg c13] at H
    have c13b0 : decide ((rd l3 a2) < 100000) = false := decide_eq_false c13
    clear c13
    have H' := Aside0.mk H
    clear H
    have p414 : 0 ≤ (x17_1 : Int) := od_
    have q414 : x17_1 < (t411.length : Int) := od_
    obtain ⟨ad414, e414, hx414_0⟩ := Kd.at_int (Kd.R_reads' HO_15.out).2.2 x17_1 p414 q414
    cases e414
    replace p414 := eq_true p414
    replace q414 := eq_true q414
    try go_wp2
    replace HO_9 := rd_ HO_9
    replace HO_15 := rd_ HO_15
    replace HB := Aside0.mk (below_drew1 HB.out)
    have p415 : 0 ≤ (a2 : Int) := od_
    have q415 : a2 < (l3.length : Int) := od_
    obtain ⟨ad415, e415, hx415_0⟩ := Kd.at_int HR3.out a2 p415 q415
    have hw415_0 := hx415_0
    cases e415
    replace hx415_0 := hc_ HB hx415_0
    replace p415 := eq_true p415
    replace q415 := eq_true q415
    refine start_ (n := 21) (S := fun w' => w'.cell? (ad415.add (a2).toNat) = some (.int .i64 (rd l3 a2))) (ds := []) (bs 21 0) (by kernel_rfl) rfl rfl (((HB.out.cell (World.block_lt_of_cell? w _ hw415_0)).trans hw415_0)) (fun hHeld => ?_); refine with_tabW impl_hops.tab5 impl_hops.bits5 (fun HT_ HW_ => ?_)
    generalize wr.drew = w24 at HO_9 HO_15 HB hx415_0 hHeld ⊢
    refine pu_ 0 21 (bs 21 1) HT_ ?_
    refine pu_ 1 22 (bs 21 3) HT_ ?_
    refine pu_ 2 23 (bs 21 7) HT_ ?_
    refine take_ (i := 3) (N := some 24) (v := ?_) (a' := ?_) (bs 21 15) rfl rfl (take_ofW HT_.out HW_.out (by kernel_rfl)) (fun _ _ _ h => h) (Or.inl ⟨by rfl, ?_⟩) hHeld ?_ ?_
    rotate_left
    ·intro w' s0
     go_simp
     with_reducible rfl
    rotate_left
    ·simp only [Act.put, List.setIfInBounds_toArray, List.set_cons_zero, List.set_cons_succ, i64_w, i32_w]
     rfl
    refine pu_ 4 25 (bs 21 31) HT_ ?_
    refine pu_ 5 26 (bs 21 63) HT_ ?_
    refine pn_ 6 27 (bs 21 127) HT_ ?_
    refine pn_ 7 28 (bs 21 255) HT_ ?_
    refine pn_ 8 29 (bs 21 511) HT_ ?_
    refine pn_ 9 30 (bs 21 1023) HT_ ?_
    refine pn_ 10 31 (bs 21 2047) HT_ ?_
    refine pn_ 11 32 (bs 21 4095) HT_ ?_
    refine pn_ 12 33 (bs 21 8191) HT_ ?_
    refine pn_ 13 34 (bs 21 16383) HT_ ?_
    refine pn_ 14 35 (bs 21 32767) HT_ ?_
    refine pn_ 15 36 (bs 21 65535) HT_ ?_
    refine pn_ 16 37 (bs 21 131071) HT_ ?_
    refine pn_ 17 38 (bs 21 262143) HT_ ?_
    refine pn_ 18 39 (bs 21 524287) HT_ ?_
    refine pn_ 19 40 (bs 21 1048575) HT_ ?_
    refine pu_ 20 41 (bs 21 2097151) HT_ ?_
    refine done_ (done_of HT_.out (by kernel_rfl)) ?_
    try go_wp2
    go_roundg k1
    case measure => have := HK1.out; omega
    case rel => exact ⟨(x9_1), (wrap64 (x17_1 + 1)), (by first | rfl | (simp; done) | (simp [*]; done)), H', ⟨by have := HK1.out; omega⟩, ⟨ra HO_9.out⟩, ⟨ra HO_15.out⟩, ⟨hB HB⟩⟩
   rw [if_pos c13] at H
   have c13b0 : decide ((rd l3 a2) < 100000) = true := decide_eq_true c13
   clear c13
   by_cases c14 : 0 ≤ (rd t411 x17_1)
   rotate_left
   ·rw [if_neg c14] at H
    exact absurd H (by simp)
   rw [if_pos c14] at H
   have c14b0 : decide (0 ≤ (rd t411 x17_1)) = true := decide_eq_true c14
   clear c14
   by_cases c15 : (rd t411 x17_1) < (l3.length : Int)
   rotate_left
   ·rw [if_neg c15] at H
    exact absurd H (by simp)
   rw [if_pos c15] at H
   have c15b0 : decide ((rd t411 x17_1) < (l3.length : Int)) = true := decide_eq_true c15
   clear c15
   replace H := Option.bind_eq_some_iff.mp H
   obtain ⟨t417, A160, H⟩ := H
   replace H : (if (wrap64 ((rd l3 (rd t411 x17_1)) + t417)) = (rd l3 a2) then (if x9_1.length < 17592186044416 then (impl_hops.l0 k1 l1 a2 l3 (x9_1 ++ [rd t411 x17_1]) t411 (t411.length : Int) (wrap64 (x17_1 + 1))) else (none)) else (impl_hops.l0 k1 l1 a2 l3 x9_1 t411 (t411.length : Int) (wrap64 (x17_1 + 1)))) = some r := H
   have A16 := Aside0.mk A160
   clear A160
   by_cases c17 : (wrap64 ((rd l3 (rd t411 x17_1)) + t417)) = (rd l3 a2)
   rotate_left
   ·rw [if_neg c17] at H
    have c17b0 : ((wrap64 ((rd l3 (rd t411 x17_1)) + t417)) == (rd l3 a2)) = false := beq_eq_false_iff_ne.mpr c17
    have c17b1 : ((wrap64 ((rd l3 (rd t411 x17_1)) + t417)) != (rd l3 a2)) = true := bne_iff_ne.mpr c17
    have H' := Aside0.mk H
    clear H
    have p414 : 0 ≤ (x17_1 : Int) := od_
    have q414 : x17_1 < (t411.length : Int) := od_
    obtain ⟨ad414, e414, hx414_0⟩ := Kd.at_int (Kd.R_reads' HO_15.out).2.2 x17_1 p414 q414
    cases e414
    replace p414 := eq_true p414
    replace q414 := eq_true q414
    try go_wp2
    replace HO_9 := rd_ HO_9
    replace HO_15 := rd_ HO_15
    replace HB := Aside0.mk (below_drew1 HB.out)
    have p415 : 0 ≤ (a2 : Int) := od_
    have q415 : a2 < (l3.length : Int) := od_
    obtain ⟨ad415, e415, hx415_0⟩ := Kd.at_int HR3.out a2 p415 q415
    have hw415_0 := hx415_0
    cases e415
    replace hx415_0 := hc_ HB hx415_0
    replace p415 := eq_true p415
    replace q415 := eq_true q415
    have p416 : 0 ≤ ((rd t411 x17_1) : Int) := od_
    have q416 : (rd t411 x17_1) < (l3.length : Int) := od_
    obtain ⟨ad416, e416, hx416_0⟩ := Kd.at_int HR3.out (rd t411 x17_1) p416 q416
    have hw416_0 := hx416_0
    obtain rfl : ad415 = ad416 := (by injection e416)
    replace hx416_0 := hc_ HB hx416_0
    replace p416 := eq_true p416
    replace q416 := eq_true q416
    have p418 : 0 ≤ (a2 : Int) := od_
    have q418 : a2 < (l3.length : Int) := od_
    obtain ⟨ad418, e418, hx418_0⟩ := Kd.at_int HR3.out a2 p418 q418
    have hw418_0 := hx418_0
    obtain rfl : ad415 = ad418 := (by injection e418)
    replace hx418_0 := hc_ HB hx418_0
    replace p418 := eq_true p418
    replace q418 := eq_true q418
    refine start_ (n := 21) (S := fun w' => w'.cell? (ad415.add (a2).toNat) = some (.int .i64 (rd l3 a2)) ∧ w'.cell? (ad415.add ((rd t411 x17_1)).toNat) = some (.int .i64 (rd l3 (rd t411 x17_1))) ∧ w'.cell? (ad415.add (a2).toNat) = some (.int .i64 (rd l3 a2))) (ds := []) (bs 21 0) (by kernel_rfl) rfl rfl ⟨((HB.out.cell (World.block_lt_of_cell? w _ hw415_0)).trans hw415_0), ((HB.out.cell (World.block_lt_of_cell? w _ hw416_0)).trans hw416_0), ((HB.out.cell (World.block_lt_of_cell? w _ hw418_0)).trans hw418_0)⟩ (fun hHeld => ?_); refine with_tabW impl_hops.tab5 impl_hops.bits5 (fun HT_ HW_ => ?_)
    generalize wr.drew = w22 at HO_9 HO_15 HB hx415_0 hx416_0 hx418_0 hHeld ⊢
    refine pu_ 0 21 (bs 21 1) HT_ ?_
    refine pu_ 1 22 (bs 21 3) HT_ ?_
    refine pu_ 2 23 (bs 21 7) HT_ ?_
    refine tk_ 3 24 (bs 21 15) HT_ HW_ hHeld ?_
    refine pu_ 4 25 (bs 21 31) HT_ ?_
    refine pu_ 5 26 (bs 21 63) HT_ ?_
    refine pu_ 6 27 (bs 21 127) HT_ ?_
    refine pu_ 7 28 (bs 21 255) HT_ ?_
    refine pu_ 8 29 (bs 21 511) HT_ ?_
    refine pu_ 10 31 (bs 21 1535) HT_ ?_
    refine pu_ 11 32 (bs 21 3583) HT_ ?_
    refine pu_ 12 33 (bs 21 7679) HT_ ?_
    refine pu_ 15 36 (bs 21 40447) HT_ ?_
    refine pu_ 16 37 (bs 21 105983) HT_ ?_
    refine pu_ 17 38 (bs 21 237055) HT_ ?_
    refine tk_ 9 30 (bs 21 237567) HT_ HW_ hHeld ?_
    refine tk_ 18 39 (bs 21 499711) HT_ HW_ hHeld ?_
    refine on_ 13 (some 34) (bs 21 507903) HT_ (fun K hK => ?_)
    refine goes_ Try.func136 (by kernel_rfl) rfl #[.slice A1 l1.length c1, .int .i64 a2, .int .i64 (rd t411 x17_1)] (by rfl) rfl rfl tm_ ?_
    with_reducible refine (impl_cost.calls k1 _ _ l1 a2 (rd t411 x17_1) t417 _ ?side1 ?side2 A16.out).mono ?_
    (case side1 => exact cb_ HR1 HB)
    (case side2 => exact HC1.out)
    rintro e w23 ⟨rfl, hb⟩
    refine ⟨_, rfl, ?_⟩
    replace HO_9 := rb_ HO_9 hb
    replace HO_15 := rb_ HO_15 hb
    replace HB := bst_ HB hb
    clear hb
    refine hK.out _ _ ⟨((HB.out.cell (World.block_lt_of_cell? w _ hw415_0)).trans hw415_0), ((HB.out.cell (World.block_lt_of_cell? w _ hw416_0)).trans hw416_0), ((HB.out.cell (World.block_lt_of_cell? w _ hw418_0)).trans hw418_0)⟩ (fun hHeld => ?_)
    clear hK K
    refine nm_ 34 ?_
    refine pu_ 14 35 (bs 21 524287) HT_ ?_
    refine pu_ 19 40 (bs 21 1048575) HT_ ?_
    refine pu_ 20 41 (bs 21 2097151) HT_ ?_
    refine done_ (done_of HT_.out (by kernel_rfl)) ?_
    try go_wp2
    go_roundg k1
    case measure => have := HK1.out; omega
    case rel => exact ⟨(x9_1), (wrap64 (x17_1 + 1)), (by first | rfl | (simp; done) | (simp [*]; done)), H', ⟨by have := HK1.out; omega⟩, ⟨ra HO_9.out⟩, ⟨ra HO_15.out⟩, ⟨hB HB⟩⟩
   rw [if_pos c17] at H
   have c17b0 : ((wrap64 ((rd l3 (rd t411 x17_1)) + t417)) == (rd l3 a2)) = true := beq_iff_eq.mpr c17
   have c17b1 : ((wrap64 ((rd l3 (rd t411 x17_1)) + t417)) != (rd l3 a2)) = false := bne_eq_false_iff_eq.mpr c17
   clear c17
   by_cases c18 : x9_1.length < 17592186044416
   rotate_left
   ·rw [if_neg c18] at H
    exact absurd H (by simp)
   rw [if_pos c18] at H
   have LMc18 := Aside0.mk c18
   clear c18
   obtain ⟨y419, hy419⟩ : ∃ y_ : List Int, y_ = (x9_1 ++ [rd t411 x17_1]) := ⟨_, rfl⟩
   replace H : (impl_hops.l0 k1 l1 a2 l3 y419 t411 (t411.length : Int) (wrap64 (x17_1 + 1))) = some r := by first | (rw [hy419]; with_reducible exact H) | (have H2_ := (Option.bind_some _ _).symm.trans H; rw [hy419]; with_reducible exact H2_) | (have H2_ := (Option.bind_some _ _).symm.trans H; with_reducible exact H2_) | with_reducible exact H | (rw [hy419]; exact H) | exact H
   have Ny419 := Aside0.mk hy419
   clear hy419
   have H' := Aside0.mk H
   clear H
   have p414 : 0 ≤ (x17_1 : Int) := od_
   have q414 : x17_1 < (t411.length : Int) := od_
   obtain ⟨ad414, e414, hx414_0⟩ := Kd.at_int (Kd.R_reads' HO_15.out).2.2 x17_1 p414 q414
   cases e414
   replace p414 := eq_true p414
   replace q414 := eq_true q414
   try go_wp2
   replace HO_9 := rd_ HO_9
   replace HO_15 := rd_ HO_15
   replace HB := Aside0.mk (below_drew1 HB.out)
   have p415 : 0 ≤ (a2 : Int) := od_
   have q415 : a2 < (l3.length : Int) := od_
   obtain ⟨ad415, e415, hx415_0⟩ := Kd.at_int HR3.out a2 p415 q415
   have hw415_0 := hx415_0
   cases e415
   replace hx415_0 := hc_ HB hx415_0
   replace p415 := eq_true p415
   replace q415 := eq_true q415
   have p416 : 0 ≤ ((rd t411 x17_1) : Int) := od_
   have q416 : (rd t411 x17_1) < (l3.length : Int) := od_
   obtain ⟨ad416, e416, hx416_0⟩ := Kd.at_int HR3.out (rd t411 x17_1) p416 q416
   have hw416_0 := hx416_0
   obtain rfl : ad415 = ad416 := (by injection e416)
   replace hx416_0 := hc_ HB hx416_0
   replace p416 := eq_true p416
   replace q416 := eq_true q416
   have p418 : 0 ≤ (a2 : Int) := od_
   have q418 : a2 < (l3.length : Int) := od_
   obtain ⟨ad418, e418, hx418_0⟩ := Kd.at_int HR3.out a2 p418 q418
   have hw418_0 := hx418_0
   obtain rfl : ad415 = ad418 := (by injection e418)
   replace hx418_0 := hc_ HB hx418_0
   replace p418 := eq_true p418
   replace q418 := eq_true q418
   refine start_ (n := 21) (S := fun w' => w'.cell? (ad415.add (a2).toNat) = some (.int .i64 (rd l3 a2)) ∧ w'.cell? (ad415.add ((rd t411 x17_1)).toNat) = some (.int .i64 (rd l3 (rd t411 x17_1))) ∧ w'.cell? (ad415.add (a2).toNat) = some (.int .i64 (rd l3 a2))) (ds := []) (bs 21 0) (by kernel_rfl) rfl rfl ⟨((HB.out.cell (World.block_lt_of_cell? w _ hw415_0)).trans hw415_0), ((HB.out.cell (World.block_lt_of_cell? w _ hw416_0)).trans hw416_0), ((HB.out.cell (World.block_lt_of_cell? w _ hw418_0)).trans hw418_0)⟩ (fun hHeld => ?_); refine with_tabW impl_hops.tab5 impl_hops.bits5 (fun HT_ HW_ => ?_)
   generalize wr.drew = w19 at HO_9 HO_15 HB hx415_0 hx416_0 hx418_0 hHeld ⊢
   refine pu_ 0 21 (bs 21 1) HT_ ?_
   refine pu_ 1 22 (bs 21 3) HT_ ?_
   refine pu_ 2 23 (bs 21 7) HT_ ?_
   refine tk_ 3 24 (bs 21 15) HT_ HW_ hHeld ?_
   refine pu_ 4 25 (bs 21 31) HT_ ?_
   refine pu_ 5 26 (bs 21 63) HT_ ?_
   refine pu_ 6 27 (bs 21 127) HT_ ?_
   refine pu_ 7 28 (bs 21 255) HT_ ?_
   refine pu_ 8 29 (bs 21 511) HT_ ?_
   refine pu_ 10 31 (bs 21 1535) HT_ ?_
   refine pu_ 11 32 (bs 21 3583) HT_ ?_
   refine pu_ 12 33 (bs 21 7679) HT_ ?_
   refine pu_ 15 36 (bs 21 40447) HT_ ?_
   refine pu_ 16 37 (bs 21 105983) HT_ ?_
   refine pu_ 17 38 (bs 21 237055) HT_ ?_
   refine tk_ 9 30 (bs 21 237567) HT_ HW_ hHeld ?_
   refine tk_ 18 39 (bs 21 499711) HT_ HW_ hHeld ?_
   refine on_ 13 (some 34) (bs 21 507903) HT_ (fun K hK => ?_)
   refine goes_ Try.func136 (by kernel_rfl) rfl #[.slice A1 l1.length c1, .int .i64 a2, .int .i64 (rd t411 x17_1)] (by rfl) rfl rfl tm_ ?_
   with_reducible refine (impl_cost.calls k1 _ _ l1 a2 (rd t411 x17_1) t417 _ ?side1 ?side2 A16.out).mono ?_
   (case side1 => exact cb_ HR1 HB)
   (case side2 => exact HC1.out)
   rintro e w20 ⟨rfl, hb⟩
   refine ⟨_, rfl, ?_⟩
   replace HO_9 := rb_ HO_9 hb
   replace HO_15 := rb_ HO_15 hb
   replace HB := bst_ HB hb
   clear hb
   refine hK.out _ _ ⟨((HB.out.cell (World.block_lt_of_cell? w _ hw415_0)).trans hw415_0), ((HB.out.cell (World.block_lt_of_cell? w _ hw416_0)).trans hw416_0), ((HB.out.cell (World.block_lt_of_cell? w _ hw418_0)).trans hw418_0)⟩ (fun hHeld => ?_)
   clear hK K
   refine nm_ 34 ?_
   refine pu_ 14 35 (bs 21 524287) HT_ ?_
   refine pu_ 19 40 (bs 21 1048575) HT_ ?_
   refine pu_ 20 41 (bs 21 2097151) HT_ ?_
   refine done_ (done_of HT_.out (by kernel_rfl)) ?_
   try go_wp2_with (first | ((with_reducible refine gate_builtin (b := .append) (xs := #[.tmp 42, .tmp 44]) rfl ?_); at_builtin; refine Kd.R_append (Kd.int .i64) (w0 := w) w.heap.size rfl (.tmp 42) (.tmp 44) 23 3 (.int .i64 0) 8 rfl Try.underlying23 info3 rfl (by decide) (by omega) u9 x9_1 (rd t411 x17_1) [.int .i64 (rd t411 x17_1)] (fun k_ => some k_ ≠ (.slice (some ad414) t411.length co7 : Value).ownBlock) (fun _ => False) rfl rfl ?aP (fun _ hk => hk.elim) ?aF ?aO ?aB ?aS ?aL ?_; (case aP => exact rfl); (case aB => exact (hB HB)); (case aF => exact (fun k_ hk => Kd.fresh' (rl_ HO_15) k_ hk)); (case aO => exact (ra HO_9.out)); (case aS => exact (below_size (hB HB))); (case aL => have := LMc18.out; omega); intro v420 w21 ho hb hg hat; rw [← Ny419.out] at ho; have HO421 := Aside0.mk (ho); replace HO_15 := Aside0.mk (Kd.R_after (ok := (fun _ => True)) (rm_ HO_15 (fun _ hk => ⟨trivial, hk⟩)).out hg hat); replace HB := Aside0.mk (hb); clear HO_9; clear ho hb hg hat))
   go_roundg k1
   case measure => have := HK1.out; omega
   case rel => exact ⟨(y419), (wrap64 (x17_1 + 1)), (by first | rfl | (simp; done) | (simp [*]; done)), H', ⟨by have := HK1.out; omega⟩, ⟨ra HO421.out⟩, rm_ HO_15 (fun _ hk => hk.2), ⟨hB HB⟩⟩

def impl_wayTo.l0 : Nat → Int → List (S86) → Int → Int → List Int → List Int → Int → Option (List Int × Int × Bool)
 | 0, _, _, _, _, _, _, _ => none
 | k + 1, x0, x1, x2, x3, x11, x12, x13 => if x13 = x3 then (if 0 ≤ x2 then (if x2 < (x11.length : Int) then (some (x12, rd x11 x2, true)) else (none)) else (none)) else ((impl_hops.f k x0 x1 x13 x11).bind fun t430 => (if 0 < (t430.length : Int) then (if x12.length < 17592186044416 then (impl_wayTo.l0 k x0 x1 x2 x3 x11 (x12 ++ [rd t430 0]) (rd t430 0)) else (none)) else (none)))
def impl_wayTo.f (k : Nat) (a0 : Int) (l1 : List (S86)) (a2 : Int) (a3 : Int) : Option (List Int × Int × Bool) := (impl_fars.f k a0 l1 a3).bind fun t422 => (if 0 ≤ a2 then (if a2 < (t422.length : Int) then (if (rd t422 a2) = 100000 then (some (([] : List Int), 0, false)) else (impl_wayTo.l0 k a0 l1 a2 a3 t422 (([a2] : List Int)) a2)) else (none)) else (none))
theorem impl_wayTo.mono_l : ∀ k, (∀ y0 y1 y2 y3 y4 y5 y6, LeO (impl_wayTo.l0 k y0 y1 y2 y3 y4 y5 y6) (impl_wayTo.l0 (k + 1) y0 y1 y2 y3 y4 y5 y6))
 | 0 => fun _ _ _ _ _ _ _ r h => by simp [impl_wayTo.l0] at h
 | k + 1 => by
  have ih0 := impl_wayTo.mono_l k
  ·intro y0 y1 y2 y3 y4 y5 y6
   unfold impl_wayTo.l0
   repeat' first
   | (with_reducible exact ih0 _ _ _ _ _ _ _)
   | (with_reducible exact impl_fars.mono _ _ _ _)
   | (with_reducible exact impl_hops.mono _ _ _ _ _)
   | with_reducible first | exact LeO.refl _ | exact LeO.none _ | refine LeO.ite ?_ ?_ | refine LeO.bind ?_ fun _ => ?_
theorem impl_wayTo.mono : ∀ a0 a1 a2 a3 k, LeO (impl_wayTo.f k a0 a1 a2 a3) (impl_wayTo.f (k + 1) a0 a1 a2 a3) := by
 intro a0 a1 a2 a3 k
 have ih0 := impl_wayTo.mono_l k
 unfold impl_wayTo.f
 repeat' first
   | (with_reducible exact ih0 _ _ _ _ _ _ _)
   | (with_reducible exact impl_fars.mono _ _ _ _)
   | (with_reducible exact impl_hops.mono _ _ _ _ _)
   | with_reducible first | exact LeO.refl _ | exact LeO.none _ | refine LeO.ite ?_ ?_ | refine LeO.bind ?_ fun _ => ?_
set_option maxHeartbeats 8000000 in
set_option maxRecDepth 100000 in
theorem impl_wayTo.calls (k : Nat) (a0 : Int) (A1 : Option Addr) (c1 : Nat) (l1 : List (S86)) (a2 : Int) (a3 : Int) (r1 : List Int) (r2 : Int) (r3 : Bool) (w : World) (hr1 : Kd.C k86 w A1 l1.length l1) (hc1 : l1.length ≤ c1) (h : impl_wayTo.f k a0 l1 a2 a3 = some (r1, r2, r3)) :
  Calls Try.prog 66 #[.int .i64 a0, .slice A1 l1.length c1, .int .i64 a2, .int .i64 a3] w fun e w' => ∃ v0_ : Value, e = .returned (.tuple #[v0_, .int .i64 r2, .bool r3]) ∧ Kd.R (Kd.int .i64) 3 w' w.heap.size (fun _ => True) v0_ r1 ∧ Below w.heap.size w w' := by
 have HR1 := Aside0.mk hr1
 have HC1 := Aside0.mk hc1
 clear hr1 hc1
 have HB := Aside0.mk (Below.refl w.heap.size w)
 have H : ((impl_fars.f k a0 l1 a3).bind fun t422 => (if 0 ≤ a2 then (if a2 < (t422.length : Int) then (if (rd t422 a2) = 100000 then (some (([] : List Int), 0, false)) else (impl_wayTo.l0 k a0 l1 a2 a3 t422 (([a2] : List Int)) a2)) else (none)) else (none))) = some (r1, r2, r3) := h
 clear h
 replace H := Option.bind_eq_some_iff.mp H
 obtain ⟨t422, A50, H⟩ := H
 replace H : (if 0 ≤ a2 then (if a2 < (t422.length : Int) then (if (rd t422 a2) = 100000 then (some (([] : List Int), 0, false)) else (impl_wayTo.l0 k a0 l1 a2 a3 t422 (([a2] : List Int)) a2)) else (none)) else (none)) = some (r1, r2, r3) := H
 have A5 := Aside0.mk A50
 clear A50
 by_cases c6 : 0 ≤ a2
 rotate_left
 ·rw [if_neg c6] at H
  exact absurd H (by simp)
 rw [if_pos c6] at H
 have c6b0 : decide (0 ≤ a2) = true := decide_eq_true c6
 clear c6
 by_cases c7 : a2 < (t422.length : Int)
 rotate_left
 ·rw [if_neg c7] at H
  exact absurd H (by simp)
 rw [if_pos c7] at H
 have c7b0 : decide (a2 < (t422.length : Int)) = true := decide_eq_true c7
 clear c7
 by_cases c8 : (rd t422 a2) = 100000
 ·rw [if_pos c8] at H
  have c8b0 : ((rd t422 a2) == 100000) = true := beq_iff_eq.mpr c8
  have c8b1 : ((rd t422 a2) != 100000) = false := bne_eq_false_iff_eq.mpr c8
  clear c8
  simp only [Option.some.injEq, Prod.mk.injEq] at H
  obtain ⟨rfl, rfl, rfl⟩ := H
  go_enter Try.func66, Try.ntmps66
  go_wp2_with (first | (go_at_call 107; (with_reducible refine (impl_fars.calls k a0 _ _ l1 a3 t422 _ ?side1 ?side2 A5.out).mono ?_); (case side1 => exact ca HR1.out); (case side2 => exact HC1.out); rintro e w9 ⟨v423, rfl, ho0, hb⟩; have HO424 := Aside0.mk (Kd.R_lower ho0 (below_size (hB HB))); replace HB := bst_ HB hb; clear hb ho0; obtain ⟨Ao10, co10, eo10⟩ := Kd.R_slice HO424.out; subst eo10; have p425 : 0 ≤ (a2 : Int) := od_; have q425 : a2 < (t422.length : Int) := od_; obtain ⟨ad425, e425, hx425_0⟩ := Kd.at_int (Kd.R_reads' HO424.out).2.2 a2 p425 q425; cases e425; replace p425 := eq_true p425; replace q425 := eq_true q425))
  repeat (go_quiet (first | (go_at_call 107; (with_reducible refine (impl_fars.calls k a0 _ _ l1 a3 t422 _ ?side1 ?side2 A5.out).mono ?_); (case side1 => exact ca HR1.out); (case side2 => exact HC1.out); rintro e w9 ⟨v423, rfl, ho0, hb⟩; have HO424 := Aside0.mk (Kd.R_lower ho0 (below_size (hB HB))); replace HB := bst_ HB hb; clear hb ho0; obtain ⟨Ao10, co10, eo10⟩ := Kd.R_slice HO424.out; subst eo10; have p425 : 0 ≤ (a2 : Int) := od_; have q425 : a2 < (t422.length : Int) := od_; obtain ⟨ad425, e425, hx425_0⟩ := Kd.at_int (Kd.R_reads' HO424.out).2.2 a2 p425 q425; cases e425; replace p425 := eq_true p425; replace q425 := eq_true q425)); try go_wp2_with (first | (go_at_call 107; (with_reducible refine (impl_fars.calls k a0 _ _ l1 a3 t422 _ ?side1 ?side2 A5.out).mono ?_); (case side1 => exact ca HR1.out); (case side2 => exact HC1.out); rintro e w9 ⟨v423, rfl, ho0, hb⟩; have HO424 := Aside0.mk (Kd.R_lower ho0 (below_size (hB HB))); replace HB := bst_ HB hb; clear hb ho0; obtain ⟨Ao10, co10, eo10⟩ := Kd.R_slice HO424.out; subst eo10; have p425 : 0 ≤ (a2 : Int) := od_; have q425 : a2 < (t422.length : Int) := od_; obtain ⟨ad425, e425, hx425_0⟩ := Kd.at_int (Kd.R_reads' HO424.out).2.2 a2 p425 q425; cases e425; replace p425 := eq_true p425; replace q425 := eq_true q425)))
  go_ret3
  exact ⟨_, rt_, by first | exact Kd.R_nil _ _ _ _ _ | exact Kd.N_nil _ _ _ _ _ | exact Kd.V_nil _ _ _ _ _ | exact Kd.Q_nil _ _ _ _ _ | exact Kd.S_nil _ _ _ _ _, hB HB⟩
 rw [if_neg c8] at H
 have c8b0 : ((rd t422 a2) == 100000) = false := beq_eq_false_iff_ne.mpr c8
 have c8b1 : ((rd t422 a2) != 100000) = true := bne_iff_ne.mpr c8
 obtain ⟨y426, hy426⟩ : ∃ y_ : List Int, y_ = (([a2] : List Int)) := ⟨_, rfl⟩
 replace H : (impl_wayTo.l0 k a0 l1 a2 a3 t422 y426 a2) = some (r1, r2, r3) := by first | (rw [hy426]; with_reducible exact H) | (have H2_ := (Option.bind_some _ _).symm.trans H; rw [hy426]; with_reducible exact H2_) | (have H2_ := (Option.bind_some _ _).symm.trans H; with_reducible exact H2_) | with_reducible exact H | (rw [hy426]; exact H) | exact H
 have Ny426 := Aside0.mk hy426
 clear hy426
 have H' := Aside0.mk H
 clear H
 go_enter Try.func66, Try.ntmps66
 go_wp2_with (first | (go_at_call 107; (with_reducible refine (impl_fars.calls k a0 _ _ l1 a3 t422 _ ?side1 ?side2 A5.out).mono ?_); (case side1 => exact ca HR1.out); (case side2 => exact HC1.out); rintro e w11 ⟨v423, rfl, ho0, hb⟩; have HO424 := Aside0.mk (Kd.R_lower ho0 (below_size (hB HB))); replace HB := bst_ HB hb; clear hb ho0; obtain ⟨Ao12, co12, eo12⟩ := Kd.R_slice HO424.out; subst eo12; have p425 : 0 ≤ (a2 : Int) := od_; have q425 : a2 < (t422.length : Int) := od_; obtain ⟨ad425, e425, hx425_0⟩ := Kd.at_int (Kd.R_reads' HO424.out).2.2 a2 p425 q425; cases e425; replace p425 := eq_true p425; replace q425 := eq_true q425) | ((with_reducible refine gate_dst (N := 24) rfl ?_); refine Kd.R_lit (Kd.int .i64) _ 3 ?hg (N := 24) ?hd (xs := ([a2] : List Int)) (inner := [.int .i64 a2]) (ok := fun _ => True) (okp := fun _ => True) ?hr ?hp (fun _ hk => hk) trivial (Below.refl _ _) (Nat.le_refl _) (by simp) ?_; (case hd => rfl); (case hg => rfl); (case hr => first | (go_simp; done) | (go_simp; rfl)); (case hp => exact (Reps.one (show Kd.M (Kd.int .i64) _ _ _ a2 [.int .i64 a2] from rfl) (Reps.none _ _))); intro v427 w13 ho14 hb hg_ hnew_; clear hg_ hnew_; (first | rw [← Ny426.out] at ho14 | (simp only [Int.reduceToNat] at ho14; rw [← Ny426.out] at ho14)); have HO428 := Aside0.mk (Kd.R_lower (Kd.R_new' ho14 (rl_ HO424)) (below_size (hB HB))); replace HO424 := re_ HO424 ho14 hb; replace HB := bst_ HB hb; clear hb ho14))
 repeat (go_quiet (first | (go_at_call 107; (with_reducible refine (impl_fars.calls k a0 _ _ l1 a3 t422 _ ?side1 ?side2 A5.out).mono ?_); (case side1 => exact ca HR1.out); (case side2 => exact HC1.out); rintro e w11 ⟨v423, rfl, ho0, hb⟩; have HO424 := Aside0.mk (Kd.R_lower ho0 (below_size (hB HB))); replace HB := bst_ HB hb; clear hb ho0; obtain ⟨Ao12, co12, eo12⟩ := Kd.R_slice HO424.out; subst eo12; have p425 : 0 ≤ (a2 : Int) := od_; have q425 : a2 < (t422.length : Int) := od_; obtain ⟨ad425, e425, hx425_0⟩ := Kd.at_int (Kd.R_reads' HO424.out).2.2 a2 p425 q425; cases e425; replace p425 := eq_true p425; replace q425 := eq_true q425) | ((with_reducible refine gate_dst (N := 24) rfl ?_); refine Kd.R_lit (Kd.int .i64) _ 3 ?hg (N := 24) ?hd (xs := ([a2] : List Int)) (inner := [.int .i64 a2]) (ok := fun _ => True) (okp := fun _ => True) ?hr ?hp (fun _ hk => hk) trivial (Below.refl _ _) (Nat.le_refl _) (by simp) ?_; (case hd => rfl); (case hg => rfl); (case hr => first | (go_simp; done) | (go_simp; rfl)); (case hp => exact (Reps.one (show Kd.M (Kd.int .i64) _ _ _ a2 [.int .i64 a2] from rfl) (Reps.none _ _))); intro v427 w13 ho14 hb hg_ hnew_; clear hg_ hnew_; (first | rw [← Ny426.out] at ho14 | (simp only [Int.reduceToNat] at ho14; rw [← Ny426.out] at ho14)); have HO428 := Aside0.mk (Kd.R_lower (Kd.R_new' ho14 (rl_ HO424)) (below_size (hB HB))); replace HO424 := re_ HO424 ho14 hb; replace HB := bst_ HB hb; clear hb ho14)); try go_wp2_with (first | (go_at_call 107; (with_reducible refine (impl_fars.calls k a0 _ _ l1 a3 t422 _ ?side1 ?side2 A5.out).mono ?_); (case side1 => exact ca HR1.out); (case side2 => exact HC1.out); rintro e w11 ⟨v423, rfl, ho0, hb⟩; have HO424 := Aside0.mk (Kd.R_lower ho0 (below_size (hB HB))); replace HB := bst_ HB hb; clear hb ho0; obtain ⟨Ao12, co12, eo12⟩ := Kd.R_slice HO424.out; subst eo12; have p425 : 0 ≤ (a2 : Int) := od_; have q425 : a2 < (t422.length : Int) := od_; obtain ⟨ad425, e425, hx425_0⟩ := Kd.at_int (Kd.R_reads' HO424.out).2.2 a2 p425 q425; cases e425; replace p425 := eq_true p425; replace q425 := eq_true q425) | ((with_reducible refine gate_dst (N := 24) rfl ?_); refine Kd.R_lit (Kd.int .i64) _ 3 ?hg (N := 24) ?hd (xs := ([a2] : List Int)) (inner := [.int .i64 a2]) (ok := fun _ => True) (okp := fun _ => True) ?hr ?hp (fun _ hk => hk) trivial (Below.refl _ _) (Nat.le_refl _) (by simp) ?_; (case hd => rfl); (case hg => rfl); (case hr => first | (go_simp; done) | (go_simp; rfl)); (case hp => exact (Reps.one (show Kd.M (Kd.int .i64) _ _ _ a2 [.int .i64 a2] from rfl) (Reps.none _ _))); intro v427 w13 ho14 hb hg_ hnew_; clear hg_ hnew_; (first | rw [← Ny426.out] at ho14 | (simp only [Int.reduceToNat] at ho14; rw [← Ny426.out] at ho14)); have HO428 := Aside0.mk (Kd.R_lower (Kd.R_new' ho14 (rl_ HO424)) (below_size (hB HB))); replace HO424 := re_ HO424 ho14 hb; replace HB := bst_ HB hb; clear hb ho14)))
 go_loopg [12, 13] k (fun kq v12 v13 w' => ∃ (x12_1 : List Int) (x13_1 : Int), v13 = .int .i64 x13_1 ∧ Aside0 (impl_wayTo.l0 kq a0 l1 a2 a3 t422 x12_1 x13_1 = some (r1, r2, r3)) ∧ Aside0 (kq ≤ k) ∧ Aside0 (Kd.R (Kd.int .i64) 3 w' w.heap.size (fun k_ => no_ v12 k_) (.slice (some ad425) t422.length co12) t422) ∧ Aside0 (Kd.R (Kd.int .i64) 3 w' w.heap.size (fun k_ => some k_ ≠ ((.slice (some ad425) t422.length co12) : Value).ownBlock) v12 x12_1) ∧ Aside0 (Below w.heap.size w w'))
 case atStart => exact ⟨(y426), (a2), (by first | rfl | (simp; done) | (simp [*]; done)), H', ⟨Nat.le_refl _⟩, rm_ HO424 (fun _ hk => hk.2), rm_ HO428 (fun _ hk => hk.2), ⟨hB HB⟩⟩
 case round =>
  clear H'
  try clear c1
  try clear c6
  try clear c6b0
  try clear c7
  try clear c7b0
  try clear c8
  try clear c8b0
  try clear c8b1
  try clear hx425_0
  try clear p425
  try clear q425
  obtain ⟨x12_1, x13_1, rfl, HA, HK1, HO_11, HO_12, HB⟩ := hrel
  cases gk with
  | zero => exact absurd HA.out (by simp [impl_wayTo.l0])
  | succ k1 =>
   have H := HA.out
   clear HA
   simp only [impl_wayTo.l0] at H
   by_cases c15 : x13_1 = a3
   ·rw [if_pos c15] at H
    have c15b0 : (x13_1 == a3) = true := beq_iff_eq.mpr c15
    have c15b1 : (x13_1 != a3) = false := bne_eq_false_iff_eq.mpr c15
    clear c15
    by_cases c16 : 0 ≤ a2
    rotate_left
    ·rw [if_neg c16] at H
     exact absurd H (by simp)
    rw [if_pos c16] at H
    have c16b0 : decide (0 ≤ a2) = true := decide_eq_true c16
    clear c16
    by_cases c17 : a2 < (t422.length : Int)
    rotate_left
    ·rw [if_neg c17] at H
     exact absurd H (by simp)
    rw [if_pos c17] at H
    have c17b0 : decide (a2 < (t422.length : Int)) = true := decide_eq_true c17
    clear c17
    simp only [Option.some.injEq, Prod.mk.injEq] at H
    obtain ⟨rfl, rfl, rfl⟩ := H
    have p429 : 0 ≤ (a2 : Int) := od_
    have q429 : a2 < (t422.length : Int) := od_
    obtain ⟨ad429, e429, hx429_0⟩ := Kd.at_int (Kd.R_reads' HO_11.out).2.2 a2 p429 q429
    obtain rfl : ad425 = ad429 := (by injection e429)
    replace p429 := eq_true p429
    replace q429 := eq_true q429
    go_wp2
    repeat (go_quiet (fail); try go_wp2)
    go_ret3
    exact ⟨_, rt_, by (with_reducible repeat (first | apply Kd.R_alloc | apply Kd.R_drewN | apply Kd.R_drew)); exact Kd.R_mono HO_12.out (fun _ hk => trivial), hB HB⟩
   rw [if_neg c15] at H
   have c15b0 : (x13_1 == a3) = false := beq_eq_false_iff_ne.mpr c15
   have c15b1 : (x13_1 != a3) = true := bne_iff_ne.mpr c15
   replace H := Option.bind_eq_some_iff.mp H
   obtain ⟨t430, A180, H⟩ := H
   replace H : (if 0 < (t430.length : Int) then (if x12_1.length < 17592186044416 then (impl_wayTo.l0 k1 a0 l1 a2 a3 t422 (x12_1 ++ [rd t430 0]) (rd t430 0)) else (none)) else (none)) = some (r1, r2, r3) := H
   have A18 := Aside0.mk A180
   clear A180
   by_cases c19 : 0 < (t430.length : Int)
   rotate_left
   ·rw [if_neg c19] at H
    exact absurd H (by simp)
   rw [if_pos c19] at H
   have c19b0 : decide (0 < (t430.length : Int)) = true := decide_eq_true c19
   have c19b1 : decide (0 < t430.length) = true := decide_eq_true (by omega)
   clear c19
   by_cases c20 : x12_1.length < 17592186044416
   rotate_left
   ·rw [if_neg c20] at H
    exact absurd H (by simp)
   rw [if_pos c20] at H
   have LMc20 := Aside0.mk c20
   clear c20
   obtain ⟨y434, hy434⟩ : ∃ y_ : List Int, y_ = (x12_1 ++ [rd t430 0]) := ⟨_, rfl⟩
   replace H : (impl_wayTo.l0 k1 a0 l1 a2 a3 t422 y434 (rd t430 0)) = some (r1, r2, r3) := by first | (rw [hy434]; with_reducible exact H) | (have H2_ := (Option.bind_some _ _).symm.trans H; rw [hy434]; with_reducible exact H2_) | (have H2_ := (Option.bind_some _ _).symm.trans H; with_reducible exact H2_) | with_reducible exact H | (rw [hy434]; exact H) | exact H
   have Ny434 := Aside0.mk hy434
   clear hy434
   have H' := Aside0.mk H
   clear H
   go_wp2_with (first | (go_at_call 108; (with_reducible refine (impl_hops.calls k1 a0 _ _ l1 x13_1 _ _ t422 t430 _ ?side1 ?side2 ?side3 ?side4 A18.out).mono ?_); (case side1 => exact cb_ HR1 HB); (case side2 => exact HC1.out); (case side3 => exact ca (Kd.R_reads' HO_11.out).2.2); (case side4 => exact (Kd.R_reads' HO_11.out).2.1); rintro e w21 ⟨v431, rfl, ho0, hb⟩; have HO432 := Aside0.mk (Kd.R_lower (Kd.R_new' (Kd.R_new' ho0 (rl_ HO_11)) (rl_ HO_12)) (below_size (hB HB))); replace HO_11 := re_ HO_11 ho0 hb; replace HO_12 := re_ HO_12 ho0 hb; replace HB := bst_ HB hb; clear hb ho0; obtain ⟨Ao22, co22, eo22⟩ := Kd.R_slice HO432.out; subst eo22; have p433 : 0 ≤ (0 : Int) := (by omega); have q433 : 0 < (t430.length : Int) := od_; obtain ⟨ad433, e433, hx433_0⟩ := Kd.at_int (Kd.R_reads' HO432.out).2.2 0 p433 q433; cases e433; have qi433 : (0 < t430.length) = True := eq_true (by omega); (try rw [show ((0 : Int)).toNat = 0 from rfl] at hx433_0); (try rw [Addr.add_zero'] at hx433_0); replace p433 := eq_true p433; replace q433 := eq_true q433) | ((with_reducible refine gate_builtin (b := .append) (xs := #[.tmp 36, .tmp 38]) rfl ?_); at_builtin; refine Kd.R_append (Kd.int .i64) (w0 := w) w.heap.size rfl (.tmp 36) (.tmp 38) 23 3 (.int .i64 0) 8 rfl Try.underlying23 info3 rfl (by decide) (by omega) u12 x12_1 (rd t430 0) [.int .i64 (rd t430 0)] (fun k_ => some k_ ≠ (.slice (some ad425) t422.length co12 : Value).ownBlock ∧ some k_ ≠ (.slice (some ad433) t430.length co22 : Value).ownBlock) (fun _ => False) rfl rfl ?aP (fun _ hk => hk.elim) ?aF ?aO ?aB ?aS ?aL ?_; (case aP => exact rfl); (case aB => exact (hB HB)); (case aF => exact (fun k_ hk => ⟨Kd.fresh' (rl_ HO_11) k_ hk, Kd.fresh' (rl_ HO432) k_ hk⟩)); (case aO => exact (ra HO_12.out)); (case aS => exact (below_size (hB HB))); (case aL => have := LMc20.out; omega); intro v435 w23 ho hb hg hat; rw [← Ny434.out] at ho; have HO436 := Aside0.mk (ho); replace HO_11 := Aside0.mk (Kd.R_after (ok := (fun k_ => some k_ ≠ (.slice (some ad433) t430.length co22 : Value).ownBlock)) (rm_ HO_11 (fun _ hk => ⟨hk.2, hk.1⟩)).out hg hat); replace HO432 := Aside0.mk (Kd.R_after (ok := (fun k_ => some k_ ≠ (.slice (some ad425) t422.length co12 : Value).ownBlock)) (rm_ HO432 (fun _ hk => ⟨hk.1.2, hk.2⟩)).out hg hat); replace HB := Aside0.mk (hb); clear HO_12; clear ho hb hg hat))
   repeat (go_quiet (first | (go_at_call 108; (with_reducible refine (impl_hops.calls k1 a0 _ _ l1 x13_1 _ _ t422 t430 _ ?side1 ?side2 ?side3 ?side4 A18.out).mono ?_); (case side1 => exact cb_ HR1 HB); (case side2 => exact HC1.out); (case side3 => exact ca (Kd.R_reads' HO_11.out).2.2); (case side4 => exact (Kd.R_reads' HO_11.out).2.1); rintro e w21 ⟨v431, rfl, ho0, hb⟩; have HO432 := Aside0.mk (Kd.R_lower (Kd.R_new' (Kd.R_new' ho0 (rl_ HO_11)) (rl_ HO_12)) (below_size (hB HB))); replace HO_11 := re_ HO_11 ho0 hb; replace HO_12 := re_ HO_12 ho0 hb; replace HB := bst_ HB hb; clear hb ho0; obtain ⟨Ao22, co22, eo22⟩ := Kd.R_slice HO432.out; subst eo22; have p433 : 0 ≤ (0 : Int) := (by omega); have q433 : 0 < (t430.length : Int) := od_; obtain ⟨ad433, e433, hx433_0⟩ := Kd.at_int (Kd.R_reads' HO432.out).2.2 0 p433 q433; cases e433; have qi433 : (0 < t430.length) = True := eq_true (by omega); (try rw [show ((0 : Int)).toNat = 0 from rfl] at hx433_0); (try rw [Addr.add_zero'] at hx433_0); replace p433 := eq_true p433; replace q433 := eq_true q433) | ((with_reducible refine gate_builtin (b := .append) (xs := #[.tmp 36, .tmp 38]) rfl ?_); at_builtin; refine Kd.R_append (Kd.int .i64) (w0 := w) w.heap.size rfl (.tmp 36) (.tmp 38) 23 3 (.int .i64 0) 8 rfl Try.underlying23 info3 rfl (by decide) (by omega) u12 x12_1 (rd t430 0) [.int .i64 (rd t430 0)] (fun k_ => some k_ ≠ (.slice (some ad425) t422.length co12 : Value).ownBlock ∧ some k_ ≠ (.slice (some ad433) t430.length co22 : Value).ownBlock) (fun _ => False) rfl rfl ?aP (fun _ hk => hk.elim) ?aF ?aO ?aB ?aS ?aL ?_; (case aP => exact rfl); (case aB => exact (hB HB)); (case aF => exact (fun k_ hk => ⟨Kd.fresh' (rl_ HO_11) k_ hk, Kd.fresh' (rl_ HO432) k_ hk⟩)); (case aO => exact (ra HO_12.out)); (case aS => exact (below_size (hB HB))); (case aL => have := LMc20.out; omega); intro v435 w23 ho hb hg hat; rw [← Ny434.out] at ho; have HO436 := Aside0.mk (ho); replace HO_11 := Aside0.mk (Kd.R_after (ok := (fun k_ => some k_ ≠ (.slice (some ad433) t430.length co22 : Value).ownBlock)) (rm_ HO_11 (fun _ hk => ⟨hk.2, hk.1⟩)).out hg hat); replace HO432 := Aside0.mk (Kd.R_after (ok := (fun k_ => some k_ ≠ (.slice (some ad425) t422.length co12 : Value).ownBlock)) (rm_ HO432 (fun _ hk => ⟨hk.1.2, hk.2⟩)).out hg hat); replace HB := Aside0.mk (hb); clear HO_12; clear ho hb hg hat)); try go_wp2_with (first | (go_at_call 108; (with_reducible refine (impl_hops.calls k1 a0 _ _ l1 x13_1 _ _ t422 t430 _ ?side1 ?side2 ?side3 ?side4 A18.out).mono ?_); (case side1 => exact cb_ HR1 HB); (case side2 => exact HC1.out); (case side3 => exact ca (Kd.R_reads' HO_11.out).2.2); (case side4 => exact (Kd.R_reads' HO_11.out).2.1); rintro e w21 ⟨v431, rfl, ho0, hb⟩; have HO432 := Aside0.mk (Kd.R_lower (Kd.R_new' (Kd.R_new' ho0 (rl_ HO_11)) (rl_ HO_12)) (below_size (hB HB))); replace HO_11 := re_ HO_11 ho0 hb; replace HO_12 := re_ HO_12 ho0 hb; replace HB := bst_ HB hb; clear hb ho0; obtain ⟨Ao22, co22, eo22⟩ := Kd.R_slice HO432.out; subst eo22; have p433 : 0 ≤ (0 : Int) := (by omega); have q433 : 0 < (t430.length : Int) := od_; obtain ⟨ad433, e433, hx433_0⟩ := Kd.at_int (Kd.R_reads' HO432.out).2.2 0 p433 q433; cases e433; have qi433 : (0 < t430.length) = True := eq_true (by omega); (try rw [show ((0 : Int)).toNat = 0 from rfl] at hx433_0); (try rw [Addr.add_zero'] at hx433_0); replace p433 := eq_true p433; replace q433 := eq_true q433) | ((with_reducible refine gate_builtin (b := .append) (xs := #[.tmp 36, .tmp 38]) rfl ?_); at_builtin; refine Kd.R_append (Kd.int .i64) (w0 := w) w.heap.size rfl (.tmp 36) (.tmp 38) 23 3 (.int .i64 0) 8 rfl Try.underlying23 info3 rfl (by decide) (by omega) u12 x12_1 (rd t430 0) [.int .i64 (rd t430 0)] (fun k_ => some k_ ≠ (.slice (some ad425) t422.length co12 : Value).ownBlock ∧ some k_ ≠ (.slice (some ad433) t430.length co22 : Value).ownBlock) (fun _ => False) rfl rfl ?aP (fun _ hk => hk.elim) ?aF ?aO ?aB ?aS ?aL ?_; (case aP => exact rfl); (case aB => exact (hB HB)); (case aF => exact (fun k_ hk => ⟨Kd.fresh' (rl_ HO_11) k_ hk, Kd.fresh' (rl_ HO432) k_ hk⟩)); (case aO => exact (ra HO_12.out)); (case aS => exact (below_size (hB HB))); (case aL => have := LMc20.out; omega); intro v435 w23 ho hb hg hat; rw [← Ny434.out] at ho; have HO436 := Aside0.mk (ho); replace HO_11 := Aside0.mk (Kd.R_after (ok := (fun k_ => some k_ ≠ (.slice (some ad433) t430.length co22 : Value).ownBlock)) (rm_ HO_11 (fun _ hk => ⟨hk.2, hk.1⟩)).out hg hat); replace HO432 := Aside0.mk (Kd.R_after (ok := (fun k_ => some k_ ≠ (.slice (some ad425) t422.length co12 : Value).ownBlock)) (rm_ HO432 (fun _ hk => ⟨hk.1.2, hk.2⟩)).out hg hat); replace HB := Aside0.mk (hb); clear HO_12; clear ho hb hg hat)))
   go_roundg k1
   case measure => have := HK1.out; omega
   case rel => exact ⟨(y434), (rd t430 0), (by first | rfl | (simp; done) | (simp [*]; done)), H', ⟨by have := HK1.out; omega⟩, rm_ HO_11 (fun _ hk => hk.2), rm_ HO436 (fun _ hk => hk.1), ⟨hB HB⟩⟩

mutual
def impl_SendOne.j0 : Nat → Int → Int → Bool → Int → List (S86) → List Int → List (S130) → Option ((List (S95)) × Bool × Bool)
 | 0, _, _, _, _, _, _, _ => none
 | k + 1, x9, x11, x35, x438000, x438001, x438002, x438003 => if x35 = true then (some (([] : List (S95)), false, false)) else ((impl_Campus_up.f k x438000 x438001 x438002 x438003).bind fun t442 => ((impl_wayTo.f k x438000 t442 x9 x11).bind fun bt445 => (impl_SendOne.l0 k bt445.1 bt445.2.2 ([] : List (S95)) 1)))
def impl_SendOne.l0 : Nat → List Int → Bool → List (S95) → Int → Option ((List (S95)) × Bool × Bool)
 | 0, _, _, _, _ => none
 | k + 1, x13, x15, x16, x17 => if x17 < (x13.length : Int) then (if 0 ≤ (wrap64 (x17 - 1)) then (if (wrap64 (x17 - 1)) < (x13.length : Int) then (if 0 ≤ x17 then (if x16.length < 8796093022208 then (impl_SendOne.l0 k x13 x15 (x16 ++ [(⟨rd x13 (wrap64 (x17 - 1)), rd x13 x17⟩ : S95)]) (wrap64 (x17 + 1))) else (none)) else (none)) else (none)) else (none)) else (some (x16, x15, true))
end
def impl_SendOne.f (k : Nat) (a0_0 : Int) (l0_1 : List (S86)) (l0_2 : List Int) (l0_3 : List (S130)) (a1 : Int) (a2 : Int) : Option ((List (S95)) × Bool × Bool) := (impl_spotOf.f k a0_0 l0_1 l0_2 l0_3 a1).bind fun bt438 => ((impl_spotOf.f k a0_0 l0_1 l0_2 l0_3 a2).bind fun bt440 => (if bt438.2 = true then (impl_SendOne.j0 k bt438.1 bt440.1 (!bt440.2) a0_0 l0_1 l0_2 l0_3) else (impl_SendOne.j0 k bt438.1 bt440.1 true a0_0 l0_1 l0_2 l0_3)))
theorem impl_SendOne.mono_l : ∀ k, (∀ y0 y1 y2 y3 y4 y5 y6, LeO (impl_SendOne.j0 k y0 y1 y2 y3 y4 y5 y6) (impl_SendOne.j0 (k + 1) y0 y1 y2 y3 y4 y5 y6)) ∧ (∀ y0 y1 y2 y3, LeO (impl_SendOne.l0 k y0 y1 y2 y3) (impl_SendOne.l0 (k + 1) y0 y1 y2 y3))
 | 0 => ⟨fun _ _ _ _ _ _ _ r h => by simp [impl_SendOne.j0] at h, fun _ _ _ _ r h => by simp [impl_SendOne.l0] at h⟩
 | k + 1 => by
  obtain ⟨ih0, ih1⟩ := impl_SendOne.mono_l k
  refine ⟨?_, ?_⟩
  ·intro y0 y1 y2 y3 y4 y5 y6
   unfold impl_SendOne.j0
   repeat' first
   | (with_reducible exact ih0 _ _ _ _ _ _ _)
   | (with_reducible exact ih1 _ _ _ _)
   | (with_reducible exact impl_Campus_up.mono _ _ _ _ _)
   | (with_reducible exact impl_spotOf.mono _ _ _ _ _ _)
   | (with_reducible exact impl_wayTo.mono _ _ _ _ _)
   | with_reducible first | exact LeO.refl _ | exact LeO.none _ | refine LeO.ite ?_ ?_ | refine LeO.bind ?_ fun _ => ?_
  ·intro y0 y1 y2 y3
   unfold impl_SendOne.l0
   repeat' first
   | (with_reducible exact ih0 _ _ _ _ _ _ _)
   | (with_reducible exact ih1 _ _ _ _)
   | (with_reducible exact impl_Campus_up.mono _ _ _ _ _)
   | (with_reducible exact impl_spotOf.mono _ _ _ _ _ _)
   | (with_reducible exact impl_wayTo.mono _ _ _ _ _)
   | with_reducible first | exact LeO.refl _ | exact LeO.none _ | refine LeO.ite ?_ ?_ | refine LeO.bind ?_ fun _ => ?_
theorem impl_SendOne.mono : ∀ a0 a1 a2 a3 a4 a5 k, LeO (impl_SendOne.f k a0 a1 a2 a3 a4 a5) (impl_SendOne.f (k + 1) a0 a1 a2 a3 a4 a5) := by
 intro a0 a1 a2 a3 a4 a5 k
 obtain ⟨ih0, ih1⟩ := impl_SendOne.mono_l k
 unfold impl_SendOne.f
 repeat' first
   | (with_reducible exact ih0 _ _ _ _ _ _ _)
   | (with_reducible exact ih1 _ _ _ _)
   | (with_reducible exact impl_Campus_up.mono _ _ _ _ _)
   | (with_reducible exact impl_spotOf.mono _ _ _ _ _ _)
   | (with_reducible exact impl_wayTo.mono _ _ _ _ _)
   | with_reducible first | exact LeO.refl _ | exact LeO.none _ | refine LeO.ite ?_ ?_ | refine LeO.bind ?_ fun _ => ?_
def impl_SendOne.T5 : Bool × List (List Nat × List Nat) := (true, [([], []), ([0], [0]), ([], []), ([2], [2]), ([], []), ([], []), ([1, 3, 4, 5, 3], [1, 3, 4, 5]), ([6], [6]), ([7], [7]), ([7], [7]), ([7], [7]), ([8, 6, 0, 1, 2, 3, 4, 5, 6, 7, 8], [8]), ([9, 11, 0, 1, 2, 3, 4, 5, 6, 7, 8, 9, 11], [9]), ([10, 12, 0, 1, 2, 3, 4, 5, 6, 7, 8, 9, 10, 11, 12], [10])])
def impl_SendOne.B5 : List Nat := [0, 1, 0, 4, 0, 0, 63, 127, 255, 255, 255, 511, 3071, 8191]
theorem impl_SendOne.tab5 : rtab .any (opsOf Try.f23 5) = impl_SendOne.T5 := by kernel_rfl
theorem impl_SendOne.bits5 : waitsOk impl_SendOne.T5.2 impl_SendOne.B5 = true := by kernel_rfl
def impl_SendOne.T10 : Bool × List (List Nat × List Nat) := (true, [([], []), ([], []), ([], []), ([2], [2]), ([1, 3], [1, 3]), ([4], [4]), ([], []), ([], []), ([6, 7], [6, 7]), ([8], [8]), ([5, 9], [5, 9]), ([10], [10]), ([0, 11], [0, 11]), ([12, 12, 0, 1, 2, 3, 4, 5, 6, 7, 8, 9, 10, 11, 12], [0, 12])])
def impl_SendOne.B10 : List Nat := [0, 0, 0, 4, 14, 30, 0, 0, 192, 448, 1022, 2046, 4095, 8191]
theorem impl_SendOne.tab10 : rtab .any (opsOf Try.f23 10) = impl_SendOne.T10 := by kernel_rfl
theorem impl_SendOne.bits10 : waitsOk impl_SendOne.T10.2 impl_SendOne.B10 = true := by kernel_rfl
set_option maxHeartbeats 8000000 in
set_option maxRecDepth 100000 in
theorem impl_SendOne.calls (k : Nat) (a0_0 : Int) (A0_1 : Option Addr) (c0_1 : Nat) (l0_1 : List (S86)) (A0_2 : Option Addr) (c0_2 : Nat) (l0_2 : List Int) (A0_3 : Option Addr) (c0_3 : Nat) (l0_3 : List (S130)) (a1 : Int) (a2 : Int) (r1 : List (S95)) (r2 : Bool) (r3 : Bool) (w : World) (hr0_1 : Kd.C k86 w A0_1 l0_1.length l0_1) (hc0_1 : l0_1.length ≤ c0_1) (hr0_2 : Kd.C (Kd.int .i64) w A0_2 l0_2.length l0_2) (hc0_2 : l0_2.length ≤ c0_2) (hr0_3 : Kd.C k130 w A0_3 l0_3.length l0_3) (hc0_3 : l0_3.length ≤ c0_3) (h : impl_SendOne.f k a0_0 l0_1 l0_2 l0_3 a1 a2 = some (r1, r2, r3)) :
  Calls Try.prog 23 #[.agg #[.int .i64 a0_0, .slice A0_1 l0_1.length c0_1, .slice A0_2 l0_2.length c0_2, .slice A0_3 l0_3.length c0_3], .int .i64 a1, .int .i64 a2] w fun e w' => ∃ v0_ : Value, e = .returned (.tuple #[v0_, .bool r2, .bool r3]) ∧ Kd.R k95 95 w' w.heap.size (fun _ => True) v0_ r1 ∧ Below w.heap.size w w' := by
 have hu33 := Try.underlying33
 have hu95 := Try.underlying95
 have HR0_1 := Aside0.mk hr0_1
 have HC0_1 := Aside0.mk hc0_1
 clear hr0_1 hc0_1
 have HR0_2 := Aside0.mk hr0_2
 have HC0_2 := Aside0.mk hc0_2
 clear hr0_2 hc0_2
 have HR0_3 := Aside0.mk hr0_3
 have HC0_3 := Aside0.mk hc0_3
 clear hr0_3 hc0_3
 have HB := Aside0.mk (Below.refl w.heap.size w)
 have H : ((impl_spotOf.f k a0_0 l0_1 l0_2 l0_3 a1).bind fun bt438 => ((impl_spotOf.f k a0_0 l0_1 l0_2 l0_3 a2).bind fun bt440 => (if bt438.2 = true then (impl_SendOne.j0 k bt438.1 bt440.1 (!bt440.2) a0_0 l0_1 l0_2 l0_3) else (impl_SendOne.j0 k bt438.1 bt440.1 true a0_0 l0_1 l0_2 l0_3)))) = some (r1, r2, r3) := h
 clear h
 replace H := Option.bind_eq_some_iff.mp H
 obtain ⟨⟨t438, t439⟩, A40, H⟩ := H
 replace H : ((impl_spotOf.f k a0_0 l0_1 l0_2 l0_3 a2).bind fun bt440 => (if t439 = true then (impl_SendOne.j0 k t438 bt440.1 (!bt440.2) a0_0 l0_1 l0_2 l0_3) else (impl_SendOne.j0 k t438 bt440.1 true a0_0 l0_1 l0_2 l0_3))) = some (r1, r2, r3) := H
 have A4 := Aside0.mk A40
 clear A40
 replace H := Option.bind_eq_some_iff.mp H
 obtain ⟨⟨t440, t441⟩, A50, H⟩ := H
 replace H : (if t439 = true then (impl_SendOne.j0 k t438 t440 (!t441) a0_0 l0_1 l0_2 l0_3) else (impl_SendOne.j0 k t438 t440 true a0_0 l0_1 l0_2 l0_3)) = some (r1, r2, r3) := H
 have A5 := Aside0.mk A50
 clear A50
 have HC6 := Aside0.mk H
 clear H
 go_enter Try.func23, Try.ntmps23
 go_upto_region 3 with (first | ((with_reducible refine gate_dst (N := 3) rfl ?_); refine box_event ?hg (N := 3) ?hd (cs := #[.int .i64 a0_0, .slice A0_1 l0_1.length c0_1, .slice A0_2 l0_2.length c0_2, .slice A0_3 l0_3.length c0_3]) (t := 33) ?hr ?_; (case hd => rfl); (case hg => rfl); (case hr => first | (go_simp; done) | (go_simp; rfl)); intro gb437 hg w7 hbox hb; have BK437 := Aside0.mk (hbox); have GW437 := gw_ hg HB; have GE437 := gw_ hg HB; replace HB := bst_ HB hb; clear hb hbox hg; obtain ⟨hcz8_0, hcz8_1, hcz8_2, hcz8_3⟩ := bcs4_ BK437) | (refine goesL_ (some 21) rfl rfl Try.func65 (by kernel_rfl) rfl #[.agg #[.int .i64 a0_0, .slice A0_1 l0_1.length c0_1, .slice A0_2 l0_2.length c0_2, .slice A0_3 l0_3.length c0_3], .int .i64 a1] rfl tm_ ?_; (with_reducible refine (impl_spotOf.calls k a0_0 _ _ l0_1 _ _ l0_2 _ _ l0_3 a1 t438 t439 _ ?side1 ?side2 ?side3 ?side4 ?side5 ?side6 A4.out).mono ?_); (case side1 => exact cb_ HR0_1 HB); (case side2 => exact HC0_1.out); (case side3 => exact cb_ HR0_2 HB); (case side4 => exact HC0_2.out); (case side5 => exact cb_ HR0_3 HB); (case side6 => exact HC0_3.out); rintro e w9 ⟨rfl, hb⟩; refine ⟨_, rfl, ?_⟩; replace BK437 := bb_ BK437 hb; replace HB := bst_ HB hb; clear hb; obtain ⟨hcz10_0, hcz10_1, hcz10_2, hcz10_3⟩ := bcs4_ BK437) | (refine goesL_ (some 27) rfl rfl Try.func65 (by kernel_rfl) rfl #[.agg #[.int .i64 a0_0, .slice A0_1 l0_1.length c0_1, .slice A0_2 l0_2.length c0_2, .slice A0_3 l0_3.length c0_3], .int .i64 a2] rfl tm_ ?_; (with_reducible refine (impl_spotOf.calls k a0_0 _ _ l0_1 _ _ l0_2 _ _ l0_3 a2 t440 t441 _ ?side1 ?side2 ?side3 ?side4 ?side5 ?side6 A5.out).mono ?_); (case side1 => exact cb_ HR0_1 HB); (case side2 => exact HC0_1.out); (case side3 => exact cb_ HR0_2 HB); (case side4 => exact HC0_2.out); (case side5 => exact cb_ HR0_3 HB); (case side6 => exact HC0_3.out); rintro e w11 ⟨rfl, hb⟩; refine ⟨_, rfl, ?_⟩; replace BK437 := bb_ BK437 hb; replace HB := bst_ HB hb; clear hb))
 (try simp only [Act.put, List.setIfInBounds_toArray, List.set_cons_zero, List.set_cons_succ])
 go_cut [35] (fun v35 wc => ∃ (kq : Nat) (x35_5 : Bool), v35 = .bool x35_5 ∧ Aside0 (impl_SendOne.j0 kq t438 t440 x35_5 a0_0 l0_1 l0_2 l0_3 = some (r1, r2, r3)) ∧ Aside0 (kq ≤ k) ∧ Aside0 (wc.heap[gb437]? = some (.cells #[.int .i64 a0_0, (.slice A0_1 l0_1.length c0_1), (.slice A0_2 l0_2.length c0_2), (.slice A0_3 l0_3.length c0_3)] 33 (0, 0))) ∧ Aside0 (Below w.heap.size w wc))
 case first =>
  have H := HC6.out
  clear HC6
  by_cases c12 : t439 = true
  ·subst c12
   rw [if_pos rfl] at H
   have H' := Aside0.mk H
   clear H
   go_wp2
   go_meet
   case rel => exact ⟨_, (!t441), (by first | rfl | (simp; done) | (simp [*]; done)), H', ⟨by first | omega | exact Nat.le_refl _⟩, ⟨by (with_reducible repeat (first | refine blk_drewN ?_ _ | refine blk_drew ?_ | refine blk_alloc ?_ _)); exact BK437.out⟩, ⟨hB HB⟩⟩
  replace c12 := Bool.eq_false_iff.mpr c12
  subst c12
  rw [if_neg (show ¬ (false = true) by decide)] at H
  have H' := Aside0.mk H
  clear H
  go_wp2
  go_meet
  case rel => exact ⟨_, (true), (by first | rfl | (simp; done) | (simp [*]; done)), H', ⟨by first | omega | exact Nat.le_refl _⟩, ⟨by (with_reducible repeat (first | refine blk_drewN ?_ _ | refine blk_drew ?_ | refine blk_alloc ?_ _)); exact BK437.out⟩, ⟨hB HB⟩⟩
 case rest =>
  clear HC6
  try clear hcz10_0
  try clear hcz10_1
  try clear hcz10_2
  try clear hcz10_3
  try clear hcz8_0
  try clear hcz8_1
  try clear hcz8_2
  try clear hcz8_3
  try clear hfz10_0
  try clear hfz10_1
  try clear hfz10_2
  try clear hfz10_3
  try clear hfz8_0
  try clear hfz8_1
  try clear hfz8_2
  try clear hfz8_3
  obtain ⟨kq, x35_5, rfl, HA, HJ5, BK437, HB⟩ := hcut
  cases kq with
  | zero => exact absurd HA.out (by simp [impl_SendOne.j0])
  | succ kj5 =>
   have H := HA.out
   clear HA
   simp only [impl_SendOne.j0] at H
   by_cases c13 : x35_5 = true
   ·subst c13
    rw [if_pos rfl] at H
    simp only [Option.some.injEq, Prod.mk.injEq] at H
    obtain ⟨rfl, rfl, rfl⟩ := H
    go_wp2
    go_ret3
    exact ⟨_, rt_, by first | exact Kd.R_nil _ _ _ _ _ | exact Kd.N_nil _ _ _ _ _ | exact Kd.V_nil _ _ _ _ _ | exact Kd.Q_nil _ _ _ _ _ | exact Kd.S_nil _ _ _ _ _, hB HB⟩
   replace c13 := Bool.eq_false_iff.mpr c13
   subst c13
   rw [if_neg (show ¬ (false = true) by decide)] at H
   replace H := Option.bind_eq_some_iff.mp H
   obtain ⟨t442, A140, H⟩ := H
   replace H : ((impl_wayTo.f kj5 a0_0 t442 t438 t440).bind fun bt445 => (impl_SendOne.l0 kj5 bt445.1 bt445.2.2 ([] : List (S95)) 1)) = some (r1, r2, r3) := H
   have A14 := Aside0.mk A140
   clear A140
   replace H := Option.bind_eq_some_iff.mp H
   obtain ⟨⟨t445, t446, t447⟩, A150, H⟩ := H
   replace H : (impl_SendOne.l0 kj5 t445 t447 ([] : List (S95)) 1) = some (r1, r2, r3) := H
   have A15 := Aside0.mk A150
   clear A150
   have H' := Aside0.mk H
   clear H
   try go_wp2
   replace BK437 := bd_ BK437
   replace HB := Aside0.mk (below_drew1 HB.out)
   refine start_ (n := 14) (S := fun w' => w'.cell? ⟨gb437, 0, none⟩ = some (.int .i64 a0_0) ∧ w'.cell? ⟨gb437, 1, none⟩ = some (.slice A0_1 l0_1.length c0_1) ∧ w'.cell? ⟨gb437, 2, none⟩ = some (.slice A0_2 l0_2.length c0_2) ∧ w'.cell? ⟨gb437, 3, none⟩ = some (.slice A0_3 l0_3.length c0_3)) (ds := []) (bs 14 0) (by kernel_rfl) rfl rfl ⟨bc_ BK437 0, bc_ BK437 1, bc_ BK437 2, bc_ BK437 3⟩ (fun hHeld => ?_); refine with_tabW impl_SendOne.tab5 impl_SendOne.bits5 (fun HT_ HW_ => ?_)
   generalize wc.drew = w16 at BK437 HB hHeld ⊢
   refine pu_ 0 37 (bs 14 1) HT_ ?_
   refine pu_ 4 41 (bs 14 17) HT_ ?_
   refine pu_ 5 42 (bs 14 49) HT_ ?_
   refine tk_ 1 38 (bs 14 51) HT_ HW_ hHeld ?_
   refine tk_ 2 39 (bs 14 55) HT_ HW_ hHeld ?_
   refine on_ 3 (some 40) (bs 14 63) HT_ (fun K hK => ?_)
   refine goes_ Try.func58 (by kernel_rfl) rfl #[.agg #[.int .i64 a0_0, .slice A0_1 l0_1.length c0_1, .slice A0_2 l0_2.length c0_2, .slice A0_3 l0_3.length c0_3]] (by rfl) rfl rfl tm_ ?_
   with_reducible refine (impl_Campus_up.calls kj5 a0_0 _ _ l0_1 _ _ l0_2 _ _ l0_3 t442 _ ?side1 ?side2 ?side3 ?side4 ?side5 ?side6 A14.out).mono ?_
   (case side1 => exact cb_ HR0_1 HB)
   (case side2 => exact HC0_1.out)
   (case side3 => exact cb_ HR0_2 HB)
   (case side4 => exact HC0_2.out)
   (case side5 => exact cb_ HR0_3 HB)
   (case side6 => exact HC0_3.out)
   rintro e w17 ⟨v443, rfl, ho0, hb⟩
   refine ⟨_, rfl, ?_⟩
   have HO444 := Aside0.mk (Kd.R_lower ho0 (below_size (hB HB)))
   replace BK437 := bb_ BK437 hb
   replace HB := bst_ HB hb
   clear hb ho0
   obtain ⟨Ao18, co18, eo18⟩ := Kd.R_slice HO444.out
   subst eo18
   refine hK.out _ _ ⟨bc_ BK437 0, bc_ BK437 1, bc_ BK437 2, bc_ BK437 3⟩ (fun hHeld => ?_)
   clear hK K
   refine nm_ 40 ?_
   refine on_ 6 (some 43) (bs 14 127) HT_ (fun K hK => ?_)
   refine goes_ Try.func66 (by kernel_rfl) rfl #[.int .i64 a0_0, .slice Ao18 t442.length co18, .int .i64 t438, .int .i64 t440] (by rfl) rfl rfl tm_ ?_
   with_reducible refine (impl_wayTo.calls kj5 a0_0 _ _ t442 t438 t440 t445 t446 t447 _ ?side1 ?side2 A15.out).mono ?_
   (case side1 => exact ca (Kd.R_reads' HO444.out).2.2)
   (case side2 => exact (Kd.R_reads' HO444.out).2.1)
   rintro e w19 ⟨v448, rfl, ho0, hb⟩
   refine ⟨_, rfl, ?_⟩
   have HO449 := Aside0.mk (Kd.R_lower ho0 (below_size (hB HB)))
   replace HO444 := rb_ HO444 hb
   replace BK437 := bb_ BK437 hb
   replace HB := bst_ HB hb
   clear hb ho0
   refine hK.out _ _ ⟨bc_ BK437 0, bc_ BK437 1, bc_ BK437 2, bc_ BK437 3⟩ (fun hHeld => ?_)
   clear hK K
   refine nm_ 43 ?_
   refine pu_ 7 36 (bs 14 255) HT_ ?_
   refine pu_ 8 44 (bs 14 511) HT_ ?_
   refine pu_ 9 45 (bs 14 1023) HT_ ?_
   refine pu_ 10 46 (bs 14 2047) HT_ ?_
   refine pu_ 11 13 (bs 14 4095) HT_ ?_
   refine pu_ 12 14 (bs 14 8191) HT_ ?_
   refine pu_ 13 15 (bs 14 16383) HT_ ?_
   refine done_ (done_of HT_.out (by kernel_rfl)) ?_
   try go_wp2
   go_loopg [16, 17] kj5 (fun kq v16 v17 w' => ∃ (x16_2 : List (S95)) (x17_2 : Int), v17 = .int .i64 x17_2 ∧ Aside0 (impl_SendOne.l0 kq t445 t447 x16_2 x17_2 = some (r1, r2, r3)) ∧ Aside0 (kq ≤ kj5) ∧ Aside0 (Kd.R (Kd.int .i64) 3 w' w.heap.size (fun _ => True) v448 t445) ∧ Aside0 (Kd.R k95 95 w' w.heap.size (fun _ => True) v16 x16_2) ∧ Aside0 (w'.heap[gb437]? = some (.cells #[.int .i64 a0_0, (.slice A0_1 l0_1.length c0_1), (.slice A0_2 l0_2.length c0_2), (.slice A0_3 l0_3.length c0_3)] 33 (0, 0))) ∧ Aside0 (Below w.heap.size w w'))
   case atStart => exact ⟨(([] : List (S95))), (1), (by first | rfl | (simp; done) | (simp [*]; done)), H', ⟨Nat.le_refl _⟩, ⟨ra HO449.out⟩, ⟨by first | exact Kd.R_nil _ _ _ _ _ | exact Kd.N_nil _ _ _ _ _ | exact Kd.V_nil _ _ _ _ _ | exact Kd.Q_nil _ _ _ _ _ | exact Kd.S_nil _ _ _ _ _⟩, ⟨by (with_reducible repeat (first | refine blk_drewN ?_ _ | refine blk_drew ?_ | refine blk_alloc ?_ _)); exact BK437.out⟩, ⟨hB HB⟩⟩
   case round =>
    clear H'
    try clear c13
    try clear hcz10_0
    try clear hcz10_1
    try clear hcz10_2
    try clear hcz10_3
    try clear hcz8_0
    try clear hcz8_1
    try clear hcz8_2
    try clear hcz8_3
    try clear hfz10_0
    try clear hfz10_1
    try clear hfz10_2
    try clear hfz10_3
    try clear hfz8_0
    try clear hfz8_1
    try clear hfz8_2
    try clear hfz8_3
    obtain ⟨x16_2, x17_2, rfl, HA, HK2, HO_13, HO_16, BK437, HB⟩ := hrel
    cases gk with
    | zero => exact absurd HA.out (by simp [impl_SendOne.l0])
    | succ k2 =>
     have H := HA.out
     clear HA
     simp only [impl_SendOne.l0] at H
     by_cases c20 : x17_2 < (t445.length : Int)
     rotate_left
     ·rw [if_neg c20] at H
      have c20b0 : decide (x17_2 < (t445.length : Int)) = false := decide_eq_false c20
      clear c20
      simp only [Option.some.injEq, Prod.mk.injEq] at H
      obtain ⟨rfl, rfl, rfl⟩ := H
      obtain ⟨Ao29, co29, eo29⟩ := Kd.R_slice HO_13.out
      subst eo29
      go_wp2
      go_ret3
      exact ⟨_, rt_, ra HO_16.out, hB HB⟩
     rw [if_pos c20] at H
     have c20b0 : decide (x17_2 < (t445.length : Int)) = true := decide_eq_true c20
     clear c20
     obtain ⟨ji21, hji21⟩ : ∃ j_ : Int, (wrap64 (x17_2 - 1)) = j_ := ⟨_, rfl⟩
     replace H : (if 0 ≤ (ji21) then (if (ji21) < (t445.length : Int) then (if 0 ≤ x17_2 then (if x16_2.length < 8796093022208 then (impl_SendOne.l0 k2 t445 t447 (x16_2 ++ [(⟨rd t445 (ji21), rd t445 x17_2⟩ : S95)]) (wrap64 (x17_2 + 1))) else (none)) else (none)) else (none)) else (none)) = some (r1, r2, r3) := by first | (rw [hji21] at H; exact H) | (simp only [hji21] at H ⊢; exact H)
     have hji21w : (IntKind.i64.wrap (x17_2 - 1)) = ji21 := (i64_w _).trans hji21
     by_cases c22 : 0 ≤ (ji21)
     rotate_left
     ·rw [if_neg c22] at H
      exact absurd H (by simp)
     rw [if_pos c22] at H
     have c22b0 : decide (0 ≤ (ji21)) = true := decide_eq_true c22
     clear c22
     by_cases c23 : (ji21) < (t445.length : Int)
     rotate_left
     ·rw [if_neg c23] at H
      exact absurd H (by simp)
     rw [if_pos c23] at H
     have c23b0 : decide ((ji21) < (t445.length : Int)) = true := decide_eq_true c23
     clear c23
     by_cases c24 : 0 ≤ x17_2
     rotate_left
     ·rw [if_neg c24] at H
      exact absurd H (by simp)
     rw [if_pos c24] at H
     have c24b0 : decide (0 ≤ x17_2) = true := decide_eq_true c24
     clear c24
     by_cases c25 : x16_2.length < 8796093022208
     rotate_left
     ·rw [if_neg c25] at H
      exact absurd H (by simp)
     rw [if_pos c25] at H
     have LMc25 := Aside0.mk c25
     clear c25
     obtain ⟨y452, hy452⟩ : ∃ y_ : List (S95), y_ = (x16_2 ++ [(⟨rd t445 (ji21), rd t445 x17_2⟩ : S95)]) := ⟨_, rfl⟩
     replace H : (impl_SendOne.l0 k2 t445 t447 y452 (wrap64 (x17_2 + 1))) = some (r1, r2, r3) := by first | (rw [hy452]; with_reducible exact H) | (have H2_ := (Option.bind_some _ _).symm.trans H; rw [hy452]; with_reducible exact H2_) | (have H2_ := (Option.bind_some _ _).symm.trans H; with_reducible exact H2_) | with_reducible exact H | (rw [hy452]; exact H) | exact H
     have Ny452 := Aside0.mk hy452
     clear hy452
     have H' := Aside0.mk H
     clear H
     obtain ⟨Ao26, co26, eo26⟩ := Kd.R_slice HO_13.out
     subst eo26
     try go_wp2
     replace HO_13 := rd_ HO_13
     replace HO_16 := rd_ HO_16
     replace BK437 := bd_ BK437
     replace HB := Aside0.mk (below_drew1 HB.out)
     have p450 : 0 ≤ ((ji21) : Int) := od_
     have q450 : (ji21) < (t445.length : Int) := od_
     obtain ⟨ad450, e450, hx450_0⟩ := Kd.at_int (Kd.R_reads' HO_13.out).2.2 (ji21) p450 q450
     cases e450
     replace p450 := eq_true p450
     replace q450 := eq_true q450
     have p451 : 0 ≤ (x17_2 : Int) := od_
     have q451 : x17_2 < (t445.length : Int) := od_
     obtain ⟨ad451, e451, hx451_0⟩ := Kd.at_int (Kd.R_reads' HO_13.out).2.2 x17_2 p451 q451
     obtain rfl : ad450 = ad451 := (by injection e451)
     replace p451 := eq_true p451
     replace q451 := eq_true q451
     refine start_ (n := 14) (S := fun w' => w'.cell? (ad450.add ((ji21)).toNat) = some (.int .i64 (rd t445 (ji21))) ∧ w'.cell? (ad450.add (x17_2).toNat) = some (.int .i64 (rd t445 x17_2))) (ds := [11, 12]) (bs 14 0) (by kernel_rfl) rfl rfl ⟨hx450_0, hx451_0⟩ (fun hHeld => ?_); refine with_tabW impl_SendOne.tab10 impl_SendOne.bits10 (fun HT_ HW_ => ?_)
     generalize wr.drew = w27 at HO_13 HO_16 BK437 HB hx450_0 hx451_0 hHeld ⊢
     refine pu_ 0 53 (bs 14 1) HT_ ?_
     refine pu_ 1 54 (bs 14 3) HT_ ?_
     refine pu_ 2 55 (bs 14 7) HT_ ?_
     refine pu_ 3 56 (bs 14 15) HT_ ?_
     refine pu_ 4 57 (bs 14 31) HT_ ?_
     refine pu_ 6 59 (bs 14 95) HT_ ?_
     refine pu_ 7 60 (bs 14 223) HT_ ?_
     refine pu_ 8 61 (bs 14 479) HT_ ?_
     refine tk_ 5 58 (bs 14 511) HT_ HW_ hHeld ?_
     refine tk_ 9 62 (bs 14 1023) HT_ HW_ hHeld ?_
     refine pu_ 10 63 (bs 14 2047) HT_ ?_
     refine last_ (i := 11) (N := some 64) (bs 14 4095) rfl rfl (one_of HT_.out (by kernel_rfl)) (by decide) (fun K hK => ?_)
     refine value_ (w1 := ?_) (v := ?_) (by rfl) rfl ?_ ?_
     rotate_left 2
     ·go_simp
      constructor
      ·rfl
      ·rfl
     refine hK.out _ _ ?_
     clear hK K
     refine nm_ 64 ?_
     refine last_ (i := 12) (N := some 65) (bs 14 8191) rfl rfl (one_of HT_.out (by kernel_rfl)) (by decide) (fun K hK => ?_)
     refine Kd.R_append_step k95 (w0 := w) w.heap.size (by rfl) (.tmp 53) (.tmp 64) 43 95 (.agg #[(.int .i64 0), (.int .i64 0)]) 16 rfl Try.underlying43 info95 rfl (by decide) (by omega) u16 x16_2 (⟨rd t445 (ji21), rd t445 x17_2⟩ : S95) [.int .i64 (rd t445 (ji21)), .int .i64 (rd t445 x17_2)] (fun _ => True) (fun _ => False) rfl rfl ?aP (fun _ hk => hk.elim) ?aF ?aO ?aB ?aS ?aL ?_
     (case aP => exact k95_mkM _ _ _ (⟨rd t445 (ji21), rd t445 x17_2⟩ : S95))
     (case aB => exact (hB HB))
     (case aF => exact (fun _ _ => trivial))
     (case aO => exact (ra HO_16.out))
     (case aS => exact (below_size (hB HB)))
     (case aL => have := LMc25.out; omega)
     intro v453 w28 ho hb hg hat
     rw [← Ny452.out] at ho
     have HO454 := Aside0.mk (ho)
     replace HO_13 := Aside0.mk (Kd.R_over' (ra HO_13.out) (Kd.R_typed (ra HO_16.out)) (by decide) hg)
     replace BK437 := Aside0.mk (blk_grown (g := gb437) (o := .cells #[.int .i64 a0_0, .slice A0_1 l0_1.length c0_1, .slice A0_2 l0_2.length c0_2, .slice A0_3 l0_3.length c0_3] 33 (0, 0)) (ba BK437.out) hg (Kd.R_ne HO_16.out BK437.out (by decide)))
     replace HB := Aside0.mk (hb)
     clear HO_16
     clear ho hb hg hat
     refine hK.out _ _ ?_
     clear hK K
     refine nm_ 65 ?_
     refine pu_ 13 16 (bs 14 16383) HT_ ?_
     refine done_ (done_of HT_.out (by kernel_rfl)) ?_
     try go_wp2
     go_roundg k2
     case measure => have := HJ5.out; have := HK2.out; omega
     case rel => exact ⟨(y452), (wrap64 (x17_2 + 1)), (by first | rfl | (simp; done) | (simp [*]; done)), H', ⟨by have := HJ5.out; have := HK2.out; omega⟩, ⟨ra HO_13.out⟩, ⟨ra HO454.out⟩, ⟨by (with_reducible repeat (first | refine blk_drewN ?_ _ | refine blk_drew ?_ | refine blk_alloc ?_ _)); exact BK437.out⟩, ⟨hB HB⟩⟩

end Go.Proofs.Ytpohlcjkabojcaa.P
