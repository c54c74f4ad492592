import Derived.Test.YtpohlcjkabojcaaF0
import Derived.Test.YtpohlcjkabojcaaF3
namespace Go.Proofs.Ytpohlcjkabojcaa.P
open Go.RowKit Go.Proofs.YtpohlcjkabojcaaW.PrintWords Go.Proofs.YtpohlcjkabojcaaW.PrintLast Go.Proofs.YtpohlcjkabojcaaW.PrintMore
attribute [local go_sem] max2_int min2_int max_two min_two max_three min_three max_four min_four   -- for this text's walks alone
set_option linter.unusedVariables false
set_option linter.unusedSimpArgs false

def impl_GoodEdges.l0 : Nat → Int → List (S86) → List (S86) → Int → Int → Option (Bool)
 | 0, _, _, _, _, _ => none
 | k + 1, x0, x1, x7, x8, x9 => if x9 < x8 then (if 0 ≤ x9 then (if x9 < (x7.length : Int) then ((impl_in.f ((rd_T86 x7 x9).f0) 0 (wrap64 (x0 - 1))).bind fun t199 => (if t199 = true then ((impl_in.f ((rd_T86 x7 x9).f1) 0 (wrap64 (x0 - 1))).bind fun t200 => (if t200 = true then (if ((rd_T86 x7 x9).f0) ≥ ((rd_T86 x7 x9).f1) then (some false) else ((impl_in.f ((rd_T86 x7 x9).f2) 1 100).bind fun t201 => (if t201 = true then (if x9 > 0 then (if 0 ≤ (wrap64 (x9 - 1)) then (if (wrap64 (x9 - 1)) < (x1.length : Int) then ((impl_byEnds.f ((rd_T86 x1 (wrap64 (x9 - 1))).f0) ((rd_T86 x1 (wrap64 (x9 - 1))).f1) ((rd_T86 x1 (wrap64 (x9 - 1))).f2) ((rd_T86 x7 x9).f0) ((rd_T86 x7 x9).f1) ((rd_T86 x7 x9).f2)).bind fun t203 => (if t203 ≥ 0 then (some false) else (impl_GoodEdges.l0 k x0 x1 x7 x8 (wrap64 (x9 + 1))))) else (none)) else (none)) else (impl_GoodEdges.l0 k x0 x1 x7 x8 (wrap64 (x9 + 1)))) else (some false)))) else (some false))) else (some false))) else (none)) else (none)) else ((impl_isSpots.f x0).bind fun t196 => (if t196 = true then (some (decide ((x1.length : Int) ≤ 40))) else (some false)))
def impl_GoodEdges.f (k : Nat) (a0 : Int) (l1 : List (S86)) : Option (Bool) := impl_GoodEdges.l0 k a0 l1 l1 (l1.length : Int) 0
theorem impl_GoodEdges.mono_l : ∀ k, (∀ y0 y1 y2 y3 y4, LeO (impl_GoodEdges.l0 k y0 y1 y2 y3 y4) (impl_GoodEdges.l0 (k + 1) y0 y1 y2 y3 y4))
 | 0 => fun _ _ _ _ _ r h => by simp [impl_GoodEdges.l0] at h
 | k + 1 => by
  have ih0 := impl_GoodEdges.mono_l k
  ·intro y0 y1 y2 y3 y4
   unfold impl_GoodEdges.l0
   repeat' first
   | (with_reducible exact ih0 _ _ _ _ _)
   | with_reducible first | exact LeO.refl _ | exact LeO.none _ | refine LeO.ite ?_ ?_ | refine LeO.bind ?_ fun _ => ?_
theorem impl_GoodEdges.mono : ∀ a0 a1 k, LeO (impl_GoodEdges.f k a0 a1) (impl_GoodEdges.f (k + 1) a0 a1) := by
 intro a0 a1 k
 have ih0 := impl_GoodEdges.mono_l k
 unfold impl_GoodEdges.f
 repeat' first
   | (with_reducible exact ih0 _ _ _ _ _)
   | with_reducible first | exact LeO.refl _ | exact LeO.none _ | refine LeO.ite ?_ ?_ | refine LeO.bind ?_ fun _ => ?_
def impl_GoodEdges.T4 : Bool × List (List Nat × List Nat) := (true, [([], []), ([0], [0]), ([], []), ([2], [2]), ([1, 3], [1, 3]), ([4], [4]), ([5, 4], [5]), ([6], [6]), ([7, 6], [6, 7]), ([6], [6]), ([9, 6], [6, 9]), ([8, 10, 6, 6], [6, 8, 10]), ([11, 6], [6, 11]), ([6, 12], [6, 12]), ([13, 11], [13]), ([14], [14]), ([15, 14], [14, 15]), ([14], [14]), ([17, 14], [14, 17]), ([16, 18, 14], [14, 16, 18]), ([14, 19], [14, 19]), ([20, 14], [20]), ([21], [21]), ([22, 21], [21, 22]), ([23, 21, 21], [21, 23]), ([24, 21], [21, 24]), ([21, 25], [21, 25]), ([26, 24], [26]), ([27], [27]), ([28, 27], [27, 28]), ([29, 27, 27], [27, 29]), ([30], [30]), ([30], [30]), ([32, 30], [30, 32]), ([31, 33, 30], [30, 31, 33]), ([34, 30], [30, 34]), ([30], [30]), ([35, 36, 30, 30], [30, 35, 36]), ([37, 30], [30, 37]), ([30, 38, 27], [27, 30, 38]), ([27, 39], [27, 39])])
def impl_GoodEdges.B4 : List Nat := [0, 1, 0, 4, 15, 31, 63, 127, 255, 127, 639, 2047, 4095, 8191, 16383, 32767, 65535, 32767, 163839, 524287, 1048575, 2097151, 4194303, 8388607, 16777215, 33554431, 67108863, 134217727, 268435455, 536870911, 1073741823, 2147483647, 2147483647, 6442450943, 17179869183, 34359738367, 2147483647, 137438953471, 274877906943, 549755813887, 1099511627775]
theorem impl_GoodEdges.tab4 : rtab .any (opsOf Try.f71 4) = impl_GoodEdges.T4 := by kernel_rfl
theorem impl_GoodEdges.bits4 : waitsOk impl_GoodEdges.T4.2 impl_GoodEdges.B4 = true := by kernel_rfl
set_option maxHeartbeats 8000000 in
set_option maxRecDepth 100000 in
theorem impl_GoodEdges.calls (k : Nat) (a0 : Int) (A1 : Option Addr) (c1 : Nat) (l1 : List (S86)) (r : Bool) (w : World) (hr1 : Kd.C k86 w A1 l1.length l1) (hc1 : l1.length ≤ c1) (h : impl_GoodEdges.f k a0 l1 = some r) :
  Calls Try.prog 71 #[.int .i64 a0, .slice A1 l1.length c1] w fun e w' => e = .returned (.bool r) ∧ Below w.heap.size w w' := by
 have hu86 := Try.underlying86
 have HR1 := Aside0.mk hr1
 have HC1 := Aside0.mk hc1
 clear hr1 hc1
 have HB := Aside0.mk (Below.refl w.heap.size w)
 have H : (impl_GoodEdges.l0 k a0 l1 l1 (l1.length : Int) 0) = some r := h
 clear h
 have H' := Aside0.mk H
 clear H
 go_enter Try.func71, Try.ntmps71
 go_wp2
 go_loopg [9] k (fun kq v9 w' => ∃ (x9_1 : Int), v9 = .int .i64 x9_1 ∧ Aside0 (impl_GoodEdges.l0 kq a0 l1 l1 (l1.length : Int) x9_1 = some r) ∧ Aside0 (kq ≤ k) ∧ Aside0 (Below w.heap.size w w'))
 case atStart => exact ⟨(0), (by first | rfl | (simp; done) | (simp [*]; done)), H', ⟨Nat.le_refl _⟩, ⟨hB HB⟩⟩
 case round =>
  clear H'
  try clear c1
  obtain ⟨x9_1, rfl, HA, HK1, HB⟩ := hrel
  cases gk with
  | zero => exact absurd HA.out (by simp [impl_GoodEdges.l0])
  | succ k1 =>
   have H := HA.out
   clear HA
   simp only [impl_GoodEdges.l0] at H
   by_cases c3 : x9_1 < (l1.length : Int)
   rotate_left
   ·rw [if_neg c3] at H
    have c3b0 : decide (x9_1 < (l1.length : Int)) = false := decide_eq_false c3
    clear c3
    replace H := Option.bind_eq_some_iff.mp H
    obtain ⟨t196, A490, H⟩ := H
    replace H : (if t196 = true then (some (decide ((l1.length : Int) ≤ 40))) else (some false)) = some r := H
    have A49 := Aside0.mk A490
    clear A490
    by_cases c50 : t196 = true
    ·subst c50
     rw [if_pos rfl] at H
     obtain rfl := Option.some.inj H
     go_wp2_with (first | (refine goesL_ (some 57) rfl rfl Try.func112 (by kernel_rfl) rfl #[.int .i64 a0] rfl tm_ ?_; (with_reducible refine (impl_isSpots.calls a0 true _ A49.out).mono ?_); rintro e w' ⟨rfl, ⟨nd, rfl⟩⟩; refine ⟨_, rfl, ?_⟩))
     go_ret
     exact ⟨rt_, hB HB⟩
    replace c50 := Bool.eq_false_iff.mpr c50
    subst c50
    rw [if_neg (show ¬ (false = true) by decide)] at H
    obtain rfl := Option.some.inj H
    go_wp2_with (first | (refine goesL_ (some 57) rfl rfl Try.func112 (by kernel_rfl) rfl #[.int .i64 a0] rfl tm_ ?_; (with_reducible refine (impl_isSpots.calls a0 false _ A49.out).mono ?_); rintro e w' ⟨rfl, ⟨nd, rfl⟩⟩; refine ⟨_, rfl, ?_⟩))
    go_ret
    exact ⟨rt_, hB HB⟩
   rw [if_pos c3] at H
   have c3b0 : decide (x9_1 < (l1.length : Int)) = true := decide_eq_true c3
   clear c3
   by_cases c4 : 0 ≤ x9_1
   rotate_left
   ·rw [if_neg c4] at H
    exact absurd H (by simp)
   rw [if_pos c4] at H
   have c4b0 : decide (0 ≤ x9_1) = true := decide_eq_true c4
   clear c4
   by_cases c5 : x9_1 < (l1.length : Int)
   rotate_left
   ·rw [if_neg c5] at H
    exact absurd H (by simp)
   rw [if_pos c5] at H
   have c5b0 : decide (x9_1 < (l1.length : Int)) = true := decide_eq_true c5
   clear c5
   replace H := Option.bind_eq_some_iff.mp H
   obtain ⟨t199, A60, H⟩ := H
   replace H : (if t199 = true then ((impl_in.f ((rd_T86 l1 x9_1).f1) 0 (wrap64 (a0 - 1))).bind fun t200 => (if t200 = true then (if ((rd_T86 l1 x9_1).f0) ≥ ((rd_T86 l1 x9_1).f1) then (some false) else ((impl_in.f ((rd_T86 l1 x9_1).f2) 1 100).bind fun t201 => (if t201 = true then (if x9_1 > 0 then (if 0 ≤ (wrap64 (x9_1 - 1)) then (if (wrap64 (x9_1 - 1)) < (l1.length : Int) then ((impl_byEnds.f ((rd_T86 l1 (wrap64 (x9_1 - 1))).f0) ((rd_T86 l1 (wrap64 (x9_1 - 1))).f1) ((rd_T86 l1 (wrap64 (x9_1 - 1))).f2) ((rd_T86 l1 x9_1).f0) ((rd_T86 l1 x9_1).f1) ((rd_T86 l1 x9_1).f2)).bind fun t203 => (if t203 ≥ 0 then (some false) else (impl_GoodEdges.l0 k1 a0 l1 l1 (l1.length : Int) (wrap64 (x9_1 + 1))))) else (none)) else (none)) else (impl_GoodEdges.l0 k1 a0 l1 l1 (l1.length : Int) (wrap64 (x9_1 + 1)))) else (some false)))) else (some false))) else (some false)) = some r := H
   have A6 := Aside0.mk A60
   clear A60
   by_cases c7 : t199 = true
   rotate_left
   ·replace c7 := Bool.eq_false_iff.mpr c7
    subst c7
    rw [if_neg (show ¬ (false = true) by decide)] at H
    obtain rfl := Option.some.inj H
    have p197 : 0 ≤ (x9_1 : Int) := od_
    have q197 : x9_1 < (l1.length : Int) := od_
    obtain ⟨ad197, e197, hx197_0, hx197_1, hx197_2⟩ := at_T86 HR1.out x9_1 p197 q197
    cases e197
    replace hx197_0 := hc_ HB hx197_0
    replace hx197_1 := hc_ HB hx197_1
    replace hx197_2 := hc_ HB hx197_2
    replace p197 := eq_true p197
    replace q197 := eq_true q197
    try go_wp2_with (first | ((with_reducible refine gate_dst (N := 6) rfl ?_); (try (refine gate_guard (by rfl) ?_; dsimp only)); refine box_event ?hg (N := 6) ?hd (cs := #[.int .i64 0, .int .i64 0, .int .i64 0]) (t := 86) ?hr ?_; (case hd => rfl); (case hg => rfl); (case hr => first | (go_simp; done) | (go_simp; rfl)); intro gb198 hg w45 hbox hb; have BK198 := Aside0.mk (hbox); have GW198 := gw_ hg HB; have GE198 := gw_ hg HB; replace HB := bst_ HB hb; clear hb hbox hg; obtain ⟨hcz46_0, hcz46_1, hcz46_2⟩ := bcs3_ BK198; have hfz46_0 := blk_frozen BK198.out 0; have hfz46_1 := blk_frozen BK198.out 1; have hfz46_2 := blk_frozen BK198.out 2))
    have n0_ : Aside0 ((((w45.setCell ⟨gb198, 0, none⟩ (.int .i64 ((rd_T86 l1 x9_1).f0))).setCell ⟨gb198, 1, none⟩ (.int .i64 ((rd_T86 l1 x9_1).f1))).setCell ⟨gb198, 2, none⟩ (.int .i64 ((rd_T86 l1 x9_1).f2))).heap[gb198]? = some (.cells #[.int .i64 ((rd_T86 l1 x9_1).f0), .int .i64 ((rd_T86 l1 x9_1).f1), .int .i64 ((rd_T86 l1 x9_1).f2)] 86 (0, 0))) := ⟨by (with_reducible repeat (first | refine blk_drewN ?_ _ | refine blk_drew ?_ | refine blk_alloc ?_ _)); refine blk_put (cs := #[.int .i64 ((rd_T86 l1 x9_1).f0), .int .i64 ((rd_T86 l1 x9_1).f1), .int .i64 0]) ?_ 2 _ rfl; (with_reducible repeat (first | refine blk_drewN ?_ _ | refine blk_drew ?_ | refine blk_alloc ?_ _)); refine blk_put (cs := #[.int .i64 ((rd_T86 l1 x9_1).f0), .int .i64 0, .int .i64 0]) ?_ 1 _ rfl; (with_reducible repeat (first | refine blk_drewN ?_ _ | refine blk_drew ?_ | refine blk_alloc ?_ _)); refine blk_put (cs := #[.int .i64 0, .int .i64 0, .int .i64 0]) ?_ 0 _ rfl; (with_reducible repeat (first | refine blk_drewN ?_ _ | refine blk_drew ?_ | refine blk_alloc ?_ _)); exact BK198.out⟩
    have n1_ : Aside0 (Below w.heap.size w (((w45.setCell ⟨gb198, 0, none⟩ (.int .i64 ((rd_T86 l1 x9_1).f0))).setCell ⟨gb198, 1, none⟩ (.int .i64 ((rd_T86 l1 x9_1).f1))).setCell ⟨gb198, 2, none⟩ (.int .i64 ((rd_T86 l1 x9_1).f2)))) := ⟨hB HB⟩
    (try clear BK198)
    (try clear HB)
    generalize (((w45.setCell ⟨gb198, 0, none⟩ (.int .i64 ((rd_T86 l1 x9_1).f0))).setCell ⟨gb198, 1, none⟩ (.int .i64 ((rd_T86 l1 x9_1).f1))).setCell ⟨gb198, 2, none⟩ (.int .i64 ((rd_T86 l1 x9_1).f2))) = w47 at n0_ n1_ ⊢
    have BK198 := n0_
    have HB := n1_
    clear n0_ n1_
    replace BK198 := bd_ BK198
    replace HB := Aside0.mk (below_drew1 HB.out)
    refine start_ (n := 41) (S := fun w' => w'.cell? ⟨gb198, 0, none⟩ = some (.int .i64 ((rd_T86 l1 x9_1).f0)) ∧ w'.cell? ⟨gb198, 1, none⟩ = some (.int .i64 ((rd_T86 l1 x9_1).f1)) ∧ w'.cell? ⟨gb198, 2, none⟩ = some (.int .i64 ((rd_T86 l1 x9_1).f2))) (ds := []) (bs 41 0) (by kernel_rfl) rfl rfl ⟨bc_ BK198 0, bc_ BK198 1, bc_ BK198 2⟩ (fun hHeld => ?_); refine with_tabW impl_GoodEdges.tab4 impl_GoodEdges.bits4 (fun HT_ HW_ => ?_)
    generalize w47.drew = w48 at BK198 HB hHeld ⊢
    refine pu_ 0 14 (bs 41 1) HT_ ?_
    refine pu_ 2 16 (bs 41 5) HT_ ?_
    refine pu_ 3 17 (bs 41 13) HT_ ?_
    refine tk_ 1 15 (bs 41 15) HT_ HW_ hHeld ?_
    refine on_ 4 (some 18) (bs 41 31) HT_ (fun K hK => ?_)
    refine goes_ Try.func96 (by kernel_rfl) rfl #[.int .i64 ((rd_T86 l1 x9_1).f0), .int .i64 0, .int .i64 (wrap64 (a0 - 1))] (by rfl) rfl rfl tm_ ?_
    with_reducible refine (impl_in.calls ((rd_T86 l1 x9_1).f0) 0 (wrap64 (a0 - 1)) false _ A6.out).mono ?_
    rintro e w' ⟨rfl, ⟨nd, rfl⟩⟩
    refine ⟨_, rfl, ?_⟩
    refine hK.out _ _ ⟨bc_ BK198 0, bc_ BK198 1, bc_ BK198 2⟩ (fun hHeld => ?_)
    clear hK K
    refine nm_ 18 ?_
    refine pu_ 5 19 (bs 41 63) HT_ ?_
    refine pu_ 6 20 (bs 41 127) HT_ ?_
    refine pn_ 7 21 (bs 41 255) HT_ ?_
    refine pn_ 8 22 (bs 41 511) HT_ ?_
    refine pn_ 9 23 (bs 41 1023) HT_ ?_
    refine pn_ 10 24 (bs 41 2047) HT_ ?_
    refine pn_ 11 25 (bs 41 4095) HT_ ?_
    refine pn_ 12 26 (bs 41 8191) HT_ ?_
    refine pu_ 13 27 (bs 41 16383) HT_ ?_
    refine pu_ 14 28 (bs 41 32767) HT_ ?_
    refine pn_ 15 29 (bs 41 65535) HT_ ?_
    refine pn_ 16 30 (bs 41 131071) HT_ ?_
    refine pn_ 17 31 (bs 41 262143) HT_ ?_
    refine pn_ 18 32 (bs 41 524287) HT_ ?_
    refine pn_ 19 33 (bs 41 1048575) HT_ ?_
    refine pu_ 20 34 (bs 41 2097151) HT_ ?_
    refine pu_ 21 35 (bs 41 4194303) HT_ ?_
    refine pn_ 22 36 (bs 41 8388607) HT_ ?_
    refine pn_ 23 37 (bs 41 16777215) HT_ ?_
    refine pn_ 24 38 (bs 41 33554431) HT_ ?_
    refine pn_ 25 39 (bs 41 67108863) HT_ ?_
    refine pu_ 26 40 (bs 41 134217727) HT_ ?_
    refine pu_ 27 41 (bs 41 268435455) HT_ ?_
    refine pn_ 28 42 (bs 41 536870911) HT_ ?_
    refine pn_ 29 43 (bs 41 1073741823) HT_ ?_
    refine pn_ 30 44 (bs 41 2147483647) HT_ ?_
    refine pn_ 31 45 (bs 41 4294967295) HT_ ?_
    refine pn_ 32 46 (bs 41 8589934591) HT_ ?_
    refine pn_ 33 47 (bs 41 17179869183) HT_ ?_
    refine pn_ 34 48 (bs 41 34359738367) HT_ ?_
    refine pn_ 35 49 (bs 41 68719476735) HT_ ?_
    refine pn_ 36 50 (bs 41 137438953471) HT_ ?_
    refine pn_ 37 51 (bs 41 274877906943) HT_ ?_
    refine pn_ 38 52 (bs 41 549755813887) HT_ ?_
    refine pn_ 39 53 (bs 41 1099511627775) HT_ ?_
    refine pu_ 40 54 (bs 41 2199023255551) HT_ ?_
    refine done_ (done_of HT_.out (by kernel_rfl)) ?_
    try go_wp2
    go_ret
    exact ⟨rt_, hB HB⟩
   subst c7
   rw [if_pos rfl] at H
   replace H := Option.bind_eq_some_iff.mp H
   obtain ⟨t200, A80, H⟩ := H
   replace H : (if t200 = true then (if ((rd_T86 l1 x9_1).f0) ≥ ((rd_T86 l1 x9_1).f1) then (some false) else ((impl_in.f ((rd_T86 l1 x9_1).f2) 1 100).bind fun t201 => (if t201 = true then (if x9_1 > 0 then (if 0 ≤ (wrap64 (x9_1 - 1)) then (if (wrap64 (x9_1 - 1)) < (l1.length : Int) then ((impl_byEnds.f ((rd_T86 l1 (wrap64 (x9_1 - 1))).f0) ((rd_T86 l1 (wrap64 (x9_1 - 1))).f1) ((rd_T86 l1 (wrap64 (x9_1 - 1))).f2) ((rd_T86 l1 x9_1).f0) ((rd_T86 l1 x9_1).f1) ((rd_T86 l1 x9_1).f2)).bind fun t203 => (if t203 ≥ 0 then (some false) else (impl_GoodEdges.l0 k1 a0 l1 l1 (l1.length : Int) (wrap64 (x9_1 + 1))))) else (none)) else (none)) else (impl_GoodEdges.l0 k1 a0 l1 l1 (l1.length : Int) (wrap64 (x9_1 + 1)))) else (some false)))) else (some false)) = some r := H
   have A8 := Aside0.mk A80
   clear A80
   by_cases c9 : t200 = true
   rotate_left
   ·replace c9 := Bool.eq_false_iff.mpr c9
    subst c9
    rw [if_neg (show ¬ (false = true) by decide)] at H
    obtain rfl := Option.some.inj H
    have p197 : 0 ≤ (x9_1 : Int) := od_
    have q197 : x9_1 < (l1.length : Int) := od_
    obtain ⟨ad197, e197, hx197_0, hx197_1, hx197_2⟩ := at_T86 HR1.out x9_1 p197 q197
    cases e197
    replace hx197_0 := hc_ HB hx197_0
    replace hx197_1 := hc_ HB hx197_1
    replace hx197_2 := hc_ HB hx197_2
    replace p197 := eq_true p197
    replace q197 := eq_true q197
    try go_wp2_with (first | ((with_reducible refine gate_dst (N := 6) rfl ?_); (try (refine gate_guard (by rfl) ?_; dsimp only)); refine box_event ?hg (N := 6) ?hd (cs := #[.int .i64 0, .int .i64 0, .int .i64 0]) (t := 86) ?hr ?_; (case hd => rfl); (case hg => rfl); (case hr => first | (go_simp; done) | (go_simp; rfl)); intro gb198 hg w41 hbox hb; have BK198 := Aside0.mk (hbox); have GW198 := gw_ hg HB; have GE198 := gw_ hg HB; replace HB := bst_ HB hb; clear hb hbox hg; obtain ⟨hcz42_0, hcz42_1, hcz42_2⟩ := bcs3_ BK198; have hfz42_0 := blk_frozen BK198.out 0; have hfz42_1 := blk_frozen BK198.out 1; have hfz42_2 := blk_frozen BK198.out 2))
    have n0_ : Aside0 ((((w41.setCell ⟨gb198, 0, none⟩ (.int .i64 ((rd_T86 l1 x9_1).f0))).setCell ⟨gb198, 1, none⟩ (.int .i64 ((rd_T86 l1 x9_1).f1))).setCell ⟨gb198, 2, none⟩ (.int .i64 ((rd_T86 l1 x9_1).f2))).heap[gb198]? = some (.cells #[.int .i64 ((rd_T86 l1 x9_1).f0), .int .i64 ((rd_T86 l1 x9_1).f1), .int .i64 ((rd_T86 l1 x9_1).f2)] 86 (0, 0))) := ⟨by (with_reducible repeat (first | refine blk_drewN ?_ _ | refine blk_drew ?_ | refine blk_alloc ?_ _)); refine blk_put (cs := #[.int .i64 ((rd_T86 l1 x9_1).f0), .int .i64 ((rd_T86 l1 x9_1).f1), .int .i64 0]) ?_ 2 _ rfl; (with_reducible repeat (first | refine blk_drewN ?_ _ | refine blk_drew ?_ | refine blk_alloc ?_ _)); refine blk_put (cs := #[.int .i64 ((rd_T86 l1 x9_1).f0), .int .i64 0, .int .i64 0]) ?_ 1 _ rfl; (with_reducible repeat (first | refine blk_drewN ?_ _ | refine blk_drew ?_ | refine blk_alloc ?_ _)); refine blk_put (cs := #[.int .i64 0, .int .i64 0, .int .i64 0]) ?_ 0 _ rfl; (with_reducible repeat (first | refine blk_drewN ?_ _ | refine blk_drew ?_ | refine blk_alloc ?_ _)); exact BK198.out⟩
    have n1_ : Aside0 (Below w.heap.size w (((w41.setCell ⟨gb198, 0, none⟩ (.int .i64 ((rd_T86 l1 x9_1).f0))).setCell ⟨gb198, 1, none⟩ (.int .i64 ((rd_T86 l1 x9_1).f1))).setCell ⟨gb198, 2, none⟩ (.int .i64 ((rd_T86 l1 x9_1).f2)))) := ⟨hB HB⟩
    (try clear BK198)
    (try clear HB)
    generalize (((w41.setCell ⟨gb198, 0, none⟩ (.int .i64 ((rd_T86 l1 x9_1).f0))).setCell ⟨gb198, 1, none⟩ (.int .i64 ((rd_T86 l1 x9_1).f1))).setCell ⟨gb198, 2, none⟩ (.int .i64 ((rd_T86 l1 x9_1).f2))) = w43 at n0_ n1_ ⊢
    have BK198 := n0_
    have HB := n1_
    clear n0_ n1_
    replace BK198 := bd_ BK198
    replace HB := Aside0.mk (below_drew1 HB.out)
    refine start_ (n := 41) (S := fun w' => w'.cell? ⟨gb198, 0, none⟩ = some (.int .i64 ((rd_T86 l1 x9_1).f0)) ∧ w'.cell? ⟨gb198, 1, none⟩ = some (.int .i64 ((rd_T86 l1 x9_1).f1)) ∧ w'.cell? ⟨gb198, 2, none⟩ = some (.int .i64 ((rd_T86 l1 x9_1).f2))) (ds := []) (bs 41 0) (by kernel_rfl) rfl rfl ⟨bc_ BK198 0, bc_ BK198 1, bc_ BK198 2⟩ (fun hHeld => ?_); refine with_tabW impl_GoodEdges.tab4 impl_GoodEdges.bits4 (fun HT_ HW_ => ?_)
    generalize w43.drew = w44 at BK198 HB hHeld ⊢
    refine pu_ 0 14 (bs 41 1) HT_ ?_
    refine pu_ 2 16 (bs 41 5) HT_ ?_
    refine pu_ 3 17 (bs 41 13) HT_ ?_
    refine tk_ 1 15 (bs 41 15) HT_ HW_ hHeld ?_
    refine on_ 4 (some 18) (bs 41 31) HT_ (fun K hK => ?_)
    refine goes_ Try.func96 (by kernel_rfl) rfl #[.int .i64 ((rd_T86 l1 x9_1).f0), .int .i64 0, .int .i64 (wrap64 (a0 - 1))] (by rfl) rfl rfl tm_ ?_
    with_reducible refine (impl_in.calls ((rd_T86 l1 x9_1).f0) 0 (wrap64 (a0 - 1)) true _ A6.out).mono ?_
    rintro e w' ⟨rfl, ⟨nd, rfl⟩⟩
    refine ⟨_, rfl, ?_⟩
    refine hK.out _ _ ⟨bc_ BK198 0, bc_ BK198 1, bc_ BK198 2⟩ (fun hHeld => ?_)
    clear hK K
    refine nm_ 18 ?_
    refine pu_ 5 19 (bs 41 63) HT_ ?_
    refine pu_ 6 20 (bs 41 127) HT_ ?_
    refine pu_ 7 21 (bs 41 255) HT_ ?_
    refine pu_ 9 23 (bs 41 767) HT_ ?_
    refine pu_ 10 24 (bs 41 1791) HT_ ?_
    refine tk_ 8 22 (bs 41 2047) HT_ HW_ hHeld ?_
    refine on_ 11 (some 25) (bs 41 4095) HT_ (fun K hK => ?_)
    refine goes_ Try.func96 (by kernel_rfl) rfl #[.int .i64 ((rd_T86 l1 x9_1).f1), .int .i64 0, .int .i64 (wrap64 (a0 - 1))] (by rfl) rfl rfl tm_ ?_
    with_reducible refine (impl_in.calls ((rd_T86 l1 x9_1).f1) 0 (wrap64 (a0 - 1)) false _ A8.out).mono ?_
    rintro e w' ⟨rfl, ⟨nd, rfl⟩⟩
    refine ⟨_, rfl, ?_⟩
    refine hK.out _ _ ⟨bc_ BK198 0, bc_ BK198 1, bc_ BK198 2⟩ (fun hHeld => ?_)
    clear hK K
    refine nm_ 25 ?_
    refine pu_ 12 26 (bs 41 8191) HT_ ?_
    refine pu_ 13 27 (bs 41 16383) HT_ ?_
    refine pu_ 14 28 (bs 41 32767) HT_ ?_
    refine pn_ 15 29 (bs 41 65535) HT_ ?_
    refine pn_ 16 30 (bs 41 131071) HT_ ?_
    refine pn_ 17 31 (bs 41 262143) HT_ ?_
    refine pn_ 18 32 (bs 41 524287) HT_ ?_
    refine pn_ 19 33 (bs 41 1048575) HT_ ?_
    refine pu_ 20 34 (bs 41 2097151) HT_ ?_
    refine pu_ 21 35 (bs 41 4194303) HT_ ?_
    refine pn_ 22 36 (bs 41 8388607) HT_ ?_
    refine pn_ 23 37 (bs 41 16777215) HT_ ?_
    refine pn_ 24 38 (bs 41 33554431) HT_ ?_
    refine pn_ 25 39 (bs 41 67108863) HT_ ?_
    refine pu_ 26 40 (bs 41 134217727) HT_ ?_
    refine pu_ 27 41 (bs 41 268435455) HT_ ?_
    refine pn_ 28 42 (bs 41 536870911) HT_ ?_
    refine pn_ 29 43 (bs 41 1073741823) HT_ ?_
    refine pn_ 30 44 (bs 41 2147483647) HT_ ?_
    refine pn_ 31 45 (bs 41 4294967295) HT_ ?_
    refine pn_ 32 46 (bs 41 8589934591) HT_ ?_
    refine pn_ 33 47 (bs 41 17179869183) HT_ ?_
    refine pn_ 34 48 (bs 41 34359738367) HT_ ?_
    refine pn_ 35 49 (bs 41 68719476735) HT_ ?_
    refine pn_ 36 50 (bs 41 137438953471) HT_ ?_
    refine pn_ 37 51 (bs 41 274877906943) HT_ ?_
    refine pn_ 38 52 (bs 41 549755813887) HT_ ?_
    refine pn_ 39 53 (bs 41 1099511627775) HT_ ?_
    refine pu_ 40 54 (bs 41 2199023255551) HT_ ?_
    refine done_ (done_of HT_.out (by kernel_rfl)) ?_
    try go_wp2
    go_ret
    exact ⟨rt_, hB HB⟩
   subst c9
   rw [if_pos rfl] at H
   by_cases c10 : ((rd_T86 l1 x9_1).f0) ≥ ((rd_T86 l1 x9_1).f1)
   ·rw [if_pos c10] at H
    have c10b0 : decide (((rd_T86 l1 x9_1).f1) ≤ ((rd_T86 l1 x9_1).f0)) = true := decide_eq_true c10
    clear c10
    obtain rfl := Option.some.inj H
    have p197 : 0 ≤ (x9_1 : Int) := od_
    have q197 : x9_1 < (l1.length : Int) := od_
    obtain ⟨ad197, e197, hx197_0, hx197_1, hx197_2⟩ := at_T86 HR1.out x9_1 p197 q197
    cases e197
    replace hx197_0 := hc_ HB hx197_0
    replace hx197_1 := hc_ HB hx197_1
    replace hx197_2 := hc_ HB hx197_2
    replace p197 := eq_true p197
    replace q197 := eq_true q197
    try go_wp2_with (first | ((with_reducible refine gate_dst (N := 6) rfl ?_); (try (refine gate_guard (by rfl) ?_; dsimp only)); refine box_event ?hg (N := 6) ?hd (cs := #[.int .i64 0, .int .i64 0, .int .i64 0]) (t := 86) ?hr ?_; (case hd => rfl); (case hg => rfl); (case hr => first | (go_simp; done) | (go_simp; rfl)); intro gb198 hg w11 hbox hb; have BK198 := Aside0.mk (hbox); have GW198 := gw_ hg HB; have GE198 := gw_ hg HB; replace HB := bst_ HB hb; clear hb hbox hg; obtain ⟨hcz12_0, hcz12_1, hcz12_2⟩ := bcs3_ BK198; have hfz12_0 := blk_frozen BK198.out 0; have hfz12_1 := blk_frozen BK198.out 1; have hfz12_2 := blk_frozen BK198.out 2))
    have n0_ : Aside0 ((((w11.setCell ⟨gb198, 0, none⟩ (.int .i64 ((rd_T86 l1 x9_1).f0))).setCell ⟨gb198, 1, none⟩ (.int .i64 ((rd_T86 l1 x9_1).f1))).setCell ⟨gb198, 2, none⟩ (.int .i64 ((rd_T86 l1 x9_1).f2))).heap[gb198]? = some (.cells #[.int .i64 ((rd_T86 l1 x9_1).f0), .int .i64 ((rd_T86 l1 x9_1).f1), .int .i64 ((rd_T86 l1 x9_1).f2)] 86 (0, 0))) := ⟨by (with_reducible repeat (first | refine blk_drewN ?_ _ | refine blk_drew ?_ | refine blk_alloc ?_ _)); refine blk_put (cs := #[.int .i64 ((rd_T86 l1 x9_1).f0), .int .i64 ((rd_T86 l1 x9_1).f1), .int .i64 0]) ?_ 2 _ rfl; (with_reducible repeat (first | refine blk_drewN ?_ _ | refine blk_drew ?_ | refine blk_alloc ?_ _)); refine blk_put (cs := #[.int .i64 ((rd_T86 l1 x9_1).f0), .int .i64 0, .int .i64 0]) ?_ 1 _ rfl; (with_reducible repeat (first | refine blk_drewN ?_ _ | refine blk_drew ?_ | refine blk_alloc ?_ _)); refine blk_put (cs := #[.int .i64 0, .int .i64 0, .int .i64 0]) ?_ 0 _ rfl; (with_reducible repeat (first | refine blk_drewN ?_ _ | refine blk_drew ?_ | refine blk_alloc ?_ _)); exact BK198.out⟩
    have n1_ : Aside0 (Below w.heap.size w (((w11.setCell ⟨gb198, 0, none⟩ (.int .i64 ((rd_T86 l1 x9_1).f0))).setCell ⟨gb198, 1, none⟩ (.int .i64 ((rd_T86 l1 x9_1).f1))).setCell ⟨gb198, 2, none⟩ (.int .i64 ((rd_T86 l1 x9_1).f2)))) := ⟨hB HB⟩
    (try clear BK198)
    (try clear HB)
    generalize (((w11.setCell ⟨gb198, 0, none⟩ (.int .i64 ((rd_T86 l1 x9_1).f0))).setCell ⟨gb198, 1, none⟩ (.int .i64 ((rd_T86 l1 x9_1).f1))).setCell ⟨gb198, 2, none⟩ (.int .i64 ((rd_T86 l1 x9_1).f2))) = w13 at n0_ n1_ ⊢
    have BK198 := n0_
    have HB := n1_
    clear n0_ n1_
    replace BK198 := bd_ BK198
    replace HB := Aside0.mk (below_drew1 HB.out)
    refine start_ (n := 41) (S := fun w' => w'.cell? ⟨gb198, 0, none⟩ = some (.int .i64 ((rd_T86 l1 x9_1).f0)) ∧ w'.cell? ⟨gb198, 1, none⟩ = some (.int .i64 ((rd_T86 l1 x9_1).f1)) ∧ w'.cell? ⟨gb198, 2, none⟩ = some (.int .i64 ((rd_T86 l1 x9_1).f2))) (ds := []) (bs 41 0) (by kernel_rfl) rfl rfl ⟨bc_ BK198 0, bc_ BK198 1, bc_ BK198 2⟩ (fun hHeld => ?_); refine with_tabW impl_GoodEdges.tab4 impl_GoodEdges.bits4 (fun HT_ HW_ => ?_)
    generalize w13.drew = w14 at BK198 HB hHeld ⊢
    refine pu_ 0 14 (bs 41 1) HT_ ?_
    refine pu_ 2 16 (bs 41 5) HT_ ?_
    refine pu_ 3 17 (bs 41 13) HT_ ?_
    refine tk_ 1 15 (bs 41 15) HT_ HW_ hHeld ?_
    refine on_ 4 (some 18) (bs 41 31) HT_ (fun K hK => ?_)
    refine goes_ Try.func96 (by kernel_rfl) rfl #[.int .i64 ((rd_T86 l1 x9_1).f0), .int .i64 0, .int .i64 (wrap64 (a0 - 1))] (by rfl) rfl rfl tm_ ?_
    with_reducible refine (impl_in.calls ((rd_T86 l1 x9_1).f0) 0 (wrap64 (a0 - 1)) true _ A6.out).mono ?_
    rintro e w' ⟨rfl, ⟨nd, rfl⟩⟩
    refine ⟨_, rfl, ?_⟩
    refine hK.out _ _ ⟨bc_ BK198 0, bc_ BK198 1, bc_ BK198 2⟩ (fun hHeld => ?_)
    clear hK K
    refine nm_ 18 ?_
    refine pu_ 5 19 (bs 41 63) HT_ ?_
    refine pu_ 6 20 (bs 41 127) HT_ ?_
    refine pu_ 7 21 (bs 41 255) HT_ ?_
    refine pu_ 9 23 (bs 41 767) HT_ ?_
    refine pu_ 10 24 (bs 41 1791) HT_ ?_
    refine tk_ 8 22 (bs 41 2047) HT_ HW_ hHeld ?_
    refine on_ 11 (some 25) (bs 41 4095) HT_ (fun K hK => ?_)
    refine goes_ Try.func96 (by kernel_rfl) rfl #[.int .i64 ((rd_T86 l1 x9_1).f1), .int .i64 0, .int .i64 (wrap64 (a0 - 1))] (by rfl) rfl rfl tm_ ?_
    with_reducible refine (impl_in.calls ((rd_T86 l1 x9_1).f1) 0 (wrap64 (a0 - 1)) true _ A8.out).mono ?_
    rintro e w' ⟨rfl, ⟨nd, rfl⟩⟩
    refine ⟨_, rfl, ?_⟩
    refine hK.out _ _ ⟨bc_ BK198 0, bc_ BK198 1, bc_ BK198 2⟩ (fun hHeld => ?_)
    clear hK K
    refine nm_ 25 ?_
    refine pu_ 12 26 (bs 41 8191) HT_ ?_
    refine pu_ 13 27 (bs 41 16383) HT_ ?_
    refine pu_ 14 28 (bs 41 32767) HT_ ?_
    refine pu_ 15 29 (bs 41 65535) HT_ ?_
    refine pu_ 17 31 (bs 41 196607) HT_ ?_
    refine tk_ 16 30 (bs 41 262143) HT_ HW_ hHeld ?_
    refine tk_ 18 32 (bs 41 524287) HT_ HW_ hHeld ?_
    refine pu_ 19 33 (bs 41 1048575) HT_ ?_
    refine pu_ 20 34 (bs 41 2097151) HT_ ?_
    refine pu_ 21 35 (bs 41 4194303) HT_ ?_
    refine pn_ 22 36 (bs 41 8388607) HT_ ?_
    refine pn_ 23 37 (bs 41 16777215) HT_ ?_
    refine pn_ 24 38 (bs 41 33554431) HT_ ?_
    refine pn_ 25 39 (bs 41 67108863) HT_ ?_
    refine pu_ 26 40 (bs 41 134217727) HT_ ?_
    refine pu_ 27 41 (bs 41 268435455) HT_ ?_
    refine pn_ 28 42 (bs 41 536870911) HT_ ?_
    refine pn_ 29 43 (bs 41 1073741823) HT_ ?_
    refine pn_ 30 44 (bs 41 2147483647) HT_ ?_
    refine pn_ 31 45 (bs 41 4294967295) HT_ ?_
    refine pn_ 32 46 (bs 41 8589934591) HT_ ?_
    refine pn_ 33 47 (bs 41 17179869183) HT_ ?_
    refine pn_ 34 48 (bs 41 34359738367) HT_ ?_
    refine pn_ 35 49 (bs 41 68719476735) HT_ ?_
    refine pn_ 36 50 (bs 41 137438953471) HT_ ?_
    refine pn_ 37 51 (bs 41 274877906943) HT_ ?_
    refine pn_ 38 52 (bs 41 549755813887) HT_ ?_
    refine pn_ 39 53 (bs 41 1099511627775) HT_ ?_
    refine pu_ 40 54 (bs 41 2199023255551) HT_ ?_
    refine done_ (done_of HT_.out (by kernel_rfl)) ?_
    try go_wp2
    go_ret
    exact ⟨rt_, hB HB⟩
   rw [if_neg c10] at H
   have c10b0 : decide (((rd_T86 l1 x9_1).f1) ≤ ((rd_T86 l1 x9_1).f0)) = false := decide_eq_false c10
   clear c10
   replace H := Option.bind_eq_some_iff.mp H
   obtain ⟨t201, A150, H⟩ := H
   replace H : (if t201 = true then (if x9_1 > 0 then (if 0 ≤ (wrap64 (x9_1 - 1)) then (if (wrap64 (x9_1 - 1)) < (l1.length : Int) then ((impl_byEnds.f ((rd_T86 l1 (wrap64 (x9_1 - 1))).f0) ((rd_T86 l1 (wrap64 (x9_1 - 1))).f1) ((rd_T86 l1 (wrap64 (x9_1 - 1))).f2) ((rd_T86 l1 x9_1).f0) ((rd_T86 l1 x9_1).f1) ((rd_T86 l1 x9_1).f2)).bind fun t203 => (if t203 ≥ 0 then (some false) else (impl_GoodEdges.l0 k1 a0 l1 l1 (l1.length : Int) (wrap64 (x9_1 + 1))))) else (none)) else (none)) else (impl_GoodEdges.l0 k1 a0 l1 l1 (l1.length : Int) (wrap64 (x9_1 + 1)))) else (some false)) = some r := H
   have A15 := Aside0.mk A150
   clear A150
   by_cases c16 : t201 = true
   rotate_left
   ·replace c16 := Bool.eq_false_iff.mpr c16
    subst c16
    rw [if_neg (show ¬ (false = true) by decide)] at H
    obtain rfl := Option.some.inj H
    have p197 : 0 ≤ (x9_1 : Int) := od_
    have q197 : x9_1 < (l1.length : Int) := od_
    obtain ⟨ad197, e197, hx197_0, hx197_1, hx197_2⟩ := at_T86 HR1.out x9_1 p197 q197
    cases e197
    replace hx197_0 := hc_ HB hx197_0
    replace hx197_1 := hc_ HB hx197_1
    replace hx197_2 := hc_ HB hx197_2
    replace p197 := eq_true p197
    replace q197 := eq_true q197
    try go_wp2_with (first | ((with_reducible refine gate_dst (N := 6) rfl ?_); (try (refine gate_guard (by rfl) ?_; dsimp only)); refine box_event ?hg (N := 6) ?hd (cs := #[.int .i64 0, .int .i64 0, .int .i64 0]) (t := 86) ?hr ?_; (case hd => rfl); (case hg => rfl); (case hr => first | (go_simp; done) | (go_simp; rfl)); intro gb198 hg w37 hbox hb; have BK198 := Aside0.mk (hbox); have GW198 := gw_ hg HB; have GE198 := gw_ hg HB; replace HB := bst_ HB hb; clear hb hbox hg; obtain ⟨hcz38_0, hcz38_1, hcz38_2⟩ := bcs3_ BK198; have hfz38_0 := blk_frozen BK198.out 0; have hfz38_1 := blk_frozen BK198.out 1; have hfz38_2 := blk_frozen BK198.out 2))
    have n0_ : Aside0 ((((w37.setCell ⟨gb198, 0, none⟩ (.int .i64 ((rd_T86 l1 x9_1).f0))).setCell ⟨gb198, 1, none⟩ (.int .i64 ((rd_T86 l1 x9_1).f1))).setCell ⟨gb198, 2, none⟩ (.int .i64 ((rd_T86 l1 x9_1).f2))).heap[gb198]? = some (.cells #[.int .i64 ((rd_T86 l1 x9_1).f0), .int .i64 ((rd_T86 l1 x9_1).f1), .int .i64 ((rd_T86 l1 x9_1).f2)] 86 (0, 0))) := ⟨by (with_reducible repeat (first | refine blk_drewN ?_ _ | refine blk_drew ?_ | refine blk_alloc ?_ _)); refine blk_put (cs := #[.int .i64 ((rd_T86 l1 x9_1).f0), .int .i64 ((rd_T86 l1 x9_1).f1), .int .i64 0]) ?_ 2 _ rfl; (with_reducible repeat (first | refine blk_drewN ?_ _ | refine blk_drew ?_ | refine blk_alloc ?_ _)); refine blk_put (cs := #[.int .i64 ((rd_T86 l1 x9_1).f0), .int .i64 0, .int .i64 0]) ?_ 1 _ rfl; (with_reducible repeat (first | refine blk_drewN ?_ _ | refine blk_drew ?_ | refine blk_alloc ?_ _)); refine blk_put (cs := #[.int .i64 0, .int .i64 0, .int .i64 0]) ?_ 0 _ rfl; (with_reducible repeat (first | refine blk_drewN ?_ _ | refine blk_drew ?_ | refine blk_alloc ?_ _)); exact BK198.out⟩
    have n1_ : Aside0 (Below w.heap.size w (((w37.setCell ⟨gb198, 0, none⟩ (.int .i64 ((rd_T86 l1 x9_1).f0))).setCell ⟨gb198, 1, none⟩ (.int .i64 ((rd_T86 l1 x9_1).f1))).setCell ⟨gb198, 2, none⟩ (.int .i64 ((rd_T86 l1 x9_1).f2)))) := ⟨hB HB⟩
    (try clear BK198)
    (try clear HB)
    generalize (((w37.setCell ⟨gb198, 0, none⟩ (.int .i64 ((rd_T86 l1 x9_1).f0))).setCell ⟨gb198, 1, none⟩ (.int .i64 ((rd_T86 l1 x9_1).f1))).setCell ⟨gb198, 2, none⟩ (.int .i64 ((rd_T86 l1 x9_1).f2))) = w39 at n0_ n1_ ⊢
    have BK198 := n0_
    have HB := n1_
    clear n0_ n1_
    replace BK198 := bd_ BK198
    replace HB := Aside0.mk (below_drew1 HB.out)
    refine start_ (n := 41) (S := fun w' => w'.cell? ⟨gb198, 0, none⟩ = some (.int .i64 ((rd_T86 l1 x9_1).f0)) ∧ w'.cell? ⟨gb198, 1, none⟩ = some (.int .i64 ((rd_T86 l1 x9_1).f1)) ∧ w'.cell? ⟨gb198, 2, none⟩ = some (.int .i64 ((rd_T86 l1 x9_1).f2))) (ds := []) (bs 41 0) (by kernel_rfl) rfl rfl ⟨bc_ BK198 0, bc_ BK198 1, bc_ BK198 2⟩ (fun hHeld => ?_); refine with_tabW impl_GoodEdges.tab4 impl_GoodEdges.bits4 (fun HT_ HW_ => ?_)
    generalize w39.drew = w40 at BK198 HB hHeld ⊢
    refine pu_ 0 14 (bs 41 1) HT_ ?_
    refine pu_ 2 16 (bs 41 5) HT_ ?_
    refine pu_ 3 17 (bs 41 13) HT_ ?_
    refine tk_ 1 15 (bs 41 15) HT_ HW_ hHeld ?_
    refine on_ 4 (some 18) (bs 41 31) HT_ (fun K hK => ?_)
    refine goes_ Try.func96 (by kernel_rfl) rfl #[.int .i64 ((rd_T86 l1 x9_1).f0), .int .i64 0, .int .i64 (wrap64 (a0 - 1))] (by rfl) rfl rfl tm_ ?_
    with_reducible refine (impl_in.calls ((rd_T86 l1 x9_1).f0) 0 (wrap64 (a0 - 1)) true _ A6.out).mono ?_
    rintro e w' ⟨rfl, ⟨nd, rfl⟩⟩
    refine ⟨_, rfl, ?_⟩
    refine hK.out _ _ ⟨bc_ BK198 0, bc_ BK198 1, bc_ BK198 2⟩ (fun hHeld => ?_)
    clear hK K
    refine nm_ 18 ?_
    refine pu_ 5 19 (bs 41 63) HT_ ?_
    refine pu_ 6 20 (bs 41 127) HT_ ?_
    refine pu_ 7 21 (bs 41 255) HT_ ?_
    refine pu_ 9 23 (bs 41 767) HT_ ?_
    refine pu_ 10 24 (bs 41 1791) HT_ ?_
    refine tk_ 8 22 (bs 41 2047) HT_ HW_ hHeld ?_
    refine on_ 11 (some 25) (bs 41 4095) HT_ (fun K hK => ?_)
    refine goes_ Try.func96 (by kernel_rfl) rfl #[.int .i64 ((rd_T86 l1 x9_1).f1), .int .i64 0, .int .i64 (wrap64 (a0 - 1))] (by rfl) rfl rfl tm_ ?_
    with_reducible refine (impl_in.calls ((rd_T86 l1 x9_1).f1) 0 (wrap64 (a0 - 1)) true _ A8.out).mono ?_
    rintro e w' ⟨rfl, ⟨nd, rfl⟩⟩
    refine ⟨_, rfl, ?_⟩
    refine hK.out _ _ ⟨bc_ BK198 0, bc_ BK198 1, bc_ BK198 2⟩ (fun hHeld => ?_)
    clear hK K
    refine nm_ 25 ?_
    refine pu_ 12 26 (bs 41 8191) HT_ ?_
    refine pu_ 13 27 (bs 41 16383) HT_ ?_
    refine pu_ 14 28 (bs 41 32767) HT_ ?_
    refine pu_ 15 29 (bs 41 65535) HT_ ?_
    refine pu_ 17 31 (bs 41 196607) HT_ ?_
    refine tk_ 16 30 (bs 41 262143) HT_ HW_ hHeld ?_
    refine tk_ 18 32 (bs 41 524287) HT_ HW_ hHeld ?_
    refine pu_ 19 33 (bs 41 1048575) HT_ ?_
    refine pu_ 20 34 (bs 41 2097151) HT_ ?_
    refine pu_ 21 35 (bs 41 4194303) HT_ ?_
    refine pu_ 22 36 (bs 41 8388607) HT_ ?_
    refine tk_ 23 37 (bs 41 16777215) HT_ HW_ hHeld ?_
    refine on_ 24 (some 38) (bs 41 33554431) HT_ (fun K hK => ?_)
    refine goes_ Try.func96 (by kernel_rfl) rfl #[.int .i64 ((rd_T86 l1 x9_1).f2), .int .i64 1, .int .i64 100] (by rfl) rfl rfl tm_ ?_
    with_reducible refine (impl_in.calls ((rd_T86 l1 x9_1).f2) 1 100 false _ A15.out).mono ?_
    rintro e w' ⟨rfl, ⟨nd, rfl⟩⟩
    refine ⟨_, rfl, ?_⟩
    refine hK.out _ _ ⟨bc_ BK198 0, bc_ BK198 1, bc_ BK198 2⟩ (fun hHeld => ?_)
    clear hK K
    refine nm_ 38 ?_
    refine pu_ 25 39 (bs 41 67108863) HT_ ?_
    refine pu_ 26 40 (bs 41 134217727) HT_ ?_
    refine pu_ 27 41 (bs 41 268435455) HT_ ?_
    refine pn_ 28 42 (bs 41 536870911) HT_ ?_
    refine pn_ 29 43 (bs 41 1073741823) HT_ ?_
    refine pn_ 30 44 (bs 41 2147483647) HT_ ?_
    refine pn_ 31 45 (bs 41 4294967295) HT_ ?_
    refine pn_ 32 46 (bs 41 8589934591) HT_ ?_
    refine pn_ 33 47 (bs 41 17179869183) HT_ ?_
    refine pn_ 34 48 (bs 41 34359738367) HT_ ?_
    refine pn_ 35 49 (bs 41 68719476735) HT_ ?_
    refine pn_ 36 50 (bs 41 137438953471) HT_ ?_
    refine pn_ 37 51 (bs 41 274877906943) HT_ ?_
    refine pn_ 38 52 (bs 41 549755813887) HT_ ?_
    refine pn_ 39 53 (bs 41 1099511627775) HT_ ?_
    refine pu_ 40 54 (bs 41 2199023255551) HT_ ?_
    refine done_ (done_of HT_.out (by kernel_rfl)) ?_
    try go_wp2
    go_ret
    exact ⟨rt_, hB HB⟩
   subst c16
   rw [if_pos rfl] at H
   by_cases c17 : x9_1 > 0
   rotate_left
   ·rw [if_neg c17] at H
    have c17b0 : decide (0 < x9_1) = false := decide_eq_false c17
    clear c17
    have H' := Aside0.mk H
    clear H
    have p197 : 0 ≤ (x9_1 : Int) := od_
    have q197 : x9_1 < (l1.length : Int) := od_
    obtain ⟨ad197, e197, hx197_0, hx197_1, hx197_2⟩ := at_T86 HR1.out x9_1 p197 q197
    cases e197
    replace hx197_0 := hc_ HB hx197_0
    replace hx197_1 := hc_ HB hx197_1
    replace hx197_2 := hc_ HB hx197_2
    replace p197 := eq_true p197
    replace q197 := eq_true q197
    try go_wp2_with (first | ((with_reducible refine gate_dst (N := 6) rfl ?_); (try (refine gate_guard (by rfl) ?_; dsimp only)); refine box_event ?hg (N := 6) ?hd (cs := #[.int .i64 0, .int .i64 0, .int .i64 0]) (t := 86) ?hr ?_; (case hd => rfl); (case hg => rfl); (case hr => first | (go_simp; done) | (go_simp; rfl)); intro gb198 hg w33 hbox hb; have BK198 := Aside0.mk (hbox); have GW198 := gw_ hg HB; have GE198 := gw_ hg HB; replace HB := bst_ HB hb; clear hb hbox hg; obtain ⟨hcz34_0, hcz34_1, hcz34_2⟩ := bcs3_ BK198; have hfz34_0 := blk_frozen BK198.out 0; have hfz34_1 := blk_frozen BK198.out 1; have hfz34_2 := blk_frozen BK198.out 2))
    have n0_ : Aside0 ((((w33.setCell ⟨gb198, 0, none⟩ (.int .i64 ((rd_T86 l1 x9_1).f0))).setCell ⟨gb198, 1, none⟩ (.int .i64 ((rd_T86 l1 x9_1).f1))).setCell ⟨gb198, 2, none⟩ (.int .i64 ((rd_T86 l1 x9_1).f2))).heap[gb198]? = some (.cells #[.int .i64 ((rd_T86 l1 x9_1).f0), .int .i64 ((rd_T86 l1 x9_1).f1), .int .i64 ((rd_T86 l1 x9_1).f2)] 86 (0, 0))) := ⟨by (with_reducible repeat (first | refine blk_drewN ?_ _ | refine blk_drew ?_ | refine blk_alloc ?_ _)); refine blk_put (cs := #[.int .i64 ((rd_T86 l1 x9_1).f0), .int .i64 ((rd_T86 l1 x9_1).f1), .int .i64 0]) ?_ 2 _ rfl; (with_reducible repeat (first | refine blk_drewN ?_ _ | refine blk_drew ?_ | refine blk_alloc ?_ _)); refine blk_put (cs := #[.int .i64 ((rd_T86 l1 x9_1).f0), .int .i64 0, .int .i64 0]) ?_ 1 _ rfl; (with_reducible repeat (first | refine blk_drewN ?_ _ | refine blk_drew ?_ | refine blk_alloc ?_ _)); refine blk_put (cs := #[.int .i64 0, .int .i64 0, .int .i64 0]) ?_ 0 _ rfl; (with_reducible repeat (first | refine blk_drewN ?_ _ | refine blk_drew ?_ | refine blk_alloc ?_ _)); exact BK198.out⟩
    have n1_ : Aside0 (Below w.heap.size w (((w33.setCell ⟨gb198, 0, none⟩ (.int .i64 ((rd_T86 l1 x9_1).f0))).setCell ⟨gb198, 1, none⟩ (.int .i64 ((rd_T86 l1 x9_1).f1))).setCell ⟨gb198, 2, none⟩ (.int .i64 ((rd_T86 l1 x9_1).f2)))) := ⟨hB HB⟩
    (try clear BK198)
    (try clear HB)
    generalize (((w33.setCell ⟨gb198, 0, none⟩ (.int .i64 ((rd_T86 l1 x9_1).f0))).setCell ⟨gb198, 1, none⟩ (.int .i64 ((rd_T86 l1 x9_1).f1))).setCell ⟨gb198, 2, none⟩ (.int .i64 ((rd_T86 l1 x9_1).f2))) = w35 at n0_ n1_ ⊢
    have BK198 := n0_
    have HB := n1_
    clear n0_ n1_
    replace BK198 := bd_ BK198
    replace HB := Aside0.mk (below_drew1 HB.out)
    refine start_ (n := 41) (S := fun w' => w'.cell? ⟨gb198, 0, none⟩ = some (.int .i64 ((rd_T86 l1 x9_1).f0)) ∧ w'.cell? ⟨gb198, 1, none⟩ = some (.int .i64 ((rd_T86 l1 x9_1).f1)) ∧ w'.cell? ⟨gb198, 2, none⟩ = some (.int .i64 ((rd_T86 l1 x9_1).f2))) (ds := []) (bs 41 0) (by kernel_rfl) rfl rfl ⟨bc_ BK198 0, bc_ BK198 1, bc_ BK198 2⟩ (fun hHeld => ?_); refine with_tabW impl_GoodEdges.tab4 impl_GoodEdges.bits4 (fun HT_ HW_ => ?_)
    generalize w35.drew = w36 at BK198 HB hHeld ⊢
    refine pu_ 0 14 (bs 41 1) HT_ ?_
    refine pu_ 2 16 (bs 41 5) HT_ ?_
    refine pu_ 3 17 (bs 41 13) HT_ ?_
    refine tk_ 1 15 (bs 41 15) HT_ HW_ hHeld ?_
    refine on_ 4 (some 18) (bs 41 31) HT_ (fun K hK => ?_)
    refine goes_ Try.func96 (by kernel_rfl) rfl #[.int .i64 ((rd_T86 l1 x9_1).f0), .int .i64 0, .int .i64 (wrap64 (a0 - 1))] (by rfl) rfl rfl tm_ ?_
    with_reducible refine (impl_in.calls ((rd_T86 l1 x9_1).f0) 0 (wrap64 (a0 - 1)) true _ A6.out).mono ?_
    rintro e w' ⟨rfl, ⟨nd, rfl⟩⟩
    refine ⟨_, rfl, ?_⟩
    refine hK.out _ _ ⟨bc_ BK198 0, bc_ BK198 1, bc_ BK198 2⟩ (fun hHeld => ?_)
    clear hK K
    refine nm_ 18 ?_
    refine pu_ 5 19 (bs 41 63) HT_ ?_
    refine pu_ 6 20 (bs 41 127) HT_ ?_
    refine pu_ 7 21 (bs 41 255) HT_ ?_
    refine pu_ 9 23 (bs 41 767) HT_ ?_
    refine pu_ 10 24 (bs 41 1791) HT_ ?_
    refine tk_ 8 22 (bs 41 2047) HT_ HW_ hHeld ?_
    refine on_ 11 (some 25) (bs 41 4095) HT_ (fun K hK => ?_)
    refine goes_ Try.func96 (by kernel_rfl) rfl #[.int .i64 ((rd_T86 l1 x9_1).f1), .int .i64 0, .int .i64 (wrap64 (a0 - 1))] (by rfl) rfl rfl tm_ ?_
    with_reducible refine (impl_in.calls ((rd_T86 l1 x9_1).f1) 0 (wrap64 (a0 - 1)) true _ A8.out).mono ?_
    rintro e w' ⟨rfl, ⟨nd, rfl⟩⟩
    refine ⟨_, rfl, ?_⟩
    refine hK.out _ _ ⟨bc_ BK198 0, bc_ BK198 1, bc_ BK198 2⟩ (fun hHeld => ?_)
    clear hK K
    refine nm_ 25 ?_
    refine pu_ 12 26 (bs 41 8191) HT_ ?_
    refine pu_ 13 27 (bs 41 16383) HT_ ?_
    refine pu_ 14 28 (bs 41 32767) HT_ ?_
    refine pu_ 15 29 (bs 41 65535) HT_ ?_
    refine pu_ 17 31 (bs 41 196607) HT_ ?_
    refine tk_ 16 30 (bs 41 262143) HT_ HW_ hHeld ?_
    refine tk_ 18 32 (bs 41 524287) HT_ HW_ hHeld ?_
    refine pu_ 19 33 (bs 41 1048575) HT_ ?_
    refine pu_ 20 34 (bs 41 2097151) HT_ ?_
    refine pu_ 21 35 (bs 41 4194303) HT_ ?_
    refine pu_ 22 36 (bs 41 8388607) HT_ ?_
    refine tk_ 23 37 (bs 41 16777215) HT_ HW_ hHeld ?_
    refine on_ 24 (some 38) (bs 41 33554431) HT_ (fun K hK => ?_)
    refine goes_ Try.func96 (by kernel_rfl) rfl #[.int .i64 ((rd_T86 l1 x9_1).f2), .int .i64 1, .int .i64 100] (by rfl) rfl rfl tm_ ?_
    with_reducible refine (impl_in.calls ((rd_T86 l1 x9_1).f2) 1 100 true _ A15.out).mono ?_
    rintro e w' ⟨rfl, ⟨nd, rfl⟩⟩
    refine ⟨_, rfl, ?_⟩
    refine hK.out _ _ ⟨bc_ BK198 0, bc_ BK198 1, bc_ BK198 2⟩ (fun hHeld => ?_)
    clear hK K
    refine nm_ 38 ?_
    refine pu_ 25 39 (bs 41 67108863) HT_ ?_
    refine pu_ 26 40 (bs 41 134217727) HT_ ?_
    refine pu_ 27 41 (bs 41 268435455) HT_ ?_
    refine pu_ 28 42 (bs 41 536870911) HT_ ?_
    refine pu_ 29 43 (bs 41 1073741823) HT_ ?_
    refine pu_ 30 44 (bs 41 2147483647) HT_ ?_
    refine pn_ 31 45 (bs 41 4294967295) HT_ ?_
    refine pn_ 32 46 (bs 41 8589934591) HT_ ?_
    refine pn_ 33 47 (bs 41 17179869183) HT_ ?_
    refine pn_ 34 48 (bs 41 34359738367) HT_ ?_
    refine pn_ 35 49 (bs 41 68719476735) HT_ ?_
    refine pn_ 36 50 (bs 41 137438953471) HT_ ?_
    refine pn_ 37 51 (bs 41 274877906943) HT_ ?_
    refine pn_ 38 52 (bs 41 549755813887) HT_ ?_
    refine pu_ 39 53 (bs 41 1099511627775) HT_ ?_
    refine pu_ 40 54 (bs 41 2199023255551) HT_ ?_
    refine done_ (done_of HT_.out (by kernel_rfl)) ?_
    try go_wp2
    go_roundg k1
    case measure => have := HK1.out; omega
    case rel => exact ⟨(wrap64 (x9_1 + 1)), (by first | rfl | (simp; done) | (simp [*]; done)), H', ⟨by have := HK1.out; omega⟩, ⟨hB HB⟩⟩
   rw [if_pos c17] at H
   have c17b0 : decide (0 < x9_1) = true := decide_eq_true c17
   clear c17
   obtain ⟨ji18, hji18⟩ : ∃ j_ : Int, (wrap64 (x9_1 - 1)) = j_ := ⟨_, rfl⟩
   replace H : (if 0 ≤ (ji18) then (if (ji18) < (l1.length : Int) then ((impl_byEnds.f ((rd_T86 l1 (ji18)).f0) ((rd_T86 l1 (ji18)).f1) ((rd_T86 l1 (ji18)).f2) ((rd_T86 l1 x9_1).f0) ((rd_T86 l1 x9_1).f1) ((rd_T86 l1 x9_1).f2)).bind fun t203 => (if t203 ≥ 0 then (some false) else (impl_GoodEdges.l0 k1 a0 l1 l1 (l1.length : Int) (wrap64 (x9_1 + 1))))) else (none)) else (none)) = some r := by first | (rw [hji18] at H; exact H) | (simp only [hji18] at H ⊢; exact H)
   (try rw [hji18] at A6)
   (try rw [hji18] at A8)
   (try rw [hji18] at A15)
   have hji18w : (IntKind.i64.wrap (x9_1 - 1)) = ji18 := (i64_w _).trans hji18
   by_cases c19 : 0 ≤ (ji18)
   rotate_left
   ·rw [if_neg c19] at H
    exact absurd H (by simp)
   rw [if_pos c19] at H
   have c19b0 : decide (0 ≤ (ji18)) = true := decide_eq_true c19
   clear c19
   by_cases c20 : (ji18) < (l1.length : Int)
   rotate_left
   ·rw [if_neg c20] at H
    exact absurd H (by simp)
   rw [if_pos c20] at H
   have c20b0 : decide ((ji18) < (l1.length : Int)) = true := decide_eq_true c20
   clear c20
   replace H := Option.bind_eq_some_iff.mp H
   obtain ⟨t203, A210, H⟩ := H
   replace H : (if t203 ≥ 0 then (some false) else (impl_GoodEdges.l0 k1 a0 l1 l1 (l1.length : Int) (wrap64 (x9_1 + 1)))) = some r := H
   have A21 := Aside0.mk A210
   clear A210
   by_cases c22 : t203 ≥ 0
   rotate_left
   ·rw [if_neg c22] at H
    have c22b0 : decide (0 ≤ t203) = false := decide_eq_false c22
    clear c22
    have H' := Aside0.mk H
    clear H
    have p197 : 0 ≤ (x9_1 : Int) := od_
    have q197 : x9_1 < (l1.length : Int) := od_
    obtain ⟨ad197, e197, hx197_0, hx197_1, hx197_2⟩ := at_T86 HR1.out x9_1 p197 q197
    cases e197
    replace hx197_0 := hc_ HB hx197_0
    replace hx197_1 := hc_ HB hx197_1
    replace hx197_2 := hc_ HB hx197_2
    replace p197 := eq_true p197
    replace q197 := eq_true q197
    try go_wp2_with (first | ((with_reducible refine gate_dst (N := 6) rfl ?_); (try (refine gate_guard (by rfl) ?_; dsimp only)); refine box_event ?hg (N := 6) ?hd (cs := #[.int .i64 0, .int .i64 0, .int .i64 0]) (t := 86) ?hr ?_; (case hd => rfl); (case hg => rfl); (case hr => first | (go_simp; done) | (go_simp; rfl)); intro gb198 hg w28 hbox hb; have BK198 := Aside0.mk (hbox); have GW198 := gw_ hg HB; have GE198 := gw_ hg HB; replace HB := bst_ HB hb; clear hb hbox hg; obtain ⟨hcz29_0, hcz29_1, hcz29_2⟩ := bcs3_ BK198; have hfz29_0 := blk_frozen BK198.out 0; have hfz29_1 := blk_frozen BK198.out 1; have hfz29_2 := blk_frozen BK198.out 2))
    have n0_ : Aside0 ((((w28.setCell ⟨gb198, 0, none⟩ (.int .i64 ((rd_T86 l1 x9_1).f0))).setCell ⟨gb198, 1, none⟩ (.int .i64 ((rd_T86 l1 x9_1).f1))).setCell ⟨gb198, 2, none⟩ (.int .i64 ((rd_T86 l1 x9_1).f2))).heap[gb198]? = some (.cells #[.int .i64 ((rd_T86 l1 x9_1).f0), .int .i64 ((rd_T86 l1 x9_1).f1), .int .i64 ((rd_T86 l1 x9_1).f2)] 86 (0, 0))) := ⟨by (with_reducible repeat (first | refine blk_drewN ?_ _ | refine blk_drew ?_ | refine blk_alloc ?_ _)); refine blk_put (cs := #[.int .i64 ((rd_T86 l1 x9_1).f0), .int .i64 ((rd_T86 l1 x9_1).f1), .int .i64 0]) ?_ 2 _ rfl; (with_reducible repeat (first | refine blk_drewN ?_ _ | refine blk_drew ?_ | refine blk_alloc ?_ _)); refine blk_put (cs := #[.int .i64 ((rd_T86 l1 x9_1).f0), .int .i64 0, .int .i64 0]) ?_ 1 _ rfl; (with_reducible repeat (first | refine blk_drewN ?_ _ | refine blk_drew ?_ | refine blk_alloc ?_ _)); refine blk_put (cs := #[.int .i64 0, .int .i64 0, .int .i64 0]) ?_ 0 _ rfl; (with_reducible repeat (first | refine blk_drewN ?_ _ | refine blk_drew ?_ | refine blk_alloc ?_ _)); exact BK198.out⟩
    have n1_ : Aside0 (Below w.heap.size w (((w28.setCell ⟨gb198, 0, none⟩ (.int .i64 ((rd_T86 l1 x9_1).f0))).setCell ⟨gb198, 1, none⟩ (.int .i64 ((rd_T86 l1 x9_1).f1))).setCell ⟨gb198, 2, none⟩ (.int .i64 ((rd_T86 l1 x9_1).f2)))) := ⟨hB HB⟩
    (try clear BK198)
    (try clear HB)
    generalize (((w28.setCell ⟨gb198, 0, none⟩ (.int .i64 ((rd_T86 l1 x9_1).f0))).setCell ⟨gb198, 1, none⟩ (.int .i64 ((rd_T86 l1 x9_1).f1))).setCell ⟨gb198, 2, none⟩ (.int .i64 ((rd_T86 l1 x9_1).f2))) = w30 at n0_ n1_ ⊢
    have BK198 := n0_
    have HB := n1_
    clear n0_ n1_
    replace BK198 := bd_ BK198
    replace HB := Aside0.mk (below_drew1 HB.out)
    have p202 : 0 ≤ ((ji18) : Int) := od_
    have q202 : (ji18) < (l1.length : Int) := od_
    obtain ⟨ad202, e202, hx202_0, hx202_1, hx202_2⟩ := at_T86 HR1.out (ji18) p202 q202
    have hw202_2 := hx202_2
    have hw202_1 := hx202_1
    have hw202_0 := hx202_0
    obtain rfl : ad197 = ad202 := (by injection e202)
    replace hx202_0 := hc_ HB hx202_0
    replace hx202_1 := hc_ HB hx202_1
    replace hx202_2 := hc_ HB hx202_2
    replace p202 := eq_true p202
    replace q202 := eq_true q202
    refine start_ (n := 41) (S := fun w' => w'.cell? ⟨gb198, 0, none⟩ = some (.int .i64 ((rd_T86 l1 x9_1).f0)) ∧ w'.cell? ⟨gb198, 1, none⟩ = some (.int .i64 ((rd_T86 l1 x9_1).f1)) ∧ w'.cell? ⟨gb198, 2, none⟩ = some (.int .i64 ((rd_T86 l1 x9_1).f2)) ∧ w'.cell? (ad197.add (((ji18)).toNat * 3)) = some (.int .i64 ((rd_T86 l1 (ji18)).f0)) ∧ w'.cell? ⟨(ad197.add (((ji18)).toNat * 3)).block, (ad197.add (((ji18)).toNat * 3)).off + 1, none⟩ = some (.int .i64 ((rd_T86 l1 (ji18)).f1)) ∧ w'.cell? ⟨(ad197.add (((ji18)).toNat * 3)).block, (ad197.add (((ji18)).toNat * 3)).off + 2, none⟩ = some (.int .i64 ((rd_T86 l1 (ji18)).f2))) (ds := []) (bs 41 0) (by kernel_rfl) rfl rfl ⟨bc_ BK198 0, bc_ BK198 1, bc_ BK198 2, ((HB.out.cell (World.block_lt_of_cell? w _ hw202_0)).trans hw202_0), ((HB.out.cell (World.block_lt_of_cell? w _ hw202_1)).trans hw202_1), ((HB.out.cell (World.block_lt_of_cell? w _ hw202_2)).trans hw202_2)⟩ (fun hHeld => ?_); refine with_tabW impl_GoodEdges.tab4 impl_GoodEdges.bits4 (fun HT_ HW_ => ?_)
    generalize w30.drew = w31 at BK198 HB hx202_0 hx202_1 hx202_2 hHeld ⊢
    refine pu_ 0 14 (bs 41 1) HT_ ?_
    refine pu_ 2 16 (bs 41 5) HT_ ?_
    refine pu_ 3 17 (bs 41 13) HT_ ?_
    refine tk_ 1 15 (bs 41 15) HT_ HW_ hHeld ?_
    refine on_ 4 (some 18) (bs 41 31) HT_ (fun K hK => ?_)
    refine goes_ Try.func96 (by kernel_rfl) rfl #[.int .i64 ((rd_T86 l1 x9_1).f0), .int .i64 0, .int .i64 (wrap64 (a0 - 1))] (by rfl) rfl rfl tm_ ?_
    with_reducible refine (impl_in.calls ((rd_T86 l1 x9_1).f0) 0 (wrap64 (a0 - 1)) true _ A6.out).mono ?_
    rintro e w' ⟨rfl, ⟨nd, rfl⟩⟩
    refine ⟨_, rfl, ?_⟩
    refine hK.out _ _ ⟨bc_ BK198 0, bc_ BK198 1, bc_ BK198 2, ((HB.out.cell (World.block_lt_of_cell? w _ hw202_0)).trans hw202_0), ((HB.out.cell (World.block_lt_of_cell? w _ hw202_1)).trans hw202_1), ((HB.out.cell (World.block_lt_of_cell? w _ hw202_2)).trans hw202_2)⟩ (fun hHeld => ?_)
    clear hK K
    refine nm_ 18 ?_
    refine pu_ 5 19 (bs 41 63) HT_ ?_
    refine pu_ 6 20 (bs 41 127) HT_ ?_
    refine pu_ 7 21 (bs 41 255) HT_ ?_
    refine pu_ 9 23 (bs 41 767) HT_ ?_
    refine pu_ 10 24 (bs 41 1791) HT_ ?_
    refine tk_ 8 22 (bs 41 2047) HT_ HW_ hHeld ?_
    refine on_ 11 (some 25) (bs 41 4095) HT_ (fun K hK => ?_)
    refine goes_ Try.func96 (by kernel_rfl) rfl #[.int .i64 ((rd_T86 l1 x9_1).f1), .int .i64 0, .int .i64 (wrap64 (a0 - 1))] (by rfl) rfl rfl tm_ ?_
    with_reducible refine (impl_in.calls ((rd_T86 l1 x9_1).f1) 0 (wrap64 (a0 - 1)) true _ A8.out).mono ?_
    rintro e w' ⟨rfl, ⟨nd, rfl⟩⟩
    refine ⟨_, rfl, ?_⟩
    refine hK.out _ _ ⟨bc_ BK198 0, bc_ BK198 1, bc_ BK198 2, ((HB.out.cell (World.block_lt_of_cell? w _ hw202_0)).trans hw202_0), ((HB.out.cell (World.block_lt_of_cell? w _ hw202_1)).trans hw202_1), ((HB.out.cell (World.block_lt_of_cell? w _ hw202_2)).trans hw202_2)⟩ (fun hHeld => ?_)
    clear hK K
    refine nm_ 25 ?_
    refine pu_ 12 26 (bs 41 8191) HT_ ?_
    refine pu_ 13 27 (bs 41 16383) HT_ ?_
    refine pu_ 14 28 (bs 41 32767) HT_ ?_
    refine pu_ 15 29 (bs 41 65535) HT_ ?_
    refine pu_ 17 31 (bs 41 196607) HT_ ?_
    refine tk_ 16 30 (bs 41 262143) HT_ HW_ hHeld ?_
    refine tk_ 18 32 (bs 41 524287) HT_ HW_ hHeld ?_
    refine pu_ 19 33 (bs 41 1048575) HT_ ?_
    refine pu_ 20 34 (bs 41 2097151) HT_ ?_
    refine pu_ 21 35 (bs 41 4194303) HT_ ?_
    refine pu_ 22 36 (bs 41 8388607) HT_ ?_
    refine tk_ 23 37 (bs 41 16777215) HT_ HW_ hHeld ?_
    refine on_ 24 (some 38) (bs 41 33554431) HT_ (fun K hK => ?_)
    refine goes_ Try.func96 (by kernel_rfl) rfl #[.int .i64 ((rd_T86 l1 x9_1).f2), .int .i64 1, .int .i64 100] (by rfl) rfl rfl tm_ ?_
    with_reducible refine (impl_in.calls ((rd_T86 l1 x9_1).f2) 1 100 true _ A15.out).mono ?_
    rintro e w' ⟨rfl, ⟨nd, rfl⟩⟩
    refine ⟨_, rfl, ?_⟩
    refine hK.out _ _ ⟨bc_ BK198 0, bc_ BK198 1, bc_ BK198 2, ((HB.out.cell (World.block_lt_of_cell? w _ hw202_0)).trans hw202_0), ((HB.out.cell (World.block_lt_of_cell? w _ hw202_1)).trans hw202_1), ((HB.out.cell (World.block_lt_of_cell? w _ hw202_2)).trans hw202_2)⟩ (fun hHeld => ?_)
    clear hK K
    refine nm_ 38 ?_
    refine pu_ 25 39 (bs 41 67108863) HT_ ?_
    refine pu_ 26 40 (bs 41 134217727) HT_ ?_
    refine pu_ 27 41 (bs 41 268435455) HT_ ?_
    refine pu_ 28 42 (bs 41 536870911) HT_ ?_
    refine pu_ 29 43 (bs 41 1073741823) HT_ ?_
    refine pu_ 30 44 (bs 41 2147483647) HT_ ?_
    refine pu_ 31 45 (bs 41 4294967295) HT_ ?_
    refine pu_ 32 46 (bs 41 8589934591) HT_ ?_
    refine pu_ 33 47 (bs 41 17179869183) HT_ ?_
    refine pu_ 34 48 (bs 41 34359738367) HT_ ?_
    refine tk_ 35 49 (bs 41 68719476735) HT_ HW_ hHeld ?_
    refine tk_ 36 50 (bs 41 137438953471) HT_ HW_ hHeld ?_
    refine on_ 37 (some 51) (bs 41 274877906943) HT_ (fun K hK => ?_)
    refine goes_ Try.func111 (by kernel_rfl) rfl #[.agg #[.int .i64 ((rd_T86 l1 (ji18)).f0), .int .i64 ((rd_T86 l1 (ji18)).f1), .int .i64 ((rd_T86 l1 (ji18)).f2)], .agg #[.int .i64 ((rd_T86 l1 x9_1).f0), .int .i64 ((rd_T86 l1 x9_1).f1), .int .i64 ((rd_T86 l1 x9_1).f2)]] (by rfl) rfl rfl (by (try simp only [List.map_toArray, List.map_cons, List.map_nil]); first | done | (simp only [hji18]; rfl) | rfl | (simp only [List.length_drop, List.length_take]; rfl)) ?_
    with_reducible refine (impl_byEnds.calls ((rd_T86 l1 (ji18)).f0) ((rd_T86 l1 (ji18)).f1) ((rd_T86 l1 (ji18)).f2) ((rd_T86 l1 x9_1).f0) ((rd_T86 l1 x9_1).f1) ((rd_T86 l1 x9_1).f2) t203 _ A21.out).mono ?_
    rintro e w32 ⟨rfl, hb⟩
    refine ⟨_, rfl, ?_⟩
    replace BK198 := bb_ BK198 hb
    replace HB := bst_ HB hb
    clear hb
    refine hK.out _ _ ⟨bc_ BK198 0, bc_ BK198 1, bc_ BK198 2, ((HB.out.cell (World.block_lt_of_cell? w _ hw202_0)).trans hw202_0), ((HB.out.cell (World.block_lt_of_cell? w _ hw202_1)).trans hw202_1), ((HB.out.cell (World.block_lt_of_cell? w _ hw202_2)).trans hw202_2)⟩ (fun hHeld => ?_)
    clear hK K
    refine nm_ 51 ?_
    refine pu_ 38 52 (bs 41 549755813887) HT_ ?_
    refine pu_ 39 53 (bs 41 1099511627775) HT_ ?_
    refine pu_ 40 54 (bs 41 2199023255551) HT_ ?_
    refine done_ (done_of HT_.out (by kernel_rfl)) ?_
    try go_wp2
    go_roundg k1
    case measure => have := HK1.out; omega
    case rel => exact ⟨(wrap64 (x9_1 + 1)), (by first | rfl | (simp; done) | (simp [*]; done)), H', ⟨by have := HK1.out; omega⟩, ⟨hB HB⟩⟩
   rw [if_pos c22] at H
   have c22b0 : decide (0 ≤ t203) = true := decide_eq_true c22
   clear c22
   obtain rfl := Option.some.inj H
   have p197 : 0 ≤ (x9_1 : Int) := od_
   have q197 : x9_1 < (l1.length : Int) := od_
   obtain ⟨ad197, e197, hx197_0, hx197_1, hx197_2⟩ := at_T86 HR1.out x9_1 p197 q197
   cases e197
   replace hx197_0 := hc_ HB hx197_0
   replace hx197_1 := hc_ HB hx197_1
   replace hx197_2 := hc_ HB hx197_2
   replace p197 := eq_true p197
   replace q197 := eq_true q197
   try go_wp2_with (first | ((with_reducible refine gate_dst (N := 6) rfl ?_); (try (refine gate_guard (by rfl) ?_; dsimp only)); refine box_event ?hg (N := 6) ?hd (cs := #[.int .i64 0, .int .i64 0, .int .i64 0]) (t := 86) ?hr ?_; (case hd => rfl); (case hg => rfl); (case hr => first | (go_simp; done) | (go_simp; rfl)); intro gb198 hg w23 hbox hb; have BK198 := Aside0.mk (hbox); have GW198 := gw_ hg HB; have GE198 := gw_ hg HB; replace HB := bst_ HB hb; clear hb hbox hg; obtain ⟨hcz24_0, hcz24_1, hcz24_2⟩ := bcs3_ BK198; have hfz24_0 := blk_frozen BK198.out 0; have hfz24_1 := blk_frozen BK198.out 1; have hfz24_2 := blk_frozen BK198.out 2))
   have n0_ : Aside0 ((((w23.setCell ⟨gb198, 0, none⟩ (.int .i64 ((rd_T86 l1 x9_1).f0))).setCell ⟨gb198, 1, none⟩ (.int .i64 ((rd_T86 l1 x9_1).f1))).setCell ⟨gb198, 2, none⟩ (.int .i64 ((rd_T86 l1 x9_1).f2))).heap[gb198]? = some (.cells #[.int .i64 ((rd_T86 l1 x9_1).f0), .int .i64 ((rd_T86 l1 x9_1).f1), .int .i64 ((rd_T86 l1 x9_1).f2)] 86 (0, 0))) := ⟨by (with_reducible repeat (first | refine blk_drewN ?_ _ | refine blk_drew ?_ | refine blk_alloc ?_ _)); refine blk_put (cs := #[.int .i64 ((rd_T86 l1 x9_1).f0), .int .i64 ((rd_T86 l1 x9_1).f1), .int .i64 0]) ?_ 2 _ rfl; (with_reducible repeat (first | refine blk_drewN ?_ _ | refine blk_drew ?_ | refine blk_alloc ?_ _)); refine blk_put (cs := #[.int .i64 ((rd_T86 l1 x9_1).f0), .int .i64 0, .int .i64 0]) ?_ 1 _ rfl; (with_reducible repeat (first | refine blk_drewN ?_ _ | refine blk_drew ?_ | refine blk_alloc ?_ _)); refine blk_put (cs := #[.int .i64 0, .int .i64 0, .int .i64 0]) ?_ 0 _ rfl; (with_reducible repeat (first | refine blk_drewN ?_ _ | refine blk_drew ?_ | refine blk_alloc ?_ _)); exact BK198.out⟩
   have n1_ : Aside0 (Below w.heap.size w (((w23.setCell ⟨gb198, 0, none⟩ (.int .i64 ((rd_T86 l1 x9_1).f0))).setCell ⟨gb198, 1, none⟩ (.int .i64 ((rd_T86 l1 x9_1).f1))).setCell ⟨gb198, 2, none⟩ (.int .i64 ((rd_T86 l1 x9_1).f2)))) := ⟨hB HB⟩
   (try clear BK198)
   (try clear HB)
   generalize (((w23.setCell ⟨gb198, 0, none⟩ (.int .i64 ((rd_T86 l1 x9_1).f0))).setCell ⟨gb198, 1, none⟩ (.int .i64 ((rd_T86 l1 x9_1).f1))).setCell ⟨gb198, 2, none⟩ (.int .i64 ((rd_T86 l1 x9_1).f2))) = w25 at n0_ n1_ ⊢
   have BK198 := n0_
   have HB := n1_
   clear n0_ n1_
   replace BK198 := bd_ BK198
   replace HB := Aside0.mk (below_drew1 HB.out)
   have p202 : 0 ≤ ((ji18) : Int) := od_
   have q202 : (ji18) < (l1.length : Int) := od_
   obtain ⟨ad202, e202, hx202_0, hx202_1, hx202_2⟩ := at_T86 HR1.out (ji18) p202 q202
   have hw202_2 := hx202_2
   have hw202_1 := hx202_1
   have hw202_0 := hx202_0
   obtain rfl : ad197 = ad202 := (by injection e202)
   replace hx202_0 := hc_ HB hx202_0
   replace hx202_1 := hc_ HB hx202_1
   replace hx202_2 := hc_ HB hx202_2
   replace p202 := eq_true p202
   replace q202 := eq_true q202
   refine start_ (n := 41) (S := fun w' => w'.cell? ⟨gb198, 0, none⟩ = some (.int .i64 ((rd_T86 l1 x9_1).f0)) ∧ w'.cell? ⟨gb198, 1, none⟩ = some (.int .i64 ((rd_T86 l1 x9_1).f1)) ∧ w'.cell? ⟨gb198, 2, none⟩ = some (.int .i64 ((rd_T86 l1 x9_1).f2)) ∧ w'.cell? (ad197.add (((ji18)).toNat * 3)) = some (.int .i64 ((rd_T86 l1 (ji18)).f0)) ∧ w'.cell? ⟨(ad197.add (((ji18)).toNat * 3)).block, (ad197.add (((ji18)).toNat * 3)).off + 1, none⟩ = some (.int .i64 ((rd_T86 l1 (ji18)).f1)) ∧ w'.cell? ⟨(ad197.add (((ji18)).toNat * 3)).block, (ad197.add (((ji18)).toNat * 3)).off + 2, none⟩ = some (.int .i64 ((rd_T86 l1 (ji18)).f2))) (ds := []) (bs 41 0) (by kernel_rfl) rfl rfl ⟨bc_ BK198 0, bc_ BK198 1, bc_ BK198 2, ((HB.out.cell (World.block_lt_of_cell? w _ hw202_0)).trans hw202_0), ((HB.out.cell (World.block_lt_of_cell? w _ hw202_1)).trans hw202_1), ((HB.out.cell (World.block_lt_of_cell? w _ hw202_2)).trans hw202_2)⟩ (fun hHeld => ?_); refine with_tabW impl_GoodEdges.tab4 impl_GoodEdges.bits4 (fun HT_ HW_ => ?_)
   generalize w25.drew = w26 at BK198 HB hx202_0 hx202_1 hx202_2 hHeld ⊢
   refine pu_ 0 14 (bs 41 1) HT_ ?_
   refine pu_ 2 16 (bs 41 5) HT_ ?_
   refine pu_ 3 17 (bs 41 13) HT_ ?_
   refine tk_ 1 15 (bs 41 15) HT_ HW_ hHeld ?_
   refine on_ 4 (some 18) (bs 41 31) HT_ (fun K hK => ?_)
   refine goes_ Try.func96 (by kernel_rfl) rfl #[.int .i64 ((rd_T86 l1 x9_1).f0), .int .i64 0, .int .i64 (wrap64 (a0 - 1))] (by rfl) rfl rfl tm_ ?_
   with_reducible refine (impl_in.calls ((rd_T86 l1 x9_1).f0) 0 (wrap64 (a0 - 1)) true _ A6.out).mono ?_
   rintro e w' ⟨rfl, ⟨nd, rfl⟩⟩
   refine ⟨_, rfl, ?_⟩
   refine hK.out _ _ ⟨bc_ BK198 0, bc_ BK198 1, bc_ BK198 2, ((HB.out.cell (World.block_lt_of_cell? w _ hw202_0)).trans hw202_0), ((HB.out.cell (World.block_lt_of_cell? w _ hw202_1)).trans hw202_1), ((HB.out.cell (World.block_lt_of_cell? w _ hw202_2)).trans hw202_2)⟩ (fun hHeld => ?_)
   clear hK K
   refine nm_ 18 ?_
   refine pu_ 5 19 (bs 41 63) HT_ ?_
   refine pu_ 6 20 (bs 41 127) HT_ ?_
   refine pu_ 7 21 (bs 41 255) HT_ ?_
   refine pu_ 9 23 (bs 41 767) HT_ ?_
   refine pu_ 10 24 (bs 41 1791) HT_ ?_
   refine tk_ 8 22 (bs 41 2047) HT_ HW_ hHeld ?_
   refine on_ 11 (some 25) (bs 41 4095) HT_ (fun K hK => ?_)
   refine goes_ Try.func96 (by kernel_rfl) rfl #[.int .i64 ((rd_T86 l1 x9_1).f1), .int .i64 0, .int .i64 (wrap64 (a0 - 1))] (by rfl) rfl rfl tm_ ?_
   with_reducible refine (impl_in.calls ((rd_T86 l1 x9_1).f1) 0 (wrap64 (a0 - 1)) true _ A8.out).mono ?_
   rintro e w' ⟨rfl, ⟨nd, rfl⟩⟩
   refine ⟨_, rfl, ?_⟩
   refine hK.out _ _ ⟨bc_ BK198 0, bc_ BK198 1, bc_ BK198 2, ((HB.out.cell (World.block_lt_of_cell? w _ hw202_0)).trans hw202_0), ((HB.out.cell (World.block_lt_of_cell? w _ hw202_1)).trans hw202_1), ((HB.out.cell (World.block_lt_of_cell? w _ hw202_2)).trans hw202_2)⟩ (fun hHeld => ?_)
   clear hK K
   refine nm_ 25 ?_
   refine pu_ 12 26 (bs 41 8191) HT_ ?_
   refine pu_ 13 27 (bs 41 16383) HT_ ?_
   refine pu_ 14 28 (bs 41 32767) HT_ ?_
   refine pu_ 15 29 (bs 41 65535) HT_ ?_
   refine pu_ 17 31 (bs 41 196607) HT_ ?_
   refine tk_ 16 30 (bs 41 262143) HT_ HW_ hHeld ?_
   refine tk_ 18 32 (bs 41 524287) HT_ HW_ hHeld ?_
   refine pu_ 19 33 (bs 41 1048575) HT_ ?_
   refine pu_ 20 34 (bs 41 2097151) HT_ ?_
   refine pu_ 21 35 (bs 41 4194303) HT_ ?_
   refine pu_ 22 36 (bs 41 8388607) HT_ ?_
   refine tk_ 23 37 (bs 41 16777215) HT_ HW_ hHeld ?_
   refine on_ 24 (some 38) (bs 41 33554431) HT_ (fun K hK => ?_)
   refine goes_ Try.func96 (by kernel_rfl) rfl #[.int .i64 ((rd_T86 l1 x9_1).f2), .int .i64 1, .int .i64 100] (by rfl) rfl rfl tm_ ?_
   with_reducible refine (impl_in.calls ((rd_T86 l1 x9_1).f2) 1 100 true _ A15.out).mono ?_
   rintro e w' ⟨rfl, ⟨nd, rfl⟩⟩
   refine ⟨_, rfl, ?_⟩
   refine hK.out _ _ ⟨bc_ BK198 0, bc_ BK198 1, bc_ BK198 2, ((HB.out.cell (World.block_lt_of_cell? w _ hw202_0)).trans hw202_0), ((HB.out.cell (World.block_lt_of_cell? w _ hw202_1)).trans hw202_1), ((HB.out.cell (World.block_lt_of_cell? w _ hw202_2)).trans hw202_2)⟩ (fun hHeld => ?_)
   clear hK K
   refine nm_ 38 ?_
   refine pu_ 25 39 (bs 41 67108863) HT_ ?_
   refine pu_ 26 40 (bs 41 134217727) HT_ ?_
   refine pu_ 27 41 (bs 41 268435455) HT_ ?_
   refine pu_ 28 42 (bs 41 536870911) HT_ ?_
   refine pu_ 29 43 (bs 41 1073741823) HT_ ?_
   refine pu_ 30 44 (bs 41 2147483647) HT_ ?_
   refine pu_ 31 45 (bs 41 4294967295) HT_ ?_
   refine pu_ 32 46 (bs 41 8589934591) HT_ ?_
   refine pu_ 33 47 (bs 41 17179869183) HT_ ?_
   refine pu_ 34 48 (bs 41 34359738367) HT_ ?_
   refine tk_ 35 49 (bs 41 68719476735) HT_ HW_ hHeld ?_
   refine tk_ 36 50 (bs 41 137438953471) HT_ HW_ hHeld ?_
   refine on_ 37 (some 51) (bs 41 274877906943) HT_ (fun K hK => ?_)
   refine goes_ Try.func111 (by kernel_rfl) rfl #[.agg #[.int .i64 ((rd_T86 l1 (ji18)).f0), .int .i64 ((rd_T86 l1 (ji18)).f1), .int .i64 ((rd_T86 l1 (ji18)).f2)], .agg #[.int .i64 ((rd_T86 l1 x9_1).f0), .int .i64 ((rd_T86 l1 x9_1).f1), .int .i64 ((rd_T86 l1 x9_1).f2)]] (by rfl) rfl rfl (by (try simp only [List.map_toArray, List.map_cons, List.map_nil]); first | done | (simp only [hji18]; rfl) | rfl | (simp only [List.length_drop, List.length_take]; rfl)) ?_
   with_reducible refine (impl_byEnds.calls ((rd_T86 l1 (ji18)).f0) ((rd_T86 l1 (ji18)).f1) ((rd_T86 l1 (ji18)).f2) ((rd_T86 l1 x9_1).f0) ((rd_T86 l1 x9_1).f1) ((rd_T86 l1 x9_1).f2) t203 _ A21.out).mono ?_
   rintro e w27 ⟨rfl, hb⟩
   refine ⟨_, rfl, ?_⟩
   replace BK198 := bb_ BK198 hb
   replace HB := bst_ HB hb
   clear hb
   refine hK.out _ _ ⟨bc_ BK198 0, bc_ BK198 1, bc_ BK198 2, ((HB.out.cell (World.block_lt_of_cell? w _ hw202_0)).trans hw202_0), ((HB.out.cell (World.block_lt_of_cell? w _ hw202_1)).trans hw202_1), ((HB.out.cell (World.block_lt_of_cell? w _ hw202_2)).trans hw202_2)⟩ (fun hHeld => ?_)
   clear hK K
   refine nm_ 51 ?_
   refine pu_ 38 52 (bs 41 549755813887) HT_ ?_
   refine pu_ 39 53 (bs 41 1099511627775) HT_ ?_
   refine pu_ 40 54 (bs 41 2199023255551) HT_ ?_
   refine done_ (done_of HT_.out (by kernel_rfl)) ?_
   try go_wp2
   go_ret
   exact ⟨by first | rfl | (simp [errW_none, errW_some] <;> rfl) | (simp only [← hji18]; first | rfl | (simp [errW_none, errW_some] <;> rfl)) | (simp [*, errW_none, errW_some] <;> rfl), hB HB⟩

def impl_rising.l0 : Nat → List Int → Int → Option (Bool)
 | 0, _, _ => none
 | k + 1, x0, x3 => if x3 < (x0.length : Int) then (if 0 ≤ (wrap64 (x3 - 1)) then (if (wrap64 (x3 - 1)) < (x0.length : Int) then (if 0 ≤ x3 then (if (rd x0 (wrap64 (x3 - 1))) ≥ (rd x0 x3) then (some false) else (impl_rising.l0 k x0 (wrap64 (x3 + 1)))) else (none)) else (none)) else (none)) else (some true)
def impl_rising.f (k : Nat) (l0 : List Int) : Option (Bool) := impl_rising.l0 k l0 1
theorem impl_rising.mono_l : ∀ k, (∀ y0 y1, LeO (impl_rising.l0 k y0 y1) (impl_rising.l0 (k + 1) y0 y1))
 | 0 => fun _ _ r h => by simp [impl_rising.l0] at h
 | k + 1 => by
  have ih0 := impl_rising.mono_l k
  ·intro y0 y1
   unfold impl_rising.l0
   repeat' first
   | (with_reducible exact ih0 _ _)
   | with_reducible first | exact LeO.refl _ | exact LeO.none _ | refine LeO.ite ?_ ?_ | refine LeO.bind ?_ fun _ => ?_
theorem impl_rising.mono : ∀ a0 k, LeO (impl_rising.f k a0) (impl_rising.f (k + 1) a0) := by
 intro a0 k
 have ih0 := impl_rising.mono_l k
 unfold impl_rising.f
 repeat' first
   | (with_reducible exact ih0 _ _)
   | with_reducible first | exact LeO.refl _ | exact LeO.none _ | refine LeO.ite ?_ ?_ | refine LeO.bind ?_ fun _ => ?_
set_option maxHeartbeats 8000000 in
set_option maxRecDepth 100000 in
theorem impl_rising.calls (k : Nat) (A0 : Option Addr) (c0 : Nat) (l0 : List Int) (r : Bool) (w : World) (hr0 : Kd.C (Kd.int .i64) w A0 l0.length l0) (hc0 : l0.length ≤ c0) (h : impl_rising.f k l0 = some r) :
  Calls Try.prog 97 #[.slice A0 l0.length c0] w fun e w' => e = .returned (.bool r) ∧ Drawn0 w w' := by
 have HR0 := Aside0.mk hr0
 have HC0 := Aside0.mk hc0
 clear hr0 hc0
 have H : (impl_rising.l0 k l0 1) = some r := h
 clear h
 have H' := Aside0.mk H
 clear H
 go_enter Try.func97, Try.ntmps97
 go_wp2
 repeat (go_quiet (fail); try go_wp2)
 go_loopg [3] k (fun kq v3 w' => ∃ (x3_1 : Int), v3 = .int .i64 x3_1 ∧ Aside0 (impl_rising.l0 kq l0 x3_1 = some r) ∧ Aside0 (kq ≤ k) ∧ Drawn0 w w')
 case atStart => exact ⟨(1), (by first | rfl | (simp; done) | (simp [*]; done)), H', ⟨Nat.le_refl _⟩, by repeat (first | exact Drawn0.refl _ | apply Drawn0.step)⟩
 case round =>
  clear H'
  obtain ⟨x3_1, rfl, HA, HK1, ⟨m1, rfl⟩⟩ := hrel
  cases gk with
  | zero => exact absurd HA.out (by simp [impl_rising.l0])
  | succ k1 =>
   have H := HA.out
   clear HA
   simp only [impl_rising.l0] at H
   by_cases c2 : x3_1 < (l0.length : Int)
   rotate_left
   ·rw [if_neg c2] at H
    have c2b0 : decide (x3_1 < (l0.length : Int)) = false := decide_eq_false c2
    clear c2
    obtain rfl := Option.some.inj H
    go_wp2
    repeat (go_quiet (fail); try go_wp2)
    go_ret
    exact ⟨by first | rfl | (simp; done) | (simp [*]; done), by repeat (first | exact Drawn0.refl _ | apply Drawn0.step)⟩
   rw [if_pos c2] at H
   have c2b0 : decide (x3_1 < (l0.length : Int)) = true := decide_eq_true c2
   clear c2
   obtain ⟨ji3, hji3⟩ : ∃ j_ : Int, (wrap64 (x3_1 - 1)) = j_ := ⟨_, rfl⟩
   replace H : (if 0 ≤ (ji3) then (if (ji3) < (l0.length : Int) then (if 0 ≤ x3_1 then (if (rd l0 (ji3)) ≥ (rd l0 x3_1) then (some false) else (impl_rising.l0 k1 l0 (wrap64 (x3_1 + 1)))) else (none)) else (none)) else (none)) = some r := by first | (rw [hji3] at H; exact H) | (simp only [hji3] at H ⊢; exact H)
   have hji3w : (IntKind.i64.wrap (x3_1 - 1)) = ji3 := (i64_w _).trans hji3
   by_cases c4 : 0 ≤ (ji3)
   rotate_left
   ·rw [if_neg c4] at H
    exact absurd H (by simp)
   rw [if_pos c4] at H
   have c4b0 : decide (0 ≤ (ji3)) = true := decide_eq_true c4
   clear c4
   by_cases c5 : (ji3) < (l0.length : Int)
   rotate_left
   ·rw [if_neg c5] at H
    exact absurd H (by simp)
   rw [if_pos c5] at H
   have c5b0 : decide ((ji3) < (l0.length : Int)) = true := decide_eq_true c5
   clear c5
   by_cases c6 : 0 ≤ x3_1
   rotate_left
   ·rw [if_neg c6] at H
    exact absurd H (by simp)
   rw [if_pos c6] at H
   have c6b0 : decide (0 ≤ x3_1) = true := decide_eq_true c6
   clear c6
   by_cases c7 : (rd l0 (ji3)) ≥ (rd l0 x3_1)
   ·rw [if_pos c7] at H
    have c7b0 : decide ((rd l0 x3_1) ≤ (rd l0 (ji3))) = true := decide_eq_true c7
    clear c7
    obtain rfl := Option.some.inj H
    have p204 : 0 ≤ ((ji3) : Int) := od_
    have q204 : (ji3) < (l0.length : Int) := od_
    obtain ⟨ad204, e204, hx204_0⟩ := Kd.at_int HR0.out (ji3) p204 q204
    cases e204
    replace p204 := eq_true p204
    replace q204 := eq_true q204
    have p205 : 0 ≤ (x3_1 : Int) := od_
    have q205 : x3_1 < (l0.length : Int) := od_
    obtain ⟨ad205, e205, hx205_0⟩ := Kd.at_int HR0.out x3_1 p205 q205
    obtain rfl : ad204 = ad205 := (by injection e205)
    replace p205 := eq_true p205
    replace q205 := eq_true q205
    go_wp2
    repeat (go_quiet (fail); try go_wp2)
    go_ret
    exact ⟨by first | rfl | (simp; done) | (simp only [← hji3] <;> (first | rfl | simp)) | (simp [*]; done), by repeat (first | exact Drawn0.refl _ | apply Drawn0.step)⟩
   rw [if_neg c7] at H
   have c7b0 : decide ((rd l0 x3_1) ≤ (rd l0 (ji3))) = false := decide_eq_false c7
   clear c7
   have H' := Aside0.mk H
   clear H
   have p204 : 0 ≤ ((ji3) : Int) := od_
   have q204 : (ji3) < (l0.length : Int) := od_
   obtain ⟨ad204, e204, hx204_0⟩ := Kd.at_int HR0.out (ji3) p204 q204
   cases e204
   replace p204 := eq_true p204
   replace q204 := eq_true q204
   have p205 : 0 ≤ (x3_1 : Int) := od_
   have q205 : x3_1 < (l0.length : Int) := od_
   obtain ⟨ad205, e205, hx205_0⟩ := Kd.at_int HR0.out x3_1 p205 q205
   obtain rfl : ad204 = ad205 := (by injection e205)
   replace p205 := eq_true p205
   replace q205 := eq_true q205
   go_wp2
   repeat (go_quiet (fail); try go_wp2)
   go_roundg k1
   case measure => have := HK1.out; omega
   case rel => exact ⟨(wrap64 (x3_1 + 1)), (by first | rfl | (simp; done) | (simp [*]; done)), H', ⟨by have := HK1.out; omega⟩, by repeat (first | exact Drawn0.refl _ | apply Drawn0.step)⟩

def impl_allIn.l0 : Nat → Int → Int → List Int → Int → Int → Option (Bool)
 | 0, _, _, _, _, _ => none
 | k + 1, x1, x2, x9, x10, x11 => if x11 < x10 then (if 0 ≤ x11 then (if x11 < (x9.length : Int) then ((impl_in.f (rd x9 x11) x1 x2).bind fun t207 => (if t207 = true then (impl_allIn.l0 k x1 x2 x9 x10 (wrap64 (x11 + 1))) else (some false))) else (none)) else (none)) else (some true)
def impl_allIn.f (k : Nat) (l0 : List Int) (a1 : Int) (a2 : Int) : Option (Bool) := impl_allIn.l0 k a1 a2 l0 (l0.length : Int) 0
theorem impl_allIn.mono_l : ∀ k, (∀ y0 y1 y2 y3 y4, LeO (impl_allIn.l0 k y0 y1 y2 y3 y4) (impl_allIn.l0 (k + 1) y0 y1 y2 y3 y4))
 | 0 => fun _ _ _ _ _ r h => by simp [impl_allIn.l0] at h
 | k + 1 => by
  have ih0 := impl_allIn.mono_l k
  ·intro y0 y1 y2 y3 y4
   unfold impl_allIn.l0
   repeat' first
   | (with_reducible exact ih0 _ _ _ _ _)
   | with_reducible first | exact LeO.refl _ | exact LeO.none _ | refine LeO.ite ?_ ?_ | refine LeO.bind ?_ fun _ => ?_
theorem impl_allIn.mono : ∀ a0 a1 a2 k, LeO (impl_allIn.f k a0 a1 a2) (impl_allIn.f (k + 1) a0 a1 a2) := by
 intro a0 a1 a2 k
 have ih0 := impl_allIn.mono_l k
 unfold impl_allIn.f
 repeat' first
   | (with_reducible exact ih0 _ _ _ _ _)
   | with_reducible first | exact LeO.refl _ | exact LeO.none _ | refine LeO.ite ?_ ?_ | refine LeO.bind ?_ fun _ => ?_
set_option maxHeartbeats 8000000 in
set_option maxRecDepth 100000 in
theorem impl_allIn.calls (k : Nat) (A0 : Option Addr) (c0 : Nat) (l0 : List Int) (a1 : Int) (a2 : Int) (r : Bool) (w : World) (hr0 : Kd.C (Kd.int .i64) w A0 l0.length l0) (hc0 : l0.length ≤ c0) (h : impl_allIn.f k l0 a1 a2 = some r) :
  Calls Try.prog 98 #[.slice A0 l0.length c0, .int .i64 a1, .int .i64 a2] w fun e w' => e = .returned (.bool r) ∧ Drawn0 w w' := by
 have HR0 := Aside0.mk hr0
 have HC0 := Aside0.mk hc0
 clear hr0 hc0
 have H : (impl_allIn.l0 k a1 a2 l0 (l0.length : Int) 0) = some r := h
 clear h
 have H' := Aside0.mk H
 clear H
 go_enter Try.func98, Try.ntmps98
 go_wp2
 go_loopg [11] k (fun kq v11 w' => ∃ (x11_1 : Int), v11 = .int .i64 x11_1 ∧ Aside0 (impl_allIn.l0 kq a1 a2 l0 (l0.length : Int) x11_1 = some r) ∧ Aside0 (kq ≤ k) ∧ Drawn0 w w')
 case atStart => exact ⟨(0), (by first | rfl | (simp; done) | (simp [*]; done)), H', ⟨Nat.le_refl _⟩, by repeat (first | exact Drawn0.refl _ | apply Drawn0.step)⟩
 case round =>
  clear H'
  obtain ⟨x11_1, rfl, HA, HK1, ⟨m1, rfl⟩⟩ := hrel
  cases gk with
  | zero => exact absurd HA.out (by simp [impl_allIn.l0])
  | succ k1 =>
   have H := HA.out
   clear HA
   simp only [impl_allIn.l0] at H
   by_cases c4 : x11_1 < (l0.length : Int)
   rotate_left
   ·rw [if_neg c4] at H
    have c4b0 : decide (x11_1 < (l0.length : Int)) = false := decide_eq_false c4
    clear c4
    obtain rfl := Option.some.inj H
    go_wp2
    go_ret
    exact ⟨by first | rfl | (simp; done) | (simp [*]; done), by repeat (first | exact Drawn0.refl _ | apply Drawn0.step)⟩
   rw [if_pos c4] at H
   have c4b0 : decide (x11_1 < (l0.length : Int)) = true := decide_eq_true c4
   clear c4
   by_cases c5 : 0 ≤ x11_1
   rotate_left
   ·rw [if_neg c5] at H
    exact absurd H (by simp)
   rw [if_pos c5] at H
   have c5b0 : decide (0 ≤ x11_1) = true := decide_eq_true c5
   clear c5
   by_cases c6 : x11_1 < (l0.length : Int)
   rotate_left
   ·rw [if_neg c6] at H
    exact absurd H (by simp)
   rw [if_pos c6] at H
   have c6b0 : decide (x11_1 < (l0.length : Int)) = true := decide_eq_true c6
   clear c6
   replace H := Option.bind_eq_some_iff.mp H
   obtain ⟨t207, A70, H⟩ := H
   replace H : (if t207 = true then (impl_allIn.l0 k1 a1 a2 l0 (l0.length : Int) (wrap64 (x11_1 + 1))) else (some false)) = some r := H
   have A7 := Aside0.mk A70
   clear A70
   by_cases c8 : t207 = true
   rotate_left
   ·replace c8 := Bool.eq_false_iff.mpr c8
    subst c8
    rw [if_neg (show ¬ (false = true) by decide)] at H
    obtain rfl := Option.some.inj H
    have p206 : 0 ≤ (x11_1 : Int) := od_
    have q206 : x11_1 < (l0.length : Int) := od_
    obtain ⟨ad206, e206, hx206_0⟩ := Kd.at_int HR0.out x11_1 p206 q206
    cases e206
    replace p206 := eq_true p206
    replace q206 := eq_true q206
    go_wp2_with (first | (refine goesL_ (some 18) rfl rfl Try.func96 (by kernel_rfl) rfl #[.int .i64 (rd l0 x11_1), .int .i64 a1, .int .i64 a2] rfl tm_ ?_; (with_reducible refine (impl_in.calls (rd l0 x11_1) a1 a2 false _ A7.out).mono ?_); rintro e w' ⟨rfl, ⟨nd, rfl⟩⟩; refine ⟨_, rfl, ?_⟩))
    go_ret
    exact ⟨by first | rfl | (simp; done) | (simp [*]; done), by repeat (first | exact Drawn0.refl _ | apply Drawn0.step)⟩
   subst c8
   rw [if_pos rfl] at H
   have H' := Aside0.mk H
   clear H
   have p206 : 0 ≤ (x11_1 : Int) := od_
   have q206 : x11_1 < (l0.length : Int) := od_
   obtain ⟨ad206, e206, hx206_0⟩ := Kd.at_int HR0.out x11_1 p206 q206
   cases e206
   replace p206 := eq_true p206
   replace q206 := eq_true q206
   go_wp2_with (first | (refine goesL_ (some 18) rfl rfl Try.func96 (by kernel_rfl) rfl #[.int .i64 (rd l0 x11_1), .int .i64 a1, .int .i64 a2] rfl tm_ ?_; (with_reducible refine (impl_in.calls (rd l0 x11_1) a1 a2 true _ A7.out).mono ?_); rintro e w' ⟨rfl, ⟨nd, rfl⟩⟩; refine ⟨_, rfl, ?_⟩))
   go_roundg k1
   case measure => have := HK1.out; omega
   case rel => exact ⟨(wrap64 (x11_1 + 1)), (by first | rfl | (simp; done) | (simp [*]; done)), H', ⟨by have := HK1.out; omega⟩, by repeat (first | exact Drawn0.refl _ | apply Drawn0.step)⟩

def impl_goodCut.f (k : Nat) (a0 : Int) (l1 : List (S86)) (l2 : List Int) : Option (Bool) := (impl_GoodEdges.f k a0 l1).bind fun t208 => (if t208 = true then ((impl_rising.f k l2).bind fun t209 => (if t209 = true then ((impl_allIn.f k l2 0 (wrap64 ((l1.length : Int) - 1))).bind fun t210 => (some t210)) else (some false))) else (some false))
theorem impl_goodCut.mono : ∀ a0 a1 a2 k, LeO (impl_goodCut.f k a0 a1 a2) (impl_goodCut.f (k + 1) a0 a1 a2) := by
 intro a0 a1 a2 k
 unfold impl_goodCut.f
 repeat' first
   | (with_reducible exact impl_GoodEdges.mono _ _ _)
   | (with_reducible exact impl_allIn.mono _ _ _ _)
   | (with_reducible exact impl_rising.mono _ _)
   | with_reducible first | exact LeO.refl _ | exact LeO.none _ | refine LeO.ite ?_ ?_ | refine LeO.bind ?_ fun _ => ?_
set_option maxHeartbeats 8000000 in
set_option maxRecDepth 100000 in
theorem impl_goodCut.calls (k : Nat) (a0 : Int) (A1 : Option Addr) (c1 : Nat) (l1 : List (S86)) (A2 : Option Addr) (c2 : Nat) (l2 : List Int) (r : Bool) (w : World) (hr1 : Kd.C k86 w A1 l1.length l1) (hc1 : l1.length ≤ c1) (hr2 : Kd.C (Kd.int .i64) w A2 l2.length l2) (hc2 : l2.length ≤ c2) (h : impl_goodCut.f k a0 l1 l2 = some r) :
  Calls Try.prog 94 #[.int .i64 a0, .slice A1 l1.length c1, .slice A2 l2.length c2] w fun e w' => e = .returned (.bool r) ∧ Below w.heap.size w w' := by
 have HR1 := Aside0.mk hr1
 have HC1 := Aside0.mk hc1
 clear hr1 hc1
 have HR2 := Aside0.mk hr2
 have HC2 := Aside0.mk hc2
 clear hr2 hc2
 have HB := Aside0.mk (Below.refl w.heap.size w)
 have H : ((impl_GoodEdges.f k a0 l1).bind fun t208 => (if t208 = true then ((impl_rising.f k l2).bind fun t209 => (if t209 = true then ((impl_allIn.f k l2 0 (wrap64 ((l1.length : Int) - 1))).bind fun t210 => (some t210)) else (some false))) else (some false))) = some r := h
 clear h
 replace H := Option.bind_eq_some_iff.mp H
 obtain ⟨t208, A40, H⟩ := H
 replace H : (if t208 = true then ((impl_rising.f k l2).bind fun t209 => (if t209 = true then ((impl_allIn.f k l2 0 (wrap64 ((l1.length : Int) - 1))).bind fun t210 => (some t210)) else (some false))) else (some false)) = some r := H
 have A4 := Aside0.mk A40
 clear A40
 by_cases c5 : t208 = true
 rotate_left
 ·replace c5 := Bool.eq_false_iff.mpr c5
  subst c5
  rw [if_neg (show ¬ (false = true) by decide)] at H
  obtain rfl := Option.some.inj H
  go_enter Try.func94, Try.ntmps94
  go_wp2_with (first | (refine goesL_ (some 9) rfl rfl Try.func71 (by kernel_rfl) rfl #[.int .i64 a0, .slice A1 l1.length c1] rfl tm_ ?_; (with_reducible refine (impl_GoodEdges.calls k a0 _ _ l1 false _ ?side1 ?side2 A4.out).mono ?_); (case side1 => exact ca HR1.out); (case side2 => exact HC1.out); rintro e w11 ⟨rfl, hb⟩; refine ⟨_, rfl, ?_⟩; replace HB := bst_ HB hb; clear hb))
  go_ret
  exact ⟨rt_, hB HB⟩
 subst c5
 rw [if_pos rfl] at H
 replace H := Option.bind_eq_some_iff.mp H
 obtain ⟨t209, A60, H⟩ := H
 replace H : (if t209 = true then ((impl_allIn.f k l2 0 (wrap64 ((l1.length : Int) - 1))).bind fun t210 => (some t210)) else (some false)) = some r := H
 have A6 := Aside0.mk A60
 clear A60
 by_cases c7 : t209 = true
 rotate_left
 ·replace c7 := Bool.eq_false_iff.mpr c7
  subst c7
  rw [if_neg (show ¬ (false = true) by decide)] at H
  obtain rfl := Option.some.inj H
  go_enter Try.func94, Try.ntmps94
  go_wp2_with (first | (refine goesL_ (some 9) rfl rfl Try.func71 (by kernel_rfl) rfl #[.int .i64 a0, .slice A1 l1.length c1] rfl tm_ ?_; (with_reducible refine (impl_GoodEdges.calls k a0 _ _ l1 true _ ?side1 ?side2 A4.out).mono ?_); (case side1 => exact ca HR1.out); (case side2 => exact HC1.out); rintro e w10 ⟨rfl, hb⟩; refine ⟨_, rfl, ?_⟩; replace HB := bst_ HB hb; clear hb) | (go_at_call 97; (with_reducible refine (impl_rising.calls k _ _ l2 false _ ?side1 ?side2 A6.out).mono ?_); (case side1 => exact cb_ HR2 HB); (case side2 => exact HC2.out); rintro e w' ⟨rfl, ⟨nd, rfl⟩⟩))
  go_ret
  exact ⟨rt_, hB HB⟩
 subst c7
 rw [if_pos rfl] at H
 replace H := Option.bind_eq_some_iff.mp H
 obtain ⟨t210, A80, H⟩ := H
 replace H : (some t210) = some r := H
 have A8 := Aside0.mk A80
 clear A80
 obtain rfl := Option.some.inj H
 go_enter Try.func94, Try.ntmps94
 go_wp2_with (first | (refine goesL_ (some 9) rfl rfl Try.func71 (by kernel_rfl) rfl #[.int .i64 a0, .slice A1 l1.length c1] rfl tm_ ?_; (with_reducible refine (impl_GoodEdges.calls k a0 _ _ l1 true _ ?side1 ?side2 A4.out).mono ?_); (case side1 => exact ca HR1.out); (case side2 => exact HC1.out); rintro e w9 ⟨rfl, hb⟩; refine ⟨_, rfl, ?_⟩; replace HB := bst_ HB hb; clear hb) | (go_at_call 97; (with_reducible refine (impl_rising.calls k _ _ l2 true _ ?side1 ?side2 A6.out).mono ?_); (case side1 => exact cb_ HR2 HB); (case side2 => exact HC2.out); rintro e w' ⟨rfl, ⟨nd, rfl⟩⟩) | (go_at_call 98; (with_reducible refine (impl_allIn.calls k _ _ l2 0 (wrap64 ((l1.length : Int) - 1)) t210 _ ?side1 ?side2 A8.out).mono ?_); (case side1 => exact ca (Kd.C_below HR2.out (hB HB))); (case side2 => exact HC2.out); rintro e w' ⟨rfl, ⟨nd, rfl⟩⟩))
 go_ret
 exact ⟨rt_, hB HB⟩

def impl_isHost.f (a0 : Int) : Option (Bool) := (impl_in.f a0 1 99).bind fun t211 => (some t211)
set_option maxHeartbeats 8000000 in
set_option maxRecDepth 100000 in
theorem impl_isHost.calls (a0 : Int) (r : Bool) (w : World) (h : impl_isHost.f a0 = some r) :
  Calls Try.prog 95 #[.int .i64 a0] w fun e w' => e = .returned (.bool r) ∧ Drawn0 w w' := by
 have H : ((impl_in.f a0 1 99).bind fun t211 => (some t211)) = some r := h
 clear h
 replace H := Option.bind_eq_some_iff.mp H
 obtain ⟨t211, A20, H⟩ := H
 replace H : (some t211) = some r := H
 have A2 := Aside0.mk A20
 clear A20
 obtain rfl := Option.some.inj H
 go_enter Try.func95, Try.ntmps95
 go_wp2_with (first | (refine goesL_ (some 4) rfl rfl Try.func96 (by kernel_rfl) rfl #[.int .i64 a0, .int .i64 1, .int .i64 99] rfl tm_ ?_; (with_reducible refine (impl_in.calls a0 1 99 t211 _ A2.out).mono ?_); rintro e w' ⟨rfl, ⟨nd, rfl⟩⟩; refine ⟨_, rfl, ?_⟩))
 go_ret
 exact ⟨by first | rfl | (simp; done) | (simp [*]; done), by repeat (first | exact Drawn0.refl _ | apply Drawn0.step)⟩

end Go.Proofs.Ytpohlcjkabojcaa.P
