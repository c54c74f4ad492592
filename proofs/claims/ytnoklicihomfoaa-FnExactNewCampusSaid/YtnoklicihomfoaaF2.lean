import Derived.Test.YtnoklicihomfoaaF0
import Derived.Test.YtnoklicihomfoaaF1
import Derived.Test.YtnoklicihomfoaaF3
namespace Go.Proofs.Ytnoklicihomfoaa.P
open Go.RowKit Go.Proofs.YtnoklicihomfoaaW.PrintWords Go.Proofs.YtnoklicihomfoaaW.PrintLast Go.Proofs.YtnoklicihomfoaaW.PrintMore
attribute [local go_sem] max2_int min2_int max_two min_two max_three min_three max_four min_four   -- for this text's walks alone
set_option linter.unusedVariables false
set_option linter.unusedSimpArgs false

def impl_GoodEdges.l0 : Nat → Int → List (S84) → List (S84) → Int → Int → Option (Bool)
 | 0, _, _, _, _, _ => none
 | k + 1, x0, x1, x7, x8, x9 => if x9 < x8 then (if 0 ≤ x9 then (if x9 < (x7.length : Int) then ((impl_in.f ((rd_T84 x7 x9).f0) 0 (wrap64 (x0 - 1))).bind fun t147 => (if t147 = true then ((impl_in.f ((rd_T84 x7 x9).f1) 0 (wrap64 (x0 - 1))).bind fun t148 => (if t148 = true then (if ((rd_T84 x7 x9).f0) ≥ ((rd_T84 x7 x9).f1) then (some false) else ((impl_in.f ((rd_T84 x7 x9).f2) 1 100).bind fun t149 => (if t149 = true then (if x9 > 0 then (if 0 ≤ (wrap64 (x9 - 1)) then (if (wrap64 (x9 - 1)) < (x1.length : Int) then ((impl_byEnds.f ((rd_T84 x1 (wrap64 (x9 - 1))).f0) ((rd_T84 x1 (wrap64 (x9 - 1))).f1) ((rd_T84 x1 (wrap64 (x9 - 1))).f2) ((rd_T84 x7 x9).f0) ((rd_T84 x7 x9).f1) ((rd_T84 x7 x9).f2)).bind fun t151 => (if t151 ≥ 0 then (some false) else (impl_GoodEdges.l0 k x0 x1 x7 x8 (wrap64 (x9 + 1))))) else (none)) else (none)) else (impl_GoodEdges.l0 k x0 x1 x7 x8 (wrap64 (x9 + 1)))) else (some false)))) else (some false))) else (some false))) else (none)) else (none)) else ((impl_isSpots.f x0).bind fun t144 => (if t144 = true then (some (decide ((x1.length : Int) ≤ 40))) else (some false)))
def impl_GoodEdges.f (k : Nat) (a0 : Int) (l1 : List (S84)) : Option (Bool) := impl_GoodEdges.l0 k a0 l1 l1 (l1.length : Int) 0
theorem impl_GoodEdges.mono_l : ∀ k, (∀ y0 y1 y2 y3 y4, LeO (impl_GoodEdges.l0 k y0 y1 y2 y3 y4) (impl_GoodEdges.l0 (k + 1) y0 y1 y2 y3 y4))
 | 0 => fun _ _ _ _ _ r h => by simp [impl_GoodEdges.l0] at h
 | k + 1 => by
  have ih0 := impl_GoodEdges.mono_l k
  ·intro y0 y1 y2 y3 y4
   unfold impl_GoodEdges.l0
   repeat' first
   | (with_reducible exact ih0 _ _ _ _ _)
   | (with_reducible exact LeO.refl _)
   | (with_reducible exact LeO.none _)
   | (with_reducible refine LeO.ite ?_ ?_)
   | (with_reducible refine LeO.bind ?_ (fun _ => ?_))
   | exact ih0 _ _ _ _ _
   | exact LeO.none _
   | refine LeO.ite ?_ ?_
   | refine LeO.bind ?_ (fun _ => ?_)
theorem impl_GoodEdges.mono : ∀ a0 a1 k, LeO (impl_GoodEdges.f k a0 a1) (impl_GoodEdges.f (k + 1) a0 a1) := by
 intro a0 a1 k
 have ih0 := impl_GoodEdges.mono_l k
 unfold impl_GoodEdges.f
 repeat' first
   | (with_reducible exact ih0 _ _ _ _ _)
   | (with_reducible exact LeO.refl _)
   | (with_reducible exact LeO.none _)
   | (with_reducible refine LeO.ite ?_ ?_)
   | (with_reducible refine LeO.bind ?_ (fun _ => ?_))
   | exact ih0 _ _ _ _ _
   | exact LeO.none _
   | refine LeO.ite ?_ ?_
   | refine LeO.bind ?_ (fun _ => ?_)
def impl_GoodEdges.T4 : Bool × List (List Nat × List Nat) := (true, [([], []), ([0], [0]), ([], []), ([2], [2]), ([1, 3], [1, 3]), ([4], [4]), ([5, 4], [5]), ([6], [6]), ([7, 6], [6, 7]), ([6], [6]), ([9, 6], [6, 9]), ([8, 10, 6, 6], [6, 8, 10]), ([11, 6], [6, 11]), ([6, 12], [6, 12]), ([13, 11], [13]), ([14], [14]), ([15, 14], [14, 15]), ([14], [14]), ([17, 14], [14, 17]), ([16, 18, 14], [14, 16, 18]), ([14, 19], [14, 19]), ([20, 14], [20]), ([21], [21]), ([22, 21], [21, 22]), ([23, 21, 21], [21, 23]), ([24, 21], [21, 24]), ([21, 25], [21, 25]), ([26, 24], [26]), ([27], [27]), ([28, 27], [27, 28]), ([29, 27, 27], [27, 29]), ([30], [30]), ([30], [30]), ([32, 30], [30, 32]), ([31, 33, 30], [30, 31, 33]), ([34, 30], [30, 34]), ([30], [30]), ([35, 36, 30, 30], [30, 35, 36]), ([37, 30], [30, 37]), ([30, 38, 27], [27, 30, 38]), ([27, 39], [27, 39])])
def impl_GoodEdges.B4 : List Nat := [0, 1, 0, 4, 15, 31, 63, 127, 255, 127, 639, 2047, 4095, 8191, 16383, 32767, 65535, 32767, 163839, 524287, 1048575, 2097151, 4194303, 8388607, 16777215, 33554431, 67108863, 134217727, 268435455, 536870911, 1073741823, 2147483647, 2147483647, 6442450943, 17179869183, 34359738367, 2147483647, 137438953471, 274877906943, 549755813887, 1099511627775]
theorem impl_GoodEdges.tab4 : rtab .any (opsOf Try.f71 4) = impl_GoodEdges.T4 := by kernel_rfl
theorem impl_GoodEdges.bits4 : waitsOk impl_GoodEdges.T4.2 impl_GoodEdges.B4 = true := by kernel_rfl
set_option maxHeartbeats 8000000 in
set_option maxRecDepth 100000 in
theorem impl_GoodEdges.calls (k : Nat) (a0 : Int) (A1 : Option Addr) (c1 : Nat) (l1 : List (S84)) (r : Bool) (w : World) (hr1 : Kd.C k84 w A1 l1.length l1) (hc1 : l1.length ≤ c1) (h : impl_GoodEdges.f k a0 l1 = some r) :
  Calls Try.prog 71 #[.int .i64 a0, .slice A1 l1.length c1] w fun e w' => e = .returned (.bool r) ∧ Below w.heap.size w w' := by
 have hu84 := Try.underlying84
 have HR1 := Aside0.mk hr1
 have HC1 := Aside0.mk hc1
 clear hr1 hc1
 have HB := Aside0.mk (Below.refl w.heap.size w)
 have H : (impl_GoodEdges.l0 k a0 l1 l1 (l1.length : Int) 0) = some r := h
 clear h
 have H' := Aside0.mk H
 clear H
 go_enter Try.func71, Try.ntmps71
 go_wp2
 go_loopg [9] k (fun kq v9 w' => ∃ (x9_1 : Int), v9 = .int .i64 x9_1 ∧ Aside0 (impl_GoodEdges.l0 kq a0 l1 l1 (l1.length : Int) x9_1 = some r) ∧ Aside0 (kq ≤ k) ∧ Aside0 (Below w.heap.size w w'))
 case atStart => exact ⟨(0), (by first | rfl | (simp; done) | (simp [*]; done)), H', ⟨Nat.le_refl _⟩, ⟨hB HB⟩⟩
 case round =>
  clear H'
  try clear c1
  try clear p2
  obtain ⟨x9_1, rfl, HA, HK1, HB⟩ := hrel
  cases gk with
  | zero => exact absurd HA.out (by simp [impl_GoodEdges.l0])
  | succ k1 =>
   have H := HA.out
   clear HA
   simp only [impl_GoodEdges.l0] at H
   by_cases c3 : x9_1 < (l1.length : Int)
   rotate_left
   ·rw [if_neg c3] at H
    have c3b0 : decide (x9_1 < (l1.length : Int)) = false := decide_eq_false c3
    clear c3
    replace H := Option.bind_eq_some_iff.mp H
    obtain ⟨t144, A490, H⟩ := H
    replace H : (if t144 = true then (some (decide ((l1.length : Int) ≤ 40))) else (some false)) = some r := H
    have A49 := Aside0.mk A490
    clear A490
    by_cases c50 : t144 = true
    ·subst c50
     have H1 : (some (decide ((l1.length : Int) ≤ 40))) = some r := by rw [if_pos rfl] at H; exact H
     clear H
     have H := H1
     clear H1
     obtain rfl := Option.some.inj H
     go_wp2_with (first | ((with_reducible refine gate_callee (f := 121) rfl ?_); refine goesL_ (some 57) rfl rfl Try.func121 (by kernel_rfl) rfl #[.int .i64 a0] rfl tm_ ?_; (with_reducible refine (impl_isSpots.calls a0 true _ A49.out).mono ?_); rintro e w' ⟨rfl, ⟨nd, rfl⟩⟩; refine ⟨_, rfl, ?_⟩))
     go_ret
     exact ⟨by first | rfl | (simp [errW_none, errW_some] <;> rfl) | (simp [*, errW_none, errW_some] <;> rfl), by repeat (first | (with_reducible first | exact HB.out | apply below_alloc | apply pw_below_drewN | apply below_drew1) | exact HB.out)⟩
    replace c50 := Bool.eq_false_iff.mpr c50
    subst c50
    have H1 : (some false) = some r := by rw [if_neg (show ¬ (false = true) by decide)] at H; exact H
    clear H
    have H := H1
    clear H1
    obtain rfl := Option.some.inj H
    go_wp2_with (first | ((with_reducible refine gate_callee (f := 121) rfl ?_); refine goesL_ (some 57) rfl rfl Try.func121 (by kernel_rfl) rfl #[.int .i64 a0] rfl tm_ ?_; (with_reducible refine (impl_isSpots.calls a0 false _ A49.out).mono ?_); rintro e w' ⟨rfl, ⟨nd, rfl⟩⟩; refine ⟨_, rfl, ?_⟩))
    go_ret
    exact ⟨by first | rfl | (simp [errW_none, errW_some] <;> rfl) | (simp [*, errW_none, errW_some] <;> rfl), by repeat (first | (with_reducible first | exact HB.out | apply below_alloc | apply pw_below_drewN | apply below_drew1) | exact HB.out)⟩
   rw [if_pos c3] at H
   have c3b0 : decide (x9_1 < (l1.length : Int)) = true := decide_eq_true c3
   clear c3
   by_cases c4 : 0 ≤ x9_1
   rotate_left
   ·rw [if_neg c4] at H
    exact absurd H (by simp)
   rw [if_pos c4] at H
   have c4b0 : decide (0 ≤ x9_1) = true := decide_eq_true c4
   clear c4
   by_cases c5 : x9_1 < (l1.length : Int)
   rotate_left
   ·rw [if_neg c5] at H
    exact absurd H (by simp)
   rw [if_pos c5] at H
   have c5b0 : decide (x9_1 < (l1.length : Int)) = true := decide_eq_true c5
   clear c5
   replace H := Option.bind_eq_some_iff.mp H
   obtain ⟨t147, A60, H⟩ := H
   replace H : (if t147 = true then ((impl_in.f ((rd_T84 l1 x9_1).f1) 0 (wrap64 (a0 - 1))).bind fun t148 => (if t148 = true then (if ((rd_T84 l1 x9_1).f0) ≥ ((rd_T84 l1 x9_1).f1) then (some false) else ((impl_in.f ((rd_T84 l1 x9_1).f2) 1 100).bind fun t149 => (if t149 = true then (if x9_1 > 0 then (if 0 ≤ (wrap64 (x9_1 - 1)) then (if (wrap64 (x9_1 - 1)) < (l1.length : Int) then ((impl_byEnds.f ((rd_T84 l1 (wrap64 (x9_1 - 1))).f0) ((rd_T84 l1 (wrap64 (x9_1 - 1))).f1) ((rd_T84 l1 (wrap64 (x9_1 - 1))).f2) ((rd_T84 l1 x9_1).f0) ((rd_T84 l1 x9_1).f1) ((rd_T84 l1 x9_1).f2)).bind fun t151 => (if t151 ≥ 0 then (some false) else (impl_GoodEdges.l0 k1 a0 l1 l1 (l1.length : Int) (wrap64 (x9_1 + 1))))) else (none)) else (none)) else (impl_GoodEdges.l0 k1 a0 l1 l1 (l1.length : Int) (wrap64 (x9_1 + 1)))) else (some false)))) else (some false))) else (some false)) = some r := H
   have A6 := Aside0.mk A60
   clear A60
   by_cases c7 : t147 = true
   rotate_left
   ·replace c7 := Bool.eq_false_iff.mpr c7
    subst c7
    have H1 : (some false) = some r := by rw [if_neg (show ¬ (false = true) by decide)] at H; exact H
    clear H
    have H := H1
    clear H1
    obtain rfl := Option.some.inj H
    have p145 : 0 ≤ (x9_1 : Int) := of_decide_eq_true (by first | (with_reducible assumption) | assumption)
    have q145 : x9_1 < (l1.length : Int) := of_decide_eq_true (by first | (with_reducible assumption) | assumption)
    obtain ⟨ad145, e145, hx145_0, hx145_1, hx145_2⟩ := at_T84 HR1.out x9_1 p145 q145
    cases e145
    replace hx145_0 := (HB.out.cell (World.block_lt_of_cell? w _ hx145_0)).trans hx145_0
    replace hx145_1 := (HB.out.cell (World.block_lt_of_cell? w _ hx145_1)).trans hx145_1
    replace hx145_2 := (HB.out.cell (World.block_lt_of_cell? w _ hx145_2)).trans hx145_2
    replace p145 := eq_true p145
    replace q145 := eq_true q145
    try go_wp2_with (first | ((with_reducible refine gate_dst (N := 6) rfl ?_); (try (refine gate_guard (by rfl) ?_; dsimp only)); refine box_event ?hg (N := 6) ?hd (cs := #[.int .i64 0, .int .i64 0, .int .i64 0]) (t := 84) ?hr ?_; (case hd => rfl); (case hg => rfl); (case hr => first | (go_simp; done) | (go_simp; rfl)); intro gb146 hg w45 hbox hb; have BK146 := Aside0.mk (hbox); have GW146 := gw_ hg HB; have GE146 := gw_ hg HB; replace HB := bst_ HB hb; clear hb hbox hg; have hcz46_0 : w45.cell? ⟨gb146, 0, none⟩ = some (.int .i64 0) := bc_ BK146 0; have hcz46_1 : w45.cell? ⟨gb146, 1, none⟩ = some (.int .i64 0) := bc_ BK146 1; have hcz46_2 : w45.cell? ⟨gb146, 2, none⟩ = some (.int .i64 0) := bc_ BK146 2; have hfz46_0 := blk_frozen BK146.out 0; have hfz46_1 := blk_frozen BK146.out 1; have hfz46_2 := blk_frozen BK146.out 2))
    have n0_ : Aside0 ((((w45.setCell ⟨gb146, 0, none⟩ (.int .i64 ((rd_T84 l1 x9_1).f0))).setCell ⟨gb146, 1, none⟩ (.int .i64 ((rd_T84 l1 x9_1).f1))).setCell ⟨gb146, 2, none⟩ (.int .i64 ((rd_T84 l1 x9_1).f2))).heap[gb146]? = some (.cells #[.int .i64 ((rd_T84 l1 x9_1).f0), .int .i64 ((rd_T84 l1 x9_1).f1), .int .i64 ((rd_T84 l1 x9_1).f2)] 84 (0, 0))) := ⟨by (with_reducible repeat (first | refine blk_drewN ?_ _ | refine blk_drew ?_ | refine blk_alloc ?_ _)); refine blk_put (cs := #[.int .i64 ((rd_T84 l1 x9_1).f0), .int .i64 ((rd_T84 l1 x9_1).f1), .int .i64 0]) ?_ 2 _ rfl; (with_reducible repeat (first | refine blk_drewN ?_ _ | refine blk_drew ?_ | refine blk_alloc ?_ _)); refine blk_put (cs := #[.int .i64 ((rd_T84 l1 x9_1).f0), .int .i64 0, .int .i64 0]) ?_ 1 _ rfl; (with_reducible repeat (first | refine blk_drewN ?_ _ | refine blk_drew ?_ | refine blk_alloc ?_ _)); refine blk_put (cs := #[.int .i64 0, .int .i64 0, .int .i64 0]) ?_ 0 _ rfl; (with_reducible repeat (first | refine blk_drewN ?_ _ | refine blk_drew ?_ | refine blk_alloc ?_ _)); exact BK146.out⟩
    have n1_ : Aside0 (Below w.heap.size w (((w45.setCell ⟨gb146, 0, none⟩ (.int .i64 ((rd_T84 l1 x9_1).f0))).setCell ⟨gb146, 1, none⟩ (.int .i64 ((rd_T84 l1 x9_1).f1))).setCell ⟨gb146, 2, none⟩ (.int .i64 ((rd_T84 l1 x9_1).f2)))) := ⟨hB HB⟩
    (try clear BK146)
    (try clear HB)
    generalize (((w45.setCell ⟨gb146, 0, none⟩ (.int .i64 ((rd_T84 l1 x9_1).f0))).setCell ⟨gb146, 1, none⟩ (.int .i64 ((rd_T84 l1 x9_1).f1))).setCell ⟨gb146, 2, none⟩ (.int .i64 ((rd_T84 l1 x9_1).f2))) = w47 at n0_ n1_ ⊢
    have BK146 := n0_
    have HB := n1_
    clear n0_ n1_
    replace BK146 := bd_ BK146
    replace HB := Aside0.mk (below_drew1 HB.out)
    refine start_ (n := 41) (S := fun w' => w'.cell? ⟨gb146, 0, none⟩ = some (.int .i64 ((rd_T84 l1 x9_1).f0)) ∧ w'.cell? ⟨gb146, 1, none⟩ = some (.int .i64 ((rd_T84 l1 x9_1).f1)) ∧ w'.cell? ⟨gb146, 2, none⟩ = some (.int .i64 ((rd_T84 l1 x9_1).f2))) (ds := []) (bs 41 0) (by kernel_rfl) rfl rfl ⟨bc_ BK146 0, bc_ BK146 1, bc_ BK146 2⟩ (fun hHeld => ?_); refine with_tabW impl_GoodEdges.tab4 impl_GoodEdges.bits4 (fun HT_ HW_ => ?_)
    generalize w47.drew = w48 at BK146 HB hHeld ⊢
    refine pu_ 0 14 (bs 41 1) HT_ ?_
    refine pu_ 2 16 (bs 41 5) HT_ ?_
    refine pu_ 3 17 (bs 41 13) HT_ ?_
    refine tk_ 1 15 (bs 41 15) HT_ HW_ hHeld ?_
    refine one_ (i := 4) (N := some 18) (bs 41 31) rfl rfl (one_of HT_.out (by kernel_rfl)) (by decide) (fun K hK => ?_)
    refine goes_ Try.func101 (by kernel_rfl) rfl #[.int .i64 ((rd_T84 l1 x9_1).f0), .int .i64 0, .int .i64 (wrap64 (a0 - 1))] (by rfl) rfl rfl tm_ ?_
    with_reducible refine (impl_in.calls ((rd_T84 l1 x9_1).f0) 0 (wrap64 (a0 - 1)) false _ A6.out).mono ?_
    rintro e w' ⟨rfl, ⟨nd, rfl⟩⟩
    refine ⟨_, rfl, ?_⟩
    refine hK.out _ _ ⟨bc_ BK146 0, bc_ BK146 1, bc_ BK146 2⟩ (fun hHeld => ?_)
    clear hK K
    refine nm_ 18 ?_
    refine pu_ 5 19 (bs 41 63) HT_ ?_
    refine pu_ 6 20 (bs 41 127) HT_ ?_
    refine pn_ 7 21 (bs 41 255) HT_ ?_
    refine pn_ 8 22 (bs 41 511) HT_ ?_
    refine pn_ 9 23 (bs 41 1023) HT_ ?_
    refine pn_ 10 24 (bs 41 2047) HT_ ?_
    refine pn_ 11 25 (bs 41 4095) HT_ ?_
    refine pn_ 12 26 (bs 41 8191) HT_ ?_
    refine pu_ 13 27 (bs 41 16383) HT_ ?_
    refine pu_ 14 28 (bs 41 32767) HT_ ?_
    refine pn_ 15 29 (bs 41 65535) HT_ ?_
    refine pn_ 16 30 (bs 41 131071) HT_ ?_
    refine pn_ 17 31 (bs 41 262143) HT_ ?_
    refine pn_ 18 32 (bs 41 524287) HT_ ?_
    refine pn_ 19 33 (bs 41 1048575) HT_ ?_
    refine pu_ 20 34 (bs 41 2097151) HT_ ?_
    refine pu_ 21 35 (bs 41 4194303) HT_ ?_
    refine pn_ 22 36 (bs 41 8388607) HT_ ?_
    refine pn_ 23 37 (bs 41 16777215) HT_ ?_
    refine pn_ 24 38 (bs 41 33554431) HT_ ?_
    refine pn_ 25 39 (bs 41 67108863) HT_ ?_
    refine pu_ 26 40 (bs 41 134217727) HT_ ?_
    refine pu_ 27 41 (bs 41 268435455) HT_ ?_
    refine pn_ 28 42 (bs 41 536870911) HT_ ?_
    refine pn_ 29 43 (bs 41 1073741823) HT_ ?_
    refine pn_ 30 44 (bs 41 2147483647) HT_ ?_
    refine pn_ 31 45 (bs 41 4294967295) HT_ ?_
    refine pn_ 32 46 (bs 41 8589934591) HT_ ?_
    refine pn_ 33 47 (bs 41 17179869183) HT_ ?_
    refine pn_ 34 48 (bs 41 34359738367) HT_ ?_
    refine pn_ 35 49 (bs 41 68719476735) HT_ ?_
    refine pn_ 36 50 (bs 41 137438953471) HT_ ?_
    refine pn_ 37 51 (bs 41 274877906943) HT_ ?_
    refine pn_ 38 52 (bs 41 549755813887) HT_ ?_
    refine pn_ 39 53 (bs 41 1099511627775) HT_ ?_
    refine pu_ 40 54 (bs 41 2199023255551) HT_ ?_
    refine done_ (done_of HT_.out (by kernel_rfl)) ?_
    try go_wp2
    go_ret
    exact ⟨by first | rfl | (simp [errW_none, errW_some] <;> rfl) | (simp [*, errW_none, errW_some] <;> rfl), by repeat (first | (with_reducible first | exact HB.out | apply below_alloc | apply pw_below_drewN | apply below_drew1 | refine below_set ?_ GE146.out) | exact HB.out)⟩
   subst c7
   have H1 : ((impl_in.f ((rd_T84 l1 x9_1).f1) 0 (wrap64 (a0 - 1))).bind fun t148 => (if t148 = true then (if ((rd_T84 l1 x9_1).f0) ≥ ((rd_T84 l1 x9_1).f1) then (some false) else ((impl_in.f ((rd_T84 l1 x9_1).f2) 1 100).bind fun t149 => (if t149 = true then (if x9_1 > 0 then (if 0 ≤ (wrap64 (x9_1 - 1)) then (if (wrap64 (x9_1 - 1)) < (l1.length : Int) then ((impl_byEnds.f ((rd_T84 l1 (wrap64 (x9_1 - 1))).f0) ((rd_T84 l1 (wrap64 (x9_1 - 1))).f1) ((rd_T84 l1 (wrap64 (x9_1 - 1))).f2) ((rd_T84 l1 x9_1).f0) ((rd_T84 l1 x9_1).f1) ((rd_T84 l1 x9_1).f2)).bind fun t151 => (if t151 ≥ 0 then (some false) else (impl_GoodEdges.l0 k1 a0 l1 l1 (l1.length : Int) (wrap64 (x9_1 + 1))))) else (none)) else (none)) else (impl_GoodEdges.l0 k1 a0 l1 l1 (l1.length : Int) (wrap64 (x9_1 + 1)))) else (some false)))) else (some false))) = some r := by rw [if_pos rfl] at H; exact H
   clear H
   have H := H1
   clear H1
   replace H := Option.bind_eq_some_iff.mp H
   obtain ⟨t148, A80, H⟩ := H
   replace H : (if t148 = true then (if ((rd_T84 l1 x9_1).f0) ≥ ((rd_T84 l1 x9_1).f1) then (some false) else ((impl_in.f ((rd_T84 l1 x9_1).f2) 1 100).bind fun t149 => (if t149 = true then (if x9_1 > 0 then (if 0 ≤ (wrap64 (x9_1 - 1)) then (if (wrap64 (x9_1 - 1)) < (l1.length : Int) then ((impl_byEnds.f ((rd_T84 l1 (wrap64 (x9_1 - 1))).f0) ((rd_T84 l1 (wrap64 (x9_1 - 1))).f1) ((rd_T84 l1 (wrap64 (x9_1 - 1))).f2) ((rd_T84 l1 x9_1).f0) ((rd_T84 l1 x9_1).f1) ((rd_T84 l1 x9_1).f2)).bind fun t151 => (if t151 ≥ 0 then (some false) else (impl_GoodEdges.l0 k1 a0 l1 l1 (l1.length : Int) (wrap64 (x9_1 + 1))))) else (none)) else (none)) else (impl_GoodEdges.l0 k1 a0 l1 l1 (l1.length : Int) (wrap64 (x9_1 + 1)))) else (some false)))) else (some false)) = some r := H
   have A8 := Aside0.mk A80
   clear A80
   by_cases c9 : t148 = true
   rotate_left
   ·replace c9 := Bool.eq_false_iff.mpr c9
    subst c9
    have H1 : (some false) = some r := by rw [if_neg (show ¬ (false = true) by decide)] at H; exact H
    clear H
    have H := H1
    clear H1
    obtain rfl := Option.some.inj H
    have p145 : 0 ≤ (x9_1 : Int) := of_decide_eq_true (by first | (with_reducible assumption) | assumption)
    have q145 : x9_1 < (l1.length : Int) := of_decide_eq_true (by first | (with_reducible assumption) | assumption)
    obtain ⟨ad145, e145, hx145_0, hx145_1, hx145_2⟩ := at_T84 HR1.out x9_1 p145 q145
    cases e145
    replace hx145_0 := (HB.out.cell (World.block_lt_of_cell? w _ hx145_0)).trans hx145_0
    replace hx145_1 := (HB.out.cell (World.block_lt_of_cell? w _ hx145_1)).trans hx145_1
    replace hx145_2 := (HB.out.cell (World.block_lt_of_cell? w _ hx145_2)).trans hx145_2
    replace p145 := eq_true p145
    replace q145 := eq_true q145
    try go_wp2_with (first | ((with_reducible refine gate_dst (N := 6) rfl ?_); (try (refine gate_guard (by rfl) ?_; dsimp only)); refine box_event ?hg (N := 6) ?hd (cs := #[.int .i64 0, .int .i64 0, .int .i64 0]) (t := 84) ?hr ?_; (case hd => rfl); (case hg => rfl); (case hr => first | (go_simp; done) | (go_simp; rfl)); intro gb146 hg w41 hbox hb; have BK146 := Aside0.mk (hbox); have GW146 := gw_ hg HB; have GE146 := gw_ hg HB; replace HB := bst_ HB hb; clear hb hbox hg; have hcz42_0 : w41.cell? ⟨gb146, 0, none⟩ = some (.int .i64 0) := bc_ BK146 0; have hcz42_1 : w41.cell? ⟨gb146, 1, none⟩ = some (.int .i64 0) := bc_ BK146 1; have hcz42_2 : w41.cell? ⟨gb146, 2, none⟩ = some (.int .i64 0) := bc_ BK146 2; have hfz42_0 := blk_frozen BK146.out 0; have hfz42_1 := blk_frozen BK146.out 1; have hfz42_2 := blk_frozen BK146.out 2))
    have n0_ : Aside0 ((((w41.setCell ⟨gb146, 0, none⟩ (.int .i64 ((rd_T84 l1 x9_1).f0))).setCell ⟨gb146, 1, none⟩ (.int .i64 ((rd_T84 l1 x9_1).f1))).setCell ⟨gb146, 2, none⟩ (.int .i64 ((rd_T84 l1 x9_1).f2))).heap[gb146]? = some (.cells #[.int .i64 ((rd_T84 l1 x9_1).f0), .int .i64 ((rd_T84 l1 x9_1).f1), .int .i64 ((rd_T84 l1 x9_1).f2)] 84 (0, 0))) := ⟨by (with_reducible repeat (first | refine blk_drewN ?_ _ | refine blk_drew ?_ | refine blk_alloc ?_ _)); refine blk_put (cs := #[.int .i64 ((rd_T84 l1 x9_1).f0), .int .i64 ((rd_T84 l1 x9_1).f1), .int .i64 0]) ?_ 2 _ rfl; (with_reducible repeat (first | refine blk_drewN ?_ _ | refine blk_drew ?_ | refine blk_alloc ?_ _)); refine blk_put (cs := #[.int .i64 ((rd_T84 l1 x9_1).f0), .int .i64 0, .int .i64 0]) ?_ 1 _ rfl; (with_reducible repeat (first | refine blk_drewN ?_ _ | refine blk_drew ?_ | refine blk_alloc ?_ _)); refine blk_put (cs := #[.int .i64 0, .int .i64 0, .int .i64 0]) ?_ 0 _ rfl; (with_reducible repeat (first | refine blk_drewN ?_ _ | refine blk_drew ?_ | refine blk_alloc ?_ _)); exact BK146.out⟩
    have n1_ : Aside0 (Below w.heap.size w (((w41.setCell ⟨gb146, 0, none⟩ (.int .i64 ((rd_T84 l1 x9_1).f0))).setCell ⟨gb146, 1, none⟩ (.int .i64 ((rd_T84 l1 x9_1).f1))).setCell ⟨gb146, 2, none⟩ (.int .i64 ((rd_T84 l1 x9_1).f2)))) := ⟨hB HB⟩
    (try clear BK146)
    (try clear HB)
    generalize (((w41.setCell ⟨gb146, 0, none⟩ (.int .i64 ((rd_T84 l1 x9_1).f0))).setCell ⟨gb146, 1, none⟩ (.int .i64 ((rd_T84 l1 x9_1).f1))).setCell ⟨gb146, 2, none⟩ (.int .i64 ((rd_T84 l1 x9_1).f2))) = w43 at n0_ n1_ ⊢
    have BK146 := n0_
    have HB := n1_
    clear n0_ n1_
    replace BK146 := bd_ BK146
    replace HB := Aside0.mk (below_drew1 HB.out)
    refine start_ (n := 41) (S := fun w' => w'.cell? ⟨gb146, 0, none⟩ = some (.int .i64 ((rd_T84 l1 x9_1).f0)) ∧ w'.cell? ⟨gb146, 1, none⟩ = some (.int .i64 ((rd_T84 l1 x9_1).f1)) ∧ w'.cell? ⟨gb146, 2, none⟩ = some (.int .i64 ((rd_T84 l1 x9_1).f2))) (ds := []) (bs 41 0) (by kernel_rfl) rfl rfl ⟨bc_ BK146 0, bc_ BK146 1, bc_ BK146 2⟩ (fun hHeld => ?_); refine with_tabW impl_GoodEdges.tab4 impl_GoodEdges.bits4 (fun HT_ HW_ => ?_)
    generalize w43.drew = w44 at BK146 HB hHeld ⊢
    refine pu_ 0 14 (bs 41 1) HT_ ?_
    refine pu_ 2 16 (bs 41 5) HT_ ?_
    refine pu_ 3 17 (bs 41 13) HT_ ?_
    refine tk_ 1 15 (bs 41 15) HT_ HW_ hHeld ?_
    refine one_ (i := 4) (N := some 18) (bs 41 31) rfl rfl (one_of HT_.out (by kernel_rfl)) (by decide) (fun K hK => ?_)
    refine goes_ Try.func101 (by kernel_rfl) rfl #[.int .i64 ((rd_T84 l1 x9_1).f0), .int .i64 0, .int .i64 (wrap64 (a0 - 1))] (by rfl) rfl rfl tm_ ?_
    with_reducible refine (impl_in.calls ((rd_T84 l1 x9_1).f0) 0 (wrap64 (a0 - 1)) true _ A6.out).mono ?_
    rintro e w' ⟨rfl, ⟨nd, rfl⟩⟩
    refine ⟨_, rfl, ?_⟩
    refine hK.out _ _ ⟨bc_ BK146 0, bc_ BK146 1, bc_ BK146 2⟩ (fun hHeld => ?_)
    clear hK K
    refine nm_ 18 ?_
    refine pu_ 5 19 (bs 41 63) HT_ ?_
    refine pu_ 6 20 (bs 41 127) HT_ ?_
    refine pu_ 7 21 (bs 41 255) HT_ ?_
    refine pu_ 9 23 (bs 41 767) HT_ ?_
    refine pu_ 10 24 (bs 41 1791) HT_ ?_
    refine tk_ 8 22 (bs 41 2047) HT_ HW_ hHeld ?_
    refine one_ (i := 11) (N := some 25) (bs 41 4095) rfl rfl (one_of HT_.out (by kernel_rfl)) (by decide) (fun K hK => ?_)
    refine goes_ Try.func101 (by kernel_rfl) rfl #[.int .i64 ((rd_T84 l1 x9_1).f1), .int .i64 0, .int .i64 (wrap64 (a0 - 1))] (by rfl) rfl rfl tm_ ?_
    with_reducible refine (impl_in.calls ((rd_T84 l1 x9_1).f1) 0 (wrap64 (a0 - 1)) false _ A8.out).mono ?_
    rintro e w' ⟨rfl, ⟨nd, rfl⟩⟩
    refine ⟨_, rfl, ?_⟩
    refine hK.out _ _ ⟨bc_ BK146 0, bc_ BK146 1, bc_ BK146 2⟩ (fun hHeld => ?_)
    clear hK K
    refine nm_ 25 ?_
    refine pu_ 12 26 (bs 41 8191) HT_ ?_
    refine pu_ 13 27 (bs 41 16383) HT_ ?_
    refine pu_ 14 28 (bs 41 32767) HT_ ?_
    refine pn_ 15 29 (bs 41 65535) HT_ ?_
    refine pn_ 16 30 (bs 41 131071) HT_ ?_
    refine pn_ 17 31 (bs 41 262143) HT_ ?_
    refine pn_ 18 32 (bs 41 524287) HT_ ?_
    refine pn_ 19 33 (bs 41 1048575) HT_ ?_
    refine pu_ 20 34 (bs 41 2097151) HT_ ?_
    refine pu_ 21 35 (bs 41 4194303) HT_ ?_
    refine pn_ 22 36 (bs 41 8388607) HT_ ?_
    refine pn_ 23 37 (bs 41 16777215) HT_ ?_
    refine pn_ 24 38 (bs 41 33554431) HT_ ?_
    refine pn_ 25 39 (bs 41 67108863) HT_ ?_
    refine pu_ 26 40 (bs 41 134217727) HT_ ?_
    refine pu_ 27 41 (bs 41 268435455) HT_ ?_
    refine pn_ 28 42 (bs 41 536870911) HT_ ?_
    refine pn_ 29 43 (bs 41 1073741823) HT_ ?_
    refine pn_ 30 44 (bs 41 2147483647) HT_ ?_
    refine pn_ 31 45 (bs 41 4294967295) HT_ ?_
    refine pn_ 32 46 (bs 41 8589934591) HT_ ?_
    refine pn_ 33 47 (bs 41 17179869183) HT_ ?_
    refine pn_ 34 48 (bs 41 34359738367) HT_ ?_
    refine pn_ 35 49 (bs 41 68719476735) HT_ ?_
    refine pn_ 36 50 (bs 41 137438953471) HT_ ?_
    refine pn_ 37 51 (bs 41 274877906943) HT_ ?_
    refine pn_ 38 52 (bs 41 549755813887) HT_ ?_
    refine pn_ 39 53 (bs 41 1099511627775) HT_ ?_
    refine pu_ 40 54 (bs 41 2199023255551) HT_ ?_
    refine done_ (done_of HT_.out (by kernel_rfl)) ?_
    try go_wp2
    go_ret
    exact ⟨by first | rfl | (simp [errW_none, errW_some] <;> rfl) | (simp [*, errW_none, errW_some] <;> rfl), by repeat (first | (with_reducible first | exact HB.out | apply below_alloc | apply pw_below_drewN | apply below_drew1 | refine below_set ?_ GE146.out) | exact HB.out)⟩
   subst c9
   have H1 : (if ((rd_T84 l1 x9_1).f0) ≥ ((rd_T84 l1 x9_1).f1) then (some false) else ((impl_in.f ((rd_T84 l1 x9_1).f2) 1 100).bind fun t149 => (if t149 = true then (if x9_1 > 0 then (if 0 ≤ (wrap64 (x9_1 - 1)) then (if (wrap64 (x9_1 - 1)) < (l1.length : Int) then ((impl_byEnds.f ((rd_T84 l1 (wrap64 (x9_1 - 1))).f0) ((rd_T84 l1 (wrap64 (x9_1 - 1))).f1) ((rd_T84 l1 (wrap64 (x9_1 - 1))).f2) ((rd_T84 l1 x9_1).f0) ((rd_T84 l1 x9_1).f1) ((rd_T84 l1 x9_1).f2)).bind fun t151 => (if t151 ≥ 0 then (some false) else (impl_GoodEdges.l0 k1 a0 l1 l1 (l1.length : Int) (wrap64 (x9_1 + 1))))) else (none)) else (none)) else (impl_GoodEdges.l0 k1 a0 l1 l1 (l1.length : Int) (wrap64 (x9_1 + 1)))) else (some false)))) = some r := by rw [if_pos rfl] at H; exact H
   clear H
   have H := H1
   clear H1
   by_cases c10 : ((rd_T84 l1 x9_1).f0) ≥ ((rd_T84 l1 x9_1).f1)
   ·rw [if_pos c10] at H
    have c10b0 : decide (((rd_T84 l1 x9_1).f1) ≤ ((rd_T84 l1 x9_1).f0)) = true := decide_eq_true c10
    clear c10
    obtain rfl := Option.some.inj H
    have p145 : 0 ≤ (x9_1 : Int) := of_decide_eq_true (by first | (with_reducible assumption) | assumption)
    have q145 : x9_1 < (l1.length : Int) := of_decide_eq_true (by first | (with_reducible assumption) | assumption)
    obtain ⟨ad145, e145, hx145_0, hx145_1, hx145_2⟩ := at_T84 HR1.out x9_1 p145 q145
    cases e145
    replace hx145_0 := (HB.out.cell (World.block_lt_of_cell? w _ hx145_0)).trans hx145_0
    replace hx145_1 := (HB.out.cell (World.block_lt_of_cell? w _ hx145_1)).trans hx145_1
    replace hx145_2 := (HB.out.cell (World.block_lt_of_cell? w _ hx145_2)).trans hx145_2
    replace p145 := eq_true p145
    replace q145 := eq_true q145
    try go_wp2_with (first | ((with_reducible refine gate_dst (N := 6) rfl ?_); (try (refine gate_guard (by rfl) ?_; dsimp only)); refine box_event ?hg (N := 6) ?hd (cs := #[.int .i64 0, .int .i64 0, .int .i64 0]) (t := 84) ?hr ?_; (case hd => rfl); (case hg => rfl); (case hr => first | (go_simp; done) | (go_simp; rfl)); intro gb146 hg w11 hbox hb; have BK146 := Aside0.mk (hbox); have GW146 := gw_ hg HB; have GE146 := gw_ hg HB; replace HB := bst_ HB hb; clear hb hbox hg; have hcz12_0 : w11.cell? ⟨gb146, 0, none⟩ = some (.int .i64 0) := bc_ BK146 0; have hcz12_1 : w11.cell? ⟨gb146, 1, none⟩ = some (.int .i64 0) := bc_ BK146 1; have hcz12_2 : w11.cell? ⟨gb146, 2, none⟩ = some (.int .i64 0) := bc_ BK146 2; have hfz12_0 := blk_frozen BK146.out 0; have hfz12_1 := blk_frozen BK146.out 1; have hfz12_2 := blk_frozen BK146.out 2))
    have n0_ : Aside0 ((((w11.setCell ⟨gb146, 0, none⟩ (.int .i64 ((rd_T84 l1 x9_1).f0))).setCell ⟨gb146, 1, none⟩ (.int .i64 ((rd_T84 l1 x9_1).f1))).setCell ⟨gb146, 2, none⟩ (.int .i64 ((rd_T84 l1 x9_1).f2))).heap[gb146]? = some (.cells #[.int .i64 ((rd_T84 l1 x9_1).f0), .int .i64 ((rd_T84 l1 x9_1).f1), .int .i64 ((rd_T84 l1 x9_1).f2)] 84 (0, 0))) := ⟨by (with_reducible repeat (first | refine blk_drewN ?_ _ | refine blk_drew ?_ | refine blk_alloc ?_ _)); refine blk_put (cs := #[.int .i64 ((rd_T84 l1 x9_1).f0), .int .i64 ((rd_T84 l1 x9_1).f1), .int .i64 0]) ?_ 2 _ rfl; (with_reducible repeat (first | refine blk_drewN ?_ _ | refine blk_drew ?_ | refine blk_alloc ?_ _)); refine blk_put (cs := #[.int .i64 ((rd_T84 l1 x9_1).f0), .int .i64 0, .int .i64 0]) ?_ 1 _ rfl; (with_reducible repeat (first | refine blk_drewN ?_ _ | refine blk_drew ?_ | refine blk_alloc ?_ _)); refine blk_put (cs := #[.int .i64 0, .int .i64 0, .int .i64 0]) ?_ 0 _ rfl; (with_reducible repeat (first | refine blk_drewN ?_ _ | refine blk_drew ?_ | refine blk_alloc ?_ _)); exact BK146.out⟩
    have n1_ : Aside0 (Below w.heap.size w (((w11.setCell ⟨gb146, 0, none⟩ (.int .i64 ((rd_T84 l1 x9_1).f0))).setCell ⟨gb146, 1, none⟩ (.int .i64 ((rd_T84 l1 x9_1).f1))).setCell ⟨gb146, 2, none⟩ (.int .i64 ((rd_T84 l1 x9_1).f2)))) := ⟨hB HB⟩
    (try clear BK146)
    (try clear HB)
    generalize (((w11.setCell ⟨gb146, 0, none⟩ (.int .i64 ((rd_T84 l1 x9_1).f0))).setCell ⟨gb146, 1, none⟩ (.int .i64 ((rd_T84 l1 x9_1).f1))).setCell ⟨gb146, 2, none⟩ (.int .i64 ((rd_T84 l1 x9_1).f2))) = w13 at n0_ n1_ ⊢
    have BK146 := n0_
    have HB := n1_
    clear n0_ n1_
    replace BK146 := bd_ BK146
    replace HB := Aside0.mk (below_drew1 HB.out)
    refine start_ (n := 41) (S := fun w' => w'.cell? ⟨gb146, 0, none⟩ = some (.int .i64 ((rd_T84 l1 x9_1).f0)) ∧ w'.cell? ⟨gb146, 1, none⟩ = some (.int .i64 ((rd_T84 l1 x9_1).f1)) ∧ w'.cell? ⟨gb146, 2, none⟩ = some (.int .i64 ((rd_T84 l1 x9_1).f2))) (ds := []) (bs 41 0) (by kernel_rfl) rfl rfl ⟨bc_ BK146 0, bc_ BK146 1, bc_ BK146 2⟩ (fun hHeld => ?_); refine with_tabW impl_GoodEdges.tab4 impl_GoodEdges.bits4 (fun HT_ HW_ => ?_)
    generalize w13.drew = w14 at BK146 HB hHeld ⊢
    refine pu_ 0 14 (bs 41 1) HT_ ?_
    refine pu_ 2 16 (bs 41 5) HT_ ?_
    refine pu_ 3 17 (bs 41 13) HT_ ?_
    refine tk_ 1 15 (bs 41 15) HT_ HW_ hHeld ?_
    refine one_ (i := 4) (N := some 18) (bs 41 31) rfl rfl (one_of HT_.out (by kernel_rfl)) (by decide) (fun K hK => ?_)
    refine goes_ Try.func101 (by kernel_rfl) rfl #[.int .i64 ((rd_T84 l1 x9_1).f0), .int .i64 0, .int .i64 (wrap64 (a0 - 1))] (by rfl) rfl rfl tm_ ?_
    with_reducible refine (impl_in.calls ((rd_T84 l1 x9_1).f0) 0 (wrap64 (a0 - 1)) true _ A6.out).mono ?_
    rintro e w' ⟨rfl, ⟨nd, rfl⟩⟩
    refine ⟨_, rfl, ?_⟩
    refine hK.out _ _ ⟨bc_ BK146 0, bc_ BK146 1, bc_ BK146 2⟩ (fun hHeld => ?_)
    clear hK K
    refine nm_ 18 ?_
    refine pu_ 5 19 (bs 41 63) HT_ ?_
    refine pu_ 6 20 (bs 41 127) HT_ ?_
    refine pu_ 7 21 (bs 41 255) HT_ ?_
    refine pu_ 9 23 (bs 41 767) HT_ ?_
    refine pu_ 10 24 (bs 41 1791) HT_ ?_
    refine tk_ 8 22 (bs 41 2047) HT_ HW_ hHeld ?_
    refine one_ (i := 11) (N := some 25) (bs 41 4095) rfl rfl (one_of HT_.out (by kernel_rfl)) (by decide) (fun K hK => ?_)
    refine goes_ Try.func101 (by kernel_rfl) rfl #[.int .i64 ((rd_T84 l1 x9_1).f1), .int .i64 0, .int .i64 (wrap64 (a0 - 1))] (by rfl) rfl rfl tm_ ?_
    with_reducible refine (impl_in.calls ((rd_T84 l1 x9_1).f1) 0 (wrap64 (a0 - 1)) true _ A8.out).mono ?_
    rintro e w' ⟨rfl, ⟨nd, rfl⟩⟩
    refine ⟨_, rfl, ?_⟩
    refine hK.out _ _ ⟨bc_ BK146 0, bc_ BK146 1, bc_ BK146 2⟩ (fun hHeld => ?_)
    clear hK K
    refine nm_ 25 ?_
    refine pu_ 12 26 (bs 41 8191) HT_ ?_
    refine pu_ 13 27 (bs 41 16383) HT_ ?_
    refine pu_ 14 28 (bs 41 32767) HT_ ?_
    refine pu_ 15 29 (bs 41 65535) HT_ ?_
    refine pu_ 17 31 (bs 41 196607) HT_ ?_
    refine tk_ 16 30 (bs 41 262143) HT_ HW_ hHeld ?_
    refine tk_ 18 32 (bs 41 524287) HT_ HW_ hHeld ?_
    refine pu_ 19 33 (bs 41 1048575) HT_ ?_
    refine pu_ 20 34 (bs 41 2097151) HT_ ?_
    refine pu_ 21 35 (bs 41 4194303) HT_ ?_
    refine pn_ 22 36 (bs 41 8388607) HT_ ?_
    refine pn_ 23 37 (bs 41 16777215) HT_ ?_
    refine pn_ 24 38 (bs 41 33554431) HT_ ?_
    refine pn_ 25 39 (bs 41 67108863) HT_ ?_
    refine pu_ 26 40 (bs 41 134217727) HT_ ?_
    refine pu_ 27 41 (bs 41 268435455) HT_ ?_
    refine pn_ 28 42 (bs 41 536870911) HT_ ?_
    refine pn_ 29 43 (bs 41 1073741823) HT_ ?_
    refine pn_ 30 44 (bs 41 2147483647) HT_ ?_
    refine pn_ 31 45 (bs 41 4294967295) HT_ ?_
    refine pn_ 32 46 (bs 41 8589934591) HT_ ?_
    refine pn_ 33 47 (bs 41 17179869183) HT_ ?_
    refine pn_ 34 48 (bs 41 34359738367) HT_ ?_
    refine pn_ 35 49 (bs 41 68719476735) HT_ ?_
    refine pn_ 36 50 (bs 41 137438953471) HT_ ?_
    refine pn_ 37 51 (bs 41 274877906943) HT_ ?_
    refine pn_ 38 52 (bs 41 549755813887) HT_ ?_
    refine pn_ 39 53 (bs 41 1099511627775) HT_ ?_
    refine pu_ 40 54 (bs 41 2199023255551) HT_ ?_
    refine done_ (done_of HT_.out (by kernel_rfl)) ?_
    try go_wp2
    go_ret
    exact ⟨by first | rfl | (simp [errW_none, errW_some] <;> rfl) | (simp [*, errW_none, errW_some] <;> rfl), by repeat (first | (with_reducible first | exact HB.out | apply below_alloc | apply pw_below_drewN | apply below_drew1 | refine below_set ?_ GE146.out) | exact HB.out)⟩
   rw [if_neg c10] at H
   have c10b0 : decide (((rd_T84 l1 x9_1).f1) ≤ ((rd_T84 l1 x9_1).f0)) = false := decide_eq_false c10
   clear c10
   replace H := Option.bind_eq_some_iff.mp H
   obtain ⟨t149, A150, H⟩ := H
   replace H : (if t149 = true then (if x9_1 > 0 then (if 0 ≤ (wrap64 (x9_1 - 1)) then (if (wrap64 (x9_1 - 1)) < (l1.length : Int) then ((impl_byEnds.f ((rd_T84 l1 (wrap64 (x9_1 - 1))).f0) ((rd_T84 l1 (wrap64 (x9_1 - 1))).f1) ((rd_T84 l1 (wrap64 (x9_1 - 1))).f2) ((rd_T84 l1 x9_1).f0) ((rd_T84 l1 x9_1).f1) ((rd_T84 l1 x9_1).f2)).bind fun t151 => (if t151 ≥ 0 then (some false) else (impl_GoodEdges.l0 k1 a0 l1 l1 (l1.length : Int) (wrap64 (x9_1 + 1))))) else (none)) else (none)) else (impl_GoodEdges.l0 k1 a0 l1 l1 (l1.length : Int) (wrap64 (x9_1 + 1)))) else (some false)) = some r := H
   have A15 := Aside0.mk A150
   clear A150
   by_cases c16 : t149 = true
   rotate_left
   ·replace c16 := Bool.eq_false_iff.mpr c16
    subst c16
    have H1 : (some false) = some r := by rw [if_neg (show ¬ (false = true) by decide)] at H; exact H
    clear H
    have H := H1
    clear H1
    obtain rfl := Option.some.inj H
    have p145 : 0 ≤ (x9_1 : Int) := of_decide_eq_true (by first | (with_reducible assumption) | assumption)
    have q145 : x9_1 < (l1.length : Int) := of_decide_eq_true (by first | (with_reducible assumption) | assumption)
    obtain ⟨ad145, e145, hx145_0, hx145_1, hx145_2⟩ := at_T84 HR1.out x9_1 p145 q145
    cases e145
    replace hx145_0 := (HB.out.cell (World.block_lt_of_cell? w _ hx145_0)).trans hx145_0
    replace hx145_1 := (HB.out.cell (World.block_lt_of_cell? w _ hx145_1)).trans hx145_1
    replace hx145_2 := (HB.out.cell (World.block_lt_of_cell? w _ hx145_2)).trans hx145_2
    replace p145 := eq_true p145
    replace q145 := eq_true q145
    try go_wp2_with (first | ((with_reducible refine gate_dst (N := 6) rfl ?_); (try (refine gate_guard (by rfl) ?_; dsimp only)); refine box_event ?hg (N := 6) ?hd (cs := #[.int .i64 0, .int .i64 0, .int .i64 0]) (t := 84) ?hr ?_; (case hd => rfl); (case hg => rfl); (case hr => first | (go_simp; done) | (go_simp; rfl)); intro gb146 hg w37 hbox hb; have BK146 := Aside0.mk (hbox); have GW146 := gw_ hg HB; have GE146 := gw_ hg HB; replace HB := bst_ HB hb; clear hb hbox hg; have hcz38_0 : w37.cell? ⟨gb146, 0, none⟩ = some (.int .i64 0) := bc_ BK146 0; have hcz38_1 : w37.cell? ⟨gb146, 1, none⟩ = some (.int .i64 0) := bc_ BK146 1; have hcz38_2 : w37.cell? ⟨gb146, 2, none⟩ = some (.int .i64 0) := bc_ BK146 2; have hfz38_0 := blk_frozen BK146.out 0; have hfz38_1 := blk_frozen BK146.out 1; have hfz38_2 := blk_frozen BK146.out 2))
    have n0_ : Aside0 ((((w37.setCell ⟨gb146, 0, none⟩ (.int .i64 ((rd_T84 l1 x9_1).f0))).setCell ⟨gb146, 1, none⟩ (.int .i64 ((rd_T84 l1 x9_1).f1))).setCell ⟨gb146, 2, none⟩ (.int .i64 ((rd_T84 l1 x9_1).f2))).heap[gb146]? = some (.cells #[.int .i64 ((rd_T84 l1 x9_1).f0), .int .i64 ((rd_T84 l1 x9_1).f1), .int .i64 ((rd_T84 l1 x9_1).f2)] 84 (0, 0))) := ⟨by (with_reducible repeat (first | refine blk_drewN ?_ _ | refine blk_drew ?_ | refine blk_alloc ?_ _)); refine blk_put (cs := #[.int .i64 ((rd_T84 l1 x9_1).f0), .int .i64 ((rd_T84 l1 x9_1).f1), .int .i64 0]) ?_ 2 _ rfl; (with_reducible repeat (first | refine blk_drewN ?_ _ | refine blk_drew ?_ | refine blk_alloc ?_ _)); refine blk_put (cs := #[.int .i64 ((rd_T84 l1 x9_1).f0), .int .i64 0, .int .i64 0]) ?_ 1 _ rfl; (with_reducible repeat (first | refine blk_drewN ?_ _ | refine blk_drew ?_ | refine blk_alloc ?_ _)); refine blk_put (cs := #[.int .i64 0, .int .i64 0, .int .i64 0]) ?_ 0 _ rfl; (with_reducible repeat (first | refine blk_drewN ?_ _ | refine blk_drew ?_ | refine blk_alloc ?_ _)); exact BK146.out⟩
    have n1_ : Aside0 (Below w.heap.size w (((w37.setCell ⟨gb146, 0, none⟩ (.int .i64 ((rd_T84 l1 x9_1).f0))).setCell ⟨gb146, 1, none⟩ (.int .i64 ((rd_T84 l1 x9_1).f1))).setCell ⟨gb146, 2, none⟩ (.int .i64 ((rd_T84 l1 x9_1).f2)))) := ⟨hB HB⟩
    (try clear BK146)
    (try clear HB)
    generalize (((w37.setCell ⟨gb146, 0, none⟩ (.int .i64 ((rd_T84 l1 x9_1).f0))).setCell ⟨gb146, 1, none⟩ (.int .i64 ((rd_T84 l1 x9_1).f1))).setCell ⟨gb146, 2, none⟩ (.int .i64 ((rd_T84 l1 x9_1).f2))) = w39 at n0_ n1_ ⊢
    have BK146 := n0_
    have HB := n1_
    clear n0_ n1_
    replace BK146 := bd_ BK146
    replace HB := Aside0.mk (below_drew1 HB.out)
    refine start_ (n := 41) (S := fun w' => w'.cell? ⟨gb146, 0, none⟩ = some (.int .i64 ((rd_T84 l1 x9_1).f0)) ∧ w'.cell? ⟨gb146, 1, none⟩ = some (.int .i64 ((rd_T84 l1 x9_1).f1)) ∧ w'.cell? ⟨gb146, 2, none⟩ = some (.int .i64 ((rd_T84 l1 x9_1).f2))) (ds := []) (bs 41 0) (by kernel_rfl) rfl rfl ⟨bc_ BK146 0, bc_ BK146 1, bc_ BK146 2⟩ (fun hHeld => ?_); refine with_tabW impl_GoodEdges.tab4 impl_GoodEdges.bits4 (fun HT_ HW_ => ?_)
    generalize w39.drew = w40 at BK146 HB hHeld ⊢
    refine pu_ 0 14 (bs 41 1) HT_ ?_
    refine pu_ 2 16 (bs 41 5) HT_ ?_
    refine pu_ 3 17 (bs 41 13) HT_ ?_
    refine tk_ 1 15 (bs 41 15) HT_ HW_ hHeld ?_
    refine one_ (i := 4) (N := some 18) (bs 41 31) rfl rfl (one_of HT_.out (by kernel_rfl)) (by decide) (fun K hK => ?_)
    refine goes_ Try.func101 (by kernel_rfl) rfl #[.int .i64 ((rd_T84 l1 x9_1).f0), .int .i64 0, .int .i64 (wrap64 (a0 - 1))] (by rfl) rfl rfl tm_ ?_
    with_reducible refine (impl_in.calls ((rd_T84 l1 x9_1).f0) 0 (wrap64 (a0 - 1)) true _ A6.out).mono ?_
    rintro e w' ⟨rfl, ⟨nd, rfl⟩⟩
    refine ⟨_, rfl, ?_⟩
    refine hK.out _ _ ⟨bc_ BK146 0, bc_ BK146 1, bc_ BK146 2⟩ (fun hHeld => ?_)
    clear hK K
    refine nm_ 18 ?_
    refine pu_ 5 19 (bs 41 63) HT_ ?_
    refine pu_ 6 20 (bs 41 127) HT_ ?_
    refine pu_ 7 21 (bs 41 255) HT_ ?_
    refine pu_ 9 23 (bs 41 767) HT_ ?_
    refine pu_ 10 24 (bs 41 1791) HT_ ?_
    refine tk_ 8 22 (bs 41 2047) HT_ HW_ hHeld ?_
    refine one_ (i := 11) (N := some 25) (bs 41 4095) rfl rfl (one_of HT_.out (by kernel_rfl)) (by decide) (fun K hK => ?_)
    refine goes_ Try.func101 (by kernel_rfl) rfl #[.int .i64 ((rd_T84 l1 x9_1).f1), .int .i64 0, .int .i64 (wrap64 (a0 - 1))] (by rfl) rfl rfl tm_ ?_
    with_reducible refine (impl_in.calls ((rd_T84 l1 x9_1).f1) 0 (wrap64 (a0 - 1)) true _ A8.out).mono ?_
    rintro e w' ⟨rfl, ⟨nd, rfl⟩⟩
    refine ⟨_, rfl, ?_⟩
    refine hK.out _ _ ⟨bc_ BK146 0, bc_ BK146 1, bc_ BK146 2⟩ (fun hHeld => ?_)
    clear hK K
    refine nm_ 25 ?_
    refine pu_ 12 26 (bs 41 8191) HT_ ?_
    refine pu_ 13 27 (bs 41 16383) HT_ ?_
    refine pu_ 14 28 (bs 41 32767) HT_ ?_
    refine pu_ 15 29 (bs 41 65535) HT_ ?_
    refine pu_ 17 31 (bs 41 196607) HT_ ?_
    refine tk_ 16 30 (bs 41 262143) HT_ HW_ hHeld ?_
    refine tk_ 18 32 (bs 41 524287) HT_ HW_ hHeld ?_
    refine pu_ 19 33 (bs 41 1048575) HT_ ?_
    refine pu_ 20 34 (bs 41 2097151) HT_ ?_
    refine pu_ 21 35 (bs 41 4194303) HT_ ?_
    refine pu_ 22 36 (bs 41 8388607) HT_ ?_
    refine tk_ 23 37 (bs 41 16777215) HT_ HW_ hHeld ?_
    refine one_ (i := 24) (N := some 38) (bs 41 33554431) rfl rfl (one_of HT_.out (by kernel_rfl)) (by decide) (fun K hK => ?_)
    refine goes_ Try.func101 (by kernel_rfl) rfl #[.int .i64 ((rd_T84 l1 x9_1).f2), .int .i64 1, .int .i64 100] (by rfl) rfl rfl tm_ ?_
    with_reducible refine (impl_in.calls ((rd_T84 l1 x9_1).f2) 1 100 false _ A15.out).mono ?_
    rintro e w' ⟨rfl, ⟨nd, rfl⟩⟩
    refine ⟨_, rfl, ?_⟩
    refine hK.out _ _ ⟨bc_ BK146 0, bc_ BK146 1, bc_ BK146 2⟩ (fun hHeld => ?_)
    clear hK K
    refine nm_ 38 ?_
    refine pu_ 25 39 (bs 41 67108863) HT_ ?_
    refine pu_ 26 40 (bs 41 134217727) HT_ ?_
    refine pu_ 27 41 (bs 41 268435455) HT_ ?_
    refine pn_ 28 42 (bs 41 536870911) HT_ ?_
    refine pn_ 29 43 (bs 41 1073741823) HT_ ?_
    refine pn_ 30 44 (bs 41 2147483647) HT_ ?_
    refine pn_ 31 45 (bs 41 4294967295) HT_ ?_
    refine pn_ 32 46 (bs 41 8589934591) HT_ ?_
    refine pn_ 33 47 (bs 41 17179869183) HT_ ?_
    refine pn_ 34 48 (bs 41 34359738367) HT_ ?_
    refine pn_ 35 49 (bs 41 68719476735) HT_ ?_
    refine pn_ 36 50 (bs 41 137438953471) HT_ ?_
    refine pn_ 37 51 (bs 41 274877906943) HT_ ?_
    refine pn_ 38 52 (bs 41 549755813887) HT_ ?_
    refine pn_ 39 53 (bs 41 1099511627775) HT_ ?_
    refine pu_ 40 54 (bs 41 2199023255551) HT_ ?_
    refine done_ (done_of HT_.out (by kernel_rfl)) ?_
    try go_wp2
    go_ret
    exact ⟨by first | rfl | (simp [errW_none, errW_some] <;> rfl) | (simp [*, errW_none, errW_some] <;> rfl), by repeat (first | (with_reducible first | exact HB.out | apply below_alloc | apply pw_below_drewN | apply below_drew1 | refine below_set ?_ GE146.out) | exact HB.out)⟩
   subst c16
   have H1 : (if x9_1 > 0 then (if 0 ≤ (wrap64 (x9_1 - 1)) then (if (wrap64 (x9_1 - 1)) < (l1.length : Int) then ((impl_byEnds.f ((rd_T84 l1 (wrap64 (x9_1 - 1))).f0) ((rd_T84 l1 (wrap64 (x9_1 - 1))).f1) ((rd_T84 l1 (wrap64 (x9_1 - 1))).f2) ((rd_T84 l1 x9_1).f0) ((rd_T84 l1 x9_1).f1) ((rd_T84 l1 x9_1).f2)).bind fun t151 => (if t151 ≥ 0 then (some false) else (impl_GoodEdges.l0 k1 a0 l1 l1 (l1.length : Int) (wrap64 (x9_1 + 1))))) else (none)) else (none)) else (impl_GoodEdges.l0 k1 a0 l1 l1 (l1.length : Int) (wrap64 (x9_1 + 1)))) = some r := by rw [if_pos rfl] at H; exact H
   clear H
   have H := H1
   clear H1
   by_cases c17 : x9_1 > 0
   rotate_left
   ·rw [if_neg c17] at H
    have c17b0 : decide (0 < x9_1) = false := decide_eq_false c17
    clear c17
    have H' := Aside0.mk H
    clear H
    have p145 : 0 ≤ (x9_1 : Int) := of_decide_eq_true (by first | (with_reducible assumption) | assumption)
    have q145 : x9_1 < (l1.length : Int) := of_decide_eq_true (by first | (with_reducible assumption) | assumption)
    obtain ⟨ad145, e145, hx145_0, hx145_1, hx145_2⟩ := at_T84 HR1.out x9_1 p145 q145
    cases e145
    replace hx145_0 := (HB.out.cell (World.block_lt_of_cell? w _ hx145_0)).trans hx145_0
    replace hx145_1 := (HB.out.cell (World.block_lt_of_cell? w _ hx145_1)).trans hx145_1
    replace hx145_2 := (HB.out.cell (World.block_lt_of_cell? w _ hx145_2)).trans hx145_2
    replace p145 := eq_true p145
    replace q145 := eq_true q145
    try go_wp2_with (first | ((with_reducible refine gate_dst (N := 6) rfl ?_); (try (refine gate_guard (by rfl) ?_; dsimp only)); refine box_event ?hg (N := 6) ?hd (cs := #[.int .i64 0, .int .i64 0, .int .i64 0]) (t := 84) ?hr ?_; (case hd => rfl); (case hg => rfl); (case hr => first | (go_simp; done) | (go_simp; rfl)); intro gb146 hg w33 hbox hb; have BK146 := Aside0.mk (hbox); have GW146 := gw_ hg HB; have GE146 := gw_ hg HB; replace HB := bst_ HB hb; clear hb hbox hg; have hcz34_0 : w33.cell? ⟨gb146, 0, none⟩ = some (.int .i64 0) := bc_ BK146 0; have hcz34_1 : w33.cell? ⟨gb146, 1, none⟩ = some (.int .i64 0) := bc_ BK146 1; have hcz34_2 : w33.cell? ⟨gb146, 2, none⟩ = some (.int .i64 0) := bc_ BK146 2; have hfz34_0 := blk_frozen BK146.out 0; have hfz34_1 := blk_frozen BK146.out 1; have hfz34_2 := blk_frozen BK146.out 2))
    have n0_ : Aside0 ((((w33.setCell ⟨gb146, 0, none⟩ (.int .i64 ((rd_T84 l1 x9_1).f0))).setCell ⟨gb146, 1, none⟩ (.int .i64 ((rd_T84 l1 x9_1).f1))).setCell ⟨gb146, 2, none⟩ (.int .i64 ((rd_T84 l1 x9_1).f2))).heap[gb146]? = some (.cells #[.int .i64 ((rd_T84 l1 x9_1).f0), .int .i64 ((rd_T84 l1 x9_1).f1), .int .i64 ((rd_T84 l1 x9_1).f2)] 84 (0, 0))) := ⟨by (with_reducible repeat (first | refine blk_drewN ?_ _ | refine blk_drew ?_ | refine blk_alloc ?_ _)); refine blk_put (cs := #[.int .i64 ((rd_T84 l1 x9_1).f0), .int .i64 ((rd_T84 l1 x9_1).f1), .int .i64 0]) ?_ 2 _ rfl; (with_reducible repeat (first | refine blk_drewN ?_ _ | refine blk_drew ?_ | refine blk_alloc ?_ _)); refine blk_put (cs := #[.int .i64 ((rd_T84 l1 x9_1).f0), .int .i64 0, .int .i64 0]) ?_ 1 _ rfl; (with_reducible repeat (first | refine blk_drewN ?_ _ | refine blk_drew ?_ | refine blk_alloc ?_ _)); refine blk_put (cs := #[.int .i64 0, .int .i64 0, .int .i64 0]) ?_ 0 _ rfl; (with_reducible repeat (first | refine blk_drewN ?_ _ | refine blk_drew ?_ | refine blk_alloc ?_ _)); exact BK146.out⟩
    have n1_ : Aside0 (Below w.heap.size w (((w33.setCell ⟨gb146, 0, none⟩ (.int .i64 ((rd_T84 l1 x9_1).f0))).setCell ⟨gb146, 1, none⟩ (.int .i64 ((rd_T84 l1 x9_1).f1))).setCell ⟨gb146, 2, none⟩ (.int .i64 ((rd_T84 l1 x9_1).f2)))) := ⟨hB HB⟩
    (try clear BK146)
    (try clear HB)
    generalize (((w33.setCell ⟨gb146, 0, none⟩ (.int .i64 ((rd_T84 l1 x9_1).f0))).setCell ⟨gb146, 1, none⟩ (.int .i64 ((rd_T84 l1 x9_1).f1))).setCell ⟨gb146, 2, none⟩ (.int .i64 ((rd_T84 l1 x9_1).f2))) = w35 at n0_ n1_ ⊢
    have BK146 := n0_
    have HB := n1_
    clear n0_ n1_
    replace BK146 := bd_ BK146
    replace HB := Aside0.mk (below_drew1 HB.out)
    refine start_ (n := 41) (S := fun w' => w'.cell? ⟨gb146, 0, none⟩ = some (.int .i64 ((rd_T84 l1 x9_1).f0)) ∧ w'.cell? ⟨gb146, 1, none⟩ = some (.int .i64 ((rd_T84 l1 x9_1).f1)) ∧ w'.cell? ⟨gb146, 2, none⟩ = some (.int .i64 ((rd_T84 l1 x9_1).f2))) (ds := []) (bs 41 0) (by kernel_rfl) rfl rfl ⟨bc_ BK146 0, bc_ BK146 1, bc_ BK146 2⟩ (fun hHeld => ?_); refine with_tabW impl_GoodEdges.tab4 impl_GoodEdges.bits4 (fun HT_ HW_ => ?_)
    generalize w35.drew = w36 at BK146 HB hHeld ⊢
    refine pu_ 0 14 (bs 41 1) HT_ ?_
    refine pu_ 2 16 (bs 41 5) HT_ ?_
    refine pu_ 3 17 (bs 41 13) HT_ ?_
    refine tk_ 1 15 (bs 41 15) HT_ HW_ hHeld ?_
    refine one_ (i := 4) (N := some 18) (bs 41 31) rfl rfl (one_of HT_.out (by kernel_rfl)) (by decide) (fun K hK => ?_)
    refine goes_ Try.func101 (by kernel_rfl) rfl #[.int .i64 ((rd_T84 l1 x9_1).f0), .int .i64 0, .int .i64 (wrap64 (a0 - 1))] (by rfl) rfl rfl tm_ ?_
    with_reducible refine (impl_in.calls ((rd_T84 l1 x9_1).f0) 0 (wrap64 (a0 - 1)) true _ A6.out).mono ?_
    rintro e w' ⟨rfl, ⟨nd, rfl⟩⟩
    refine ⟨_, rfl, ?_⟩
    refine hK.out _ _ ⟨bc_ BK146 0, bc_ BK146 1, bc_ BK146 2⟩ (fun hHeld => ?_)
    clear hK K
    refine nm_ 18 ?_
    refine pu_ 5 19 (bs 41 63) HT_ ?_
    refine pu_ 6 20 (bs 41 127) HT_ ?_
    refine pu_ 7 21 (bs 41 255) HT_ ?_
    refine pu_ 9 23 (bs 41 767) HT_ ?_
    refine pu_ 10 24 (bs 41 1791) HT_ ?_
    refine tk_ 8 22 (bs 41 2047) HT_ HW_ hHeld ?_
    refine one_ (i := 11) (N := some 25) (bs 41 4095) rfl rfl (one_of HT_.out (by kernel_rfl)) (by decide) (fun K hK => ?_)
    refine goes_ Try.func101 (by kernel_rfl) rfl #[.int .i64 ((rd_T84 l1 x9_1).f1), .int .i64 0, .int .i64 (wrap64 (a0 - 1))] (by rfl) rfl rfl tm_ ?_
    with_reducible refine (impl_in.calls ((rd_T84 l1 x9_1).f1) 0 (wrap64 (a0 - 1)) true _ A8.out).mono ?_
    rintro e w' ⟨rfl, ⟨nd, rfl⟩⟩
    refine ⟨_, rfl, ?_⟩
    refine hK.out _ _ ⟨bc_ BK146 0, bc_ BK146 1, bc_ BK146 2⟩ (fun hHeld => ?_)
    clear hK K
    refine nm_ 25 ?_
    refine pu_ 12 26 (bs 41 8191) HT_ ?_
    refine pu_ 13 27 (bs 41 16383) HT_ ?_
    refine pu_ 14 28 (bs 41 32767) HT_ ?_
    refine pu_ 15 29 (bs 41 65535) HT_ ?_
    refine pu_ 17 31 (bs 41 196607) HT_ ?_
    refine tk_ 16 30 (bs 41 262143) HT_ HW_ hHeld ?_
    refine tk_ 18 32 (bs 41 524287) HT_ HW_ hHeld ?_
    refine pu_ 19 33 (bs 41 1048575) HT_ ?_
    refine pu_ 20 34 (bs 41 2097151) HT_ ?_
    refine pu_ 21 35 (bs 41 4194303) HT_ ?_
    refine pu_ 22 36 (bs 41 8388607) HT_ ?_
    refine tk_ 23 37 (bs 41 16777215) HT_ HW_ hHeld ?_
    refine one_ (i := 24) (N := some 38) (bs 41 33554431) rfl rfl (one_of HT_.out (by kernel_rfl)) (by decide) (fun K hK => ?_)
    refine goes_ Try.func101 (by kernel_rfl) rfl #[.int .i64 ((rd_T84 l1 x9_1).f2), .int .i64 1, .int .i64 100] (by rfl) rfl rfl tm_ ?_
    with_reducible refine (impl_in.calls ((rd_T84 l1 x9_1).f2) 1 100 true _ A15.out).mono ?_
    rintro e w' ⟨rfl, ⟨nd, rfl⟩⟩
    refine ⟨_, rfl, ?_⟩
    refine hK.out _ _ ⟨bc_ BK146 0, bc_ BK146 1, bc_ BK146 2⟩ (fun hHeld => ?_)
    clear hK K
    refine nm_ 38 ?_
    refine pu_ 25 39 (bs 41 67108863) HT_ ?_
    refine pu_ 26 40 (bs 41 134217727) HT_ ?_
    refine pu_ 27 41 (bs 41 268435455) HT_ ?_
    refine pu_ 28 42 (bs 41 536870911) HT_ ?_
    refine pu_ 29 43 (bs 41 1073741823) HT_ ?_
    refine pu_ 30 44 (bs 41 2147483647) HT_ ?_
    refine pn_ 31 45 (bs 41 4294967295) HT_ ?_
    refine pn_ 32 46 (bs 41 8589934591) HT_ ?_
    refine pn_ 33 47 (bs 41 17179869183) HT_ ?_
    refine pn_ 34 48 (bs 41 34359738367) HT_ ?_
    refine pn_ 35 49 (bs 41 68719476735) HT_ ?_
    refine pn_ 36 50 (bs 41 137438953471) HT_ ?_
    refine pn_ 37 51 (bs 41 274877906943) HT_ ?_
    refine pn_ 38 52 (bs 41 549755813887) HT_ ?_
    refine pu_ 39 53 (bs 41 1099511627775) HT_ ?_
    refine pu_ 40 54 (bs 41 2199023255551) HT_ ?_
    refine done_ (done_of HT_.out (by kernel_rfl)) ?_
    try go_wp2
    go_roundg k1
    case measure => have := HK1.out; omega
    case rel => exact ⟨(wrap64 (x9_1 + 1)), (by first | rfl | (simp; done) | (simp [*]; done)), H', ⟨by have := HK1.out; omega⟩, ⟨hB HB⟩⟩
   rw [if_pos c17] at H
   have c17b0 : decide (0 < x9_1) = true := decide_eq_true c17
   clear c17
   obtain ⟨ji18, hji18⟩ : ∃ j_ : Int, (wrap64 (x9_1 - 1)) = j_ := ⟨_, rfl⟩
   replace H : (if 0 ≤ (ji18) then (if (ji18) < (l1.length : Int) then ((impl_byEnds.f ((rd_T84 l1 (ji18)).f0) ((rd_T84 l1 (ji18)).f1) ((rd_T84 l1 (ji18)).f2) ((rd_T84 l1 x9_1).f0) ((rd_T84 l1 x9_1).f1) ((rd_T84 l1 x9_1).f2)).bind fun t151 => (if t151 ≥ 0 then (some false) else (impl_GoodEdges.l0 k1 a0 l1 l1 (l1.length : Int) (wrap64 (x9_1 + 1))))) else (none)) else (none)) = some r := by first | (rw [hji18] at H; exact H) | (simp only [hji18] at H ⊢; exact H)
   (try rw [hji18] at A6)
   (try rw [hji18] at A8)
   (try rw [hji18] at A15)
   have hji18w : (IntKind.i64.wrap (x9_1 - 1)) = ji18 := (i64_w _).trans hji18
   by_cases c19 : 0 ≤ (ji18)
   rotate_left
   ·rw [if_neg c19] at H
    exact absurd H (by simp)
   rw [if_pos c19] at H
   have c19b0 : decide (0 ≤ (ji18)) = true := decide_eq_true c19
   clear c19
   by_cases c20 : (ji18) < (l1.length : Int)
   rotate_left
   ·rw [if_neg c20] at H
    exact absurd H (by simp)
   rw [if_pos c20] at H
   have c20b0 : decide ((ji18) < (l1.length : Int)) = true := decide_eq_true c20
   clear c20
   replace H := Option.bind_eq_some_iff.mp H
   obtain ⟨t151, A210, H⟩ := H
   replace H : (if t151 ≥ 0 then (some false) else (impl_GoodEdges.l0 k1 a0 l1 l1 (l1.length : Int) (wrap64 (x9_1 + 1)))) = some r := H
   have A21 := Aside0.mk A210
   clear A210
   by_cases c22 : t151 ≥ 0
   rotate_left
   ·rw [if_neg c22] at H
    have c22b0 : decide (0 ≤ t151) = false := decide_eq_false c22
    clear c22
    have H' := Aside0.mk H
    clear H
    have p145 : 0 ≤ (x9_1 : Int) := of_decide_eq_true (by first | (with_reducible assumption) | assumption)
    have q145 : x9_1 < (l1.length : Int) := of_decide_eq_true (by first | (with_reducible assumption) | assumption)
    obtain ⟨ad145, e145, hx145_0, hx145_1, hx145_2⟩ := at_T84 HR1.out x9_1 p145 q145
    cases e145
    replace hx145_0 := (HB.out.cell (World.block_lt_of_cell? w _ hx145_0)).trans hx145_0
    replace hx145_1 := (HB.out.cell (World.block_lt_of_cell? w _ hx145_1)).trans hx145_1
    replace hx145_2 := (HB.out.cell (World.block_lt_of_cell? w _ hx145_2)).trans hx145_2
    replace p145 := eq_true p145
    replace q145 := eq_true q145
    try go_wp2_with (first | ((with_reducible refine gate_dst (N := 6) rfl ?_); (try (refine gate_guard (by rfl) ?_; dsimp only)); refine box_event ?hg (N := 6) ?hd (cs := #[.int .i64 0, .int .i64 0, .int .i64 0]) (t := 84) ?hr ?_; (case hd => rfl); (case hg => rfl); (case hr => first | (go_simp; done) | (go_simp; rfl)); intro gb146 hg w28 hbox hb; have BK146 := Aside0.mk (hbox); have GW146 := gw_ hg HB; have GE146 := gw_ hg HB; replace HB := bst_ HB hb; clear hb hbox hg; have hcz29_0 : w28.cell? ⟨gb146, 0, none⟩ = some (.int .i64 0) := bc_ BK146 0; have hcz29_1 : w28.cell? ⟨gb146, 1, none⟩ = some (.int .i64 0) := bc_ BK146 1; have hcz29_2 : w28.cell? ⟨gb146, 2, none⟩ = some (.int .i64 0) := bc_ BK146 2; have hfz29_0 := blk_frozen BK146.out 0; have hfz29_1 := blk_frozen BK146.out 1; have hfz29_2 := blk_frozen BK146.out 2))
    have n0_ : Aside0 ((((w28.setCell ⟨gb146, 0, none⟩ (.int .i64 ((rd_T84 l1 x9_1).f0))).setCell ⟨gb146, 1, none⟩ (.int .i64 ((rd_T84 l1 x9_1).f1))).setCell ⟨gb146, 2, none⟩ (.int .i64 ((rd_T84 l1 x9_1).f2))).heap[gb146]? = some (.cells #[.int .i64 ((rd_T84 l1 x9_1).f0), .int .i64 ((rd_T84 l1 x9_1).f1), .int .i64 ((rd_T84 l1 x9_1).f2)] 84 (0, 0))) := ⟨by (with_reducible repeat (first | refine blk_drewN ?_ _ | refine blk_drew ?_ | refine blk_alloc ?_ _)); refine blk_put (cs := #[.int .i64 ((rd_T84 l1 x9_1).f0), .int .i64 ((rd_T84 l1 x9_1).f1), .int .i64 0]) ?_ 2 _ rfl; (with_reducible repeat (first | refine blk_drewN ?_ _ | refine blk_drew ?_ | refine blk_alloc ?_ _)); refine blk_put (cs := #[.int .i64 ((rd_T84 l1 x9_1).f0), .int .i64 0, .int .i64 0]) ?_ 1 _ rfl; (with_reducible repeat (first | refine blk_drewN ?_ _ | refine blk_drew ?_ | refine blk_alloc ?_ _)); refine blk_put (cs := #[.int .i64 0, .int .i64 0, .int .i64 0]) ?_ 0 _ rfl; (with_reducible repeat (first | refine blk_drewN ?_ _ | refine blk_drew ?_ | refine blk_alloc ?_ _)); exact BK146.out⟩
    have n1_ : Aside0 (Below w.heap.size w (((w28.setCell ⟨gb146, 0, none⟩ (.int .i64 ((rd_T84 l1 x9_1).f0))).setCell ⟨gb146, 1, none⟩ (.int .i64 ((rd_T84 l1 x9_1).f1))).setCell ⟨gb146, 2, none⟩ (.int .i64 ((rd_T84 l1 x9_1).f2)))) := ⟨hB HB⟩
    (try clear BK146)
    (try clear HB)
    generalize (((w28.setCell ⟨gb146, 0, none⟩ (.int .i64 ((rd_T84 l1 x9_1).f0))).setCell ⟨gb146, 1, none⟩ (.int .i64 ((rd_T84 l1 x9_1).f1))).setCell ⟨gb146, 2, none⟩ (.int .i64 ((rd_T84 l1 x9_1).f2))) = w30 at n0_ n1_ ⊢
    have BK146 := n0_
    have HB := n1_
    clear n0_ n1_
    replace BK146 := bd_ BK146
    replace HB := Aside0.mk (below_drew1 HB.out)
    have p150 : 0 ≤ ((ji18) : Int) := of_decide_eq_true (by first | (with_reducible assumption) | assumption)
    have q150 : (ji18) < (l1.length : Int) := of_decide_eq_true (by first | (with_reducible assumption) | assumption)
    obtain ⟨ad150, e150, hx150_0, hx150_1, hx150_2⟩ := at_T84 HR1.out (ji18) p150 q150
    have hw150_2 := hx150_2
    have hw150_1 := hx150_1
    have hw150_0 := hx150_0
    obtain rfl : ad145 = ad150 := (by injection e150)
    replace hx150_0 := (HB.out.cell (World.block_lt_of_cell? w _ hx150_0)).trans hx150_0
    replace hx150_1 := (HB.out.cell (World.block_lt_of_cell? w _ hx150_1)).trans hx150_1
    replace hx150_2 := (HB.out.cell (World.block_lt_of_cell? w _ hx150_2)).trans hx150_2
    replace p150 := eq_true p150
    replace q150 := eq_true q150
    refine start_ (n := 41) (S := fun w' => w'.cell? ⟨gb146, 0, none⟩ = some (.int .i64 ((rd_T84 l1 x9_1).f0)) ∧ w'.cell? ⟨gb146, 1, none⟩ = some (.int .i64 ((rd_T84 l1 x9_1).f1)) ∧ w'.cell? ⟨gb146, 2, none⟩ = some (.int .i64 ((rd_T84 l1 x9_1).f2)) ∧ w'.cell? (ad145.add (((ji18)).toNat * 3)) = some (.int .i64 ((rd_T84 l1 (ji18)).f0)) ∧ w'.cell? ⟨(ad145.add (((ji18)).toNat * 3)).block, (ad145.add (((ji18)).toNat * 3)).off + 1, none⟩ = some (.int .i64 ((rd_T84 l1 (ji18)).f1)) ∧ w'.cell? ⟨(ad145.add (((ji18)).toNat * 3)).block, (ad145.add (((ji18)).toNat * 3)).off + 2, none⟩ = some (.int .i64 ((rd_T84 l1 (ji18)).f2))) (ds := []) (bs 41 0) (by kernel_rfl) rfl rfl ⟨bc_ BK146 0, bc_ BK146 1, bc_ BK146 2, ((HB.out.cell (World.block_lt_of_cell? w _ hw150_0)).trans hw150_0), ((HB.out.cell (World.block_lt_of_cell? w _ hw150_1)).trans hw150_1), ((HB.out.cell (World.block_lt_of_cell? w _ hw150_2)).trans hw150_2)⟩ (fun hHeld => ?_); refine with_tabW impl_GoodEdges.tab4 impl_GoodEdges.bits4 (fun HT_ HW_ => ?_)
    generalize w30.drew = w31 at BK146 HB hx150_0 hx150_1 hx150_2 hHeld ⊢
    refine pu_ 0 14 (bs 41 1) HT_ ?_
    refine pu_ 2 16 (bs 41 5) HT_ ?_
    refine pu_ 3 17 (bs 41 13) HT_ ?_
    refine tk_ 1 15 (bs 41 15) HT_ HW_ hHeld ?_
    refine one_ (i := 4) (N := some 18) (bs 41 31) rfl rfl (one_of HT_.out (by kernel_rfl)) (by decide) (fun K hK => ?_)
    refine goes_ Try.func101 (by kernel_rfl) rfl #[.int .i64 ((rd_T84 l1 x9_1).f0), .int .i64 0, .int .i64 (wrap64 (a0 - 1))] (by rfl) rfl rfl tm_ ?_
    with_reducible refine (impl_in.calls ((rd_T84 l1 x9_1).f0) 0 (wrap64 (a0 - 1)) true _ A6.out).mono ?_
    rintro e w' ⟨rfl, ⟨nd, rfl⟩⟩
    refine ⟨_, rfl, ?_⟩
    refine hK.out _ _ ⟨bc_ BK146 0, bc_ BK146 1, bc_ BK146 2, ((HB.out.cell (World.block_lt_of_cell? w _ hw150_0)).trans hw150_0), ((HB.out.cell (World.block_lt_of_cell? w _ hw150_1)).trans hw150_1), ((HB.out.cell (World.block_lt_of_cell? w _ hw150_2)).trans hw150_2)⟩ (fun hHeld => ?_)
    clear hK K
    refine nm_ 18 ?_
    refine pu_ 5 19 (bs 41 63) HT_ ?_
    refine pu_ 6 20 (bs 41 127) HT_ ?_
    refine pu_ 7 21 (bs 41 255) HT_ ?_
    refine pu_ 9 23 (bs 41 767) HT_ ?_
    refine pu_ 10 24 (bs 41 1791) HT_ ?_
    refine tk_ 8 22 (bs 41 2047) HT_ HW_ hHeld ?_
    refine one_ (i := 11) (N := some 25) (bs 41 4095) rfl rfl (one_of HT_.out (by kernel_rfl)) (by decide) (fun K hK => ?_)
    refine goes_ Try.func101 (by kernel_rfl) rfl #[.int .i64 ((rd_T84 l1 x9_1).f1), .int .i64 0, .int .i64 (wrap64 (a0 - 1))] (by rfl) rfl rfl tm_ ?_
    with_reducible refine (impl_in.calls ((rd_T84 l1 x9_1).f1) 0 (wrap64 (a0 - 1)) true _ A8.out).mono ?_
    rintro e w' ⟨rfl, ⟨nd, rfl⟩⟩
    refine ⟨_, rfl, ?_⟩
    refine hK.out _ _ ⟨bc_ BK146 0, bc_ BK146 1, bc_ BK146 2, ((HB.out.cell (World.block_lt_of_cell? w _ hw150_0)).trans hw150_0), ((HB.out.cell (World.block_lt_of_cell? w _ hw150_1)).trans hw150_1), ((HB.out.cell (World.block_lt_of_cell? w _ hw150_2)).trans hw150_2)⟩ (fun hHeld => ?_)
    clear hK K
    refine nm_ 25 ?_
    refine pu_ 12 26 (bs 41 8191) HT_ ?_
    refine pu_ 13 27 (bs 41 16383) HT_ ?_
    refine pu_ 14 28 (bs 41 32767) HT_ ?_
    refine pu_ 15 29 (bs 41 65535) HT_ ?_
    refine pu_ 17 31 (bs 41 196607) HT_ ?_
    refine tk_ 16 30 (bs 41 262143) HT_ HW_ hHeld ?_
    refine tk_ 18 32 (bs 41 524287) HT_ HW_ hHeld ?_
    refine pu_ 19 33 (bs 41 1048575) HT_ ?_
    refine pu_ 20 34 (bs 41 2097151) HT_ ?_
    refine pu_ 21 35 (bs 41 4194303) HT_ ?_
    refine pu_ 22 36 (bs 41 8388607) HT_ ?_
    refine tk_ 23 37 (bs 41 16777215) HT_ HW_ hHeld ?_
    refine one_ (i := 24) (N := some 38) (bs 41 33554431) rfl rfl (one_of HT_.out (by kernel_rfl)) (by decide) (fun K hK => ?_)
    refine goes_ Try.func101 (by kernel_rfl) rfl #[.int .i64 ((rd_T84 l1 x9_1).f2), .int .i64 1, .int .i64 100] (by rfl) rfl rfl tm_ ?_
    with_reducible refine (impl_in.calls ((rd_T84 l1 x9_1).f2) 1 100 true _ A15.out).mono ?_
    rintro e w' ⟨rfl, ⟨nd, rfl⟩⟩
    refine ⟨_, rfl, ?_⟩
    refine hK.out _ _ ⟨bc_ BK146 0, bc_ BK146 1, bc_ BK146 2, ((HB.out.cell (World.block_lt_of_cell? w _ hw150_0)).trans hw150_0), ((HB.out.cell (World.block_lt_of_cell? w _ hw150_1)).trans hw150_1), ((HB.out.cell (World.block_lt_of_cell? w _ hw150_2)).trans hw150_2)⟩ (fun hHeld => ?_)
    clear hK K
    refine nm_ 38 ?_
    refine pu_ 25 39 (bs 41 67108863) HT_ ?_
    refine pu_ 26 40 (bs 41 134217727) HT_ ?_
    refine pu_ 27 41 (bs 41 268435455) HT_ ?_
    refine pu_ 28 42 (bs 41 536870911) HT_ ?_
    refine pu_ 29 43 (bs 41 1073741823) HT_ ?_
    refine pu_ 30 44 (bs 41 2147483647) HT_ ?_
    refine pu_ 31 45 (bs 41 4294967295) HT_ ?_
    refine pu_ 32 46 (bs 41 8589934591) HT_ ?_
    refine pu_ 33 47 (bs 41 17179869183) HT_ ?_
    refine pu_ 34 48 (bs 41 34359738367) HT_ ?_
    refine tk_ 35 49 (bs 41 68719476735) HT_ HW_ hHeld ?_
    refine tk_ 36 50 (bs 41 137438953471) HT_ HW_ hHeld ?_
    refine one_ (i := 37) (N := some 51) (bs 41 274877906943) rfl rfl (one_of HT_.out (by kernel_rfl)) (by decide) (fun K hK => ?_)
    refine goes_ Try.func120 (by kernel_rfl) rfl #[.agg #[.int .i64 ((rd_T84 l1 (ji18)).f0), .int .i64 ((rd_T84 l1 (ji18)).f1), .int .i64 ((rd_T84 l1 (ji18)).f2)], .agg #[.int .i64 ((rd_T84 l1 x9_1).f0), .int .i64 ((rd_T84 l1 x9_1).f1), .int .i64 ((rd_T84 l1 x9_1).f2)]] (by rfl) rfl rfl (by (try simp only [List.map_toArray, List.map_cons, List.map_nil]); first | done | (simp only [hji18]; rfl) | rfl | (simp only [List.length_drop, List.length_take]; rfl)) ?_
    with_reducible refine (impl_byEnds.calls ((rd_T84 l1 (ji18)).f0) ((rd_T84 l1 (ji18)).f1) ((rd_T84 l1 (ji18)).f2) ((rd_T84 l1 x9_1).f0) ((rd_T84 l1 x9_1).f1) ((rd_T84 l1 x9_1).f2) t151 _ A21.out).mono ?_
    rintro e w32 ⟨rfl, hb⟩
    refine ⟨_, rfl, ?_⟩
    replace BK146 := bb_ BK146 hb
    replace HB := bst_ HB hb
    clear hb
    refine hK.out _ _ ⟨bc_ BK146 0, bc_ BK146 1, bc_ BK146 2, ((HB.out.cell (World.block_lt_of_cell? w _ hw150_0)).trans hw150_0), ((HB.out.cell (World.block_lt_of_cell? w _ hw150_1)).trans hw150_1), ((HB.out.cell (World.block_lt_of_cell? w _ hw150_2)).trans hw150_2)⟩ (fun hHeld => ?_)
    clear hK K
    refine nm_ 51 ?_
    refine pu_ 38 52 (bs 41 549755813887) HT_ ?_
    refine pu_ 39 53 (bs 41 1099511627775) HT_ ?_
    refine pu_ 40 54 (bs 41 2199023255551) HT_ ?_
    refine done_ (done_of HT_.out (by kernel_rfl)) ?_
    try go_wp2
    go_roundg k1
    case measure => have := HK1.out; omega
    case rel => exact ⟨(wrap64 (x9_1 + 1)), (by first | rfl | (simp; done) | (simp [*]; done)), H', ⟨by have := HK1.out; omega⟩, ⟨hB HB⟩⟩
   rw [if_pos c22] at H
   have c22b0 : decide (0 ≤ t151) = true := decide_eq_true c22
   clear c22
   obtain rfl := Option.some.inj H
   have p145 : 0 ≤ (x9_1 : Int) := of_decide_eq_true (by first | (with_reducible assumption) | assumption)
   have q145 : x9_1 < (l1.length : Int) := of_decide_eq_true (by first | (with_reducible assumption) | assumption)
   obtain ⟨ad145, e145, hx145_0, hx145_1, hx145_2⟩ := at_T84 HR1.out x9_1 p145 q145
   cases e145
   replace hx145_0 := (HB.out.cell (World.block_lt_of_cell? w _ hx145_0)).trans hx145_0
   replace hx145_1 := (HB.out.cell (World.block_lt_of_cell? w _ hx145_1)).trans hx145_1
   replace hx145_2 := (HB.out.cell (World.block_lt_of_cell? w _ hx145_2)).trans hx145_2
   replace p145 := eq_true p145
   replace q145 := eq_true q145
   try go_wp2_with (first | ((with_reducible refine gate_dst (N := 6) rfl ?_); (try (refine gate_guard (by rfl) ?_; dsimp only)); refine box_event ?hg (N := 6) ?hd (cs := #[.int .i64 0, .int .i64 0, .int .i64 0]) (t := 84) ?hr ?_; (case hd => rfl); (case hg => rfl); (case hr => first | (go_simp; done) | (go_simp; rfl)); intro gb146 hg w23 hbox hb; have BK146 := Aside0.mk (hbox); have GW146 := gw_ hg HB; have GE146 := gw_ hg HB; replace HB := bst_ HB hb; clear hb hbox hg; have hcz24_0 : w23.cell? ⟨gb146, 0, none⟩ = some (.int .i64 0) := bc_ BK146 0; have hcz24_1 : w23.cell? ⟨gb146, 1, none⟩ = some (.int .i64 0) := bc_ BK146 1; have hcz24_2 : w23.cell? ⟨gb146, 2, none⟩ = some (.int .i64 0) := bc_ BK146 2; have hfz24_0 := blk_frozen BK146.out 0; have hfz24_1 := blk_frozen BK146.out 1; have hfz24_2 := blk_frozen BK146.out 2))
   have n0_ : Aside0 ((((w23.setCell ⟨gb146, 0, none⟩ (.int .i64 ((rd_T84 l1 x9_1).f0))).setCell ⟨gb146, 1, none⟩ (.int .i64 ((rd_T84 l1 x9_1).f1))).setCell ⟨gb146, 2, none⟩ (.int .i64 ((rd_T84 l1 x9_1).f2))).heap[gb146]? = some (.cells #[.int .i64 ((rd_T84 l1 x9_1).f0), .int .i64 ((rd_T84 l1 x9_1).f1), .int .i64 ((rd_T84 l1 x9_1).f2)] 84 (0, 0))) := ⟨by (with_reducible repeat (first | refine blk_drewN ?_ _ | refine blk_drew ?_ | refine blk_alloc ?_ _)); refine blk_put (cs := #[.int .i64 ((rd_T84 l1 x9_1).f0), .int .i64 ((rd_T84 l1 x9_1).f1), .int .i64 0]) ?_ 2 _ rfl; (with_reducible repeat (first | refine blk_drewN ?_ _ | refine blk_drew ?_ | refine blk_alloc ?_ _)); refine blk_put (cs := #[.int .i64 ((rd_T84 l1 x9_1).f0), .int .i64 0, .int .i64 0]) ?_ 1 _ rfl; (with_reducible repeat (first | refine blk_drewN ?_ _ | refine blk_drew ?_ | refine blk_alloc ?_ _)); refine blk_put (cs := #[.int .i64 0, .int .i64 0, .int .i64 0]) ?_ 0 _ rfl; (with_reducible repeat (first | refine blk_drewN ?_ _ | refine blk_drew ?_ | refine blk_alloc ?_ _)); exact BK146.out⟩
   have n1_ : Aside0 (Below w.heap.size w (((w23.setCell ⟨gb146, 0, none⟩ (.int .i64 ((rd_T84 l1 x9_1).f0))).setCell ⟨gb146, 1, none⟩ (.int .i64 ((rd_T84 l1 x9_1).f1))).setCell ⟨gb146, 2, none⟩ (.int .i64 ((rd_T84 l1 x9_1).f2)))) := ⟨hB HB⟩
   (try clear BK146)
   (try clear HB)
   generalize (((w23.setCell ⟨gb146, 0, none⟩ (.int .i64 ((rd_T84 l1 x9_1).f0))).setCell ⟨gb146, 1, none⟩ (.int .i64 ((rd_T84 l1 x9_1).f1))).setCell ⟨gb146, 2, none⟩ (.int .i64 ((rd_T84 l1 x9_1).f2))) = w25 at n0_ n1_ ⊢
   have BK146 := n0_
   have HB := n1_
   clear n0_ n1_
   replace BK146 := bd_ BK146
   replace HB := Aside0.mk (below_drew1 HB.out)
   have p150 : 0 ≤ ((ji18) : Int) := of_decide_eq_true (by first | (with_reducible assumption) | assumption)
   have q150 : (ji18) < (l1.length : Int) := of_decide_eq_true (by first | (with_reducible assumption) | assumption)
   obtain ⟨ad150, e150, hx150_0, hx150_1, hx150_2⟩ := at_T84 HR1.out (ji18) p150 q150
   have hw150_2 := hx150_2
   have hw150_1 := hx150_1
   have hw150_0 := hx150_0
   obtain rfl : ad145 = ad150 := (by injection e150)
   replace hx150_0 := (HB.out.cell (World.block_lt_of_cell? w _ hx150_0)).trans hx150_0
   replace hx150_1 := (HB.out.cell (World.block_lt_of_cell? w _ hx150_1)).trans hx150_1
   replace hx150_2 := (HB.out.cell (World.block_lt_of_cell? w _ hx150_2)).trans hx150_2
   replace p150 := eq_true p150
   replace q150 := eq_true q150
   refine start_ (n := 41) (S := fun w' => w'.cell? ⟨gb146, 0, none⟩ = some (.int .i64 ((rd_T84 l1 x9_1).f0)) ∧ w'.cell? ⟨gb146, 1, none⟩ = some (.int .i64 ((rd_T84 l1 x9_1).f1)) ∧ w'.cell? ⟨gb146, 2, none⟩ = some (.int .i64 ((rd_T84 l1 x9_1).f2)) ∧ w'.cell? (ad145.add (((ji18)).toNat * 3)) = some (.int .i64 ((rd_T84 l1 (ji18)).f0)) ∧ w'.cell? ⟨(ad145.add (((ji18)).toNat * 3)).block, (ad145.add (((ji18)).toNat * 3)).off + 1, none⟩ = some (.int .i64 ((rd_T84 l1 (ji18)).f1)) ∧ w'.cell? ⟨(ad145.add (((ji18)).toNat * 3)).block, (ad145.add (((ji18)).toNat * 3)).off + 2, none⟩ = some (.int .i64 ((rd_T84 l1 (ji18)).f2))) (ds := []) (bs 41 0) (by kernel_rfl) rfl rfl ⟨bc_ BK146 0, bc_ BK146 1, bc_ BK146 2, ((HB.out.cell (World.block_lt_of_cell? w _ hw150_0)).trans hw150_0), ((HB.out.cell (World.block_lt_of_cell? w _ hw150_1)).trans hw150_1), ((HB.out.cell (World.block_lt_of_cell? w _ hw150_2)).trans hw150_2)⟩ (fun hHeld => ?_); refine with_tabW impl_GoodEdges.tab4 impl_GoodEdges.bits4 (fun HT_ HW_ => ?_)
   generalize w25.drew = w26 at BK146 HB hx150_0 hx150_1 hx150_2 hHeld ⊢
   refine pu_ 0 14 (bs 41 1) HT_ ?_
   refine pu_ 2 16 (bs 41 5) HT_ ?_
   refine pu_ 3 17 (bs 41 13) HT_ ?_
   refine tk_ 1 15 (bs 41 15) HT_ HW_ hHeld ?_
   refine one_ (i := 4) (N := some 18) (bs 41 31) rfl rfl (one_of HT_.out (by kernel_rfl)) (by decide) (fun K hK => ?_)
   refine goes_ Try.func101 (by kernel_rfl) rfl #[.int .i64 ((rd_T84 l1 x9_1).f0), .int .i64 0, .int .i64 (wrap64 (a0 - 1))] (by rfl) rfl rfl tm_ ?_
   with_reducible refine (impl_in.calls ((rd_T84 l1 x9_1).f0) 0 (wrap64 (a0 - 1)) true _ A6.out).mono ?_
   rintro e w' ⟨rfl, ⟨nd, rfl⟩⟩
   refine ⟨_, rfl, ?_⟩
   refine hK.out _ _ ⟨bc_ BK146 0, bc_ BK146 1, bc_ BK146 2, ((HB.out.cell (World.block_lt_of_cell? w _ hw150_0)).trans hw150_0), ((HB.out.cell (World.block_lt_of_cell? w _ hw150_1)).trans hw150_1), ((HB.out.cell (World.block_lt_of_cell? w _ hw150_2)).trans hw150_2)⟩ (fun hHeld => ?_)
   clear hK K
   refine nm_ 18 ?_
   refine pu_ 5 19 (bs 41 63) HT_ ?_
   refine pu_ 6 20 (bs 41 127) HT_ ?_
   refine pu_ 7 21 (bs 41 255) HT_ ?_
   refine pu_ 9 23 (bs 41 767) HT_ ?_
   refine pu_ 10 24 (bs 41 1791) HT_ ?_
   refine tk_ 8 22 (bs 41 2047) HT_ HW_ hHeld ?_
   refine one_ (i := 11) (N := some 25) (bs 41 4095) rfl rfl (one_of HT_.out (by kernel_rfl)) (by decide) (fun K hK => ?_)
   refine goes_ Try.func101 (by kernel_rfl) rfl #[.int .i64 ((rd_T84 l1 x9_1).f1), .int .i64 0, .int .i64 (wrap64 (a0 - 1))] (by rfl) rfl rfl tm_ ?_
   with_reducible refine (impl_in.calls ((rd_T84 l1 x9_1).f1) 0 (wrap64 (a0 - 1)) true _ A8.out).mono ?_
   rintro e w' ⟨rfl, ⟨nd, rfl⟩⟩
   refine ⟨_, rfl, ?_⟩
   refine hK.out _ _ ⟨bc_ BK146 0, bc_ BK146 1, bc_ BK146 2, ((HB.out.cell (World.block_lt_of_cell? w _ hw150_0)).trans hw150_0), ((HB.out.cell (World.block_lt_of_cell? w _ hw150_1)).trans hw150_1), ((HB.out.cell (World.block_lt_of_cell? w _ hw150_2)).trans hw150_2)⟩ (fun hHeld => ?_)
   clear hK K
   refine nm_ 25 ?_
   refine pu_ 12 26 (bs 41 8191) HT_ ?_
   refine pu_ 13 27 (bs 41 16383) HT_ ?_
   refine pu_ 14 28 (bs 41 32767) HT_ ?_
   refine pu_ 15 29 (bs 41 65535) HT_ ?_
   refine pu_ 17 31 (bs 41 196607) HT_ ?_
   refine tk_ 16 30 (bs 41 262143) HT_ HW_ hHeld ?_
   refine tk_ 18 32 (bs 41 524287) HT_ HW_ hHeld ?_
   refine pu_ 19 33 (bs 41 1048575) HT_ ?_
   refine pu_ 20 34 (bs 41 2097151) HT_ ?_
   refine pu_ 21 35 (bs 41 4194303) HT_ ?_
   refine pu_ 22 36 (bs 41 8388607) HT_ ?_
   refine tk_ 23 37 (bs 41 16777215) HT_ HW_ hHeld ?_
   refine one_ (i := 24) (N := some 38) (bs 41 33554431) rfl rfl (one_of HT_.out (by kernel_rfl)) (by decide) (fun K hK => ?_)
   refine goes_ Try.func101 (by kernel_rfl) rfl #[.int .i64 ((rd_T84 l1 x9_1).f2), .int .i64 1, .int .i64 100] (by rfl) rfl rfl tm_ ?_
   with_reducible refine (impl_in.calls ((rd_T84 l1 x9_1).f2) 1 100 true _ A15.out).mono ?_
   rintro e w' ⟨rfl, ⟨nd, rfl⟩⟩
   refine ⟨_, rfl, ?_⟩
   refine hK.out _ _ ⟨bc_ BK146 0, bc_ BK146 1, bc_ BK146 2, ((HB.out.cell (World.block_lt_of_cell? w _ hw150_0)).trans hw150_0), ((HB.out.cell (World.block_lt_of_cell? w _ hw150_1)).trans hw150_1), ((HB.out.cell (World.block_lt_of_cell? w _ hw150_2)).trans hw150_2)⟩ (fun hHeld => ?_)
   clear hK K
   refine nm_ 38 ?_
   refine pu_ 25 39 (bs 41 67108863) HT_ ?_
   refine pu_ 26 40 (bs 41 134217727) HT_ ?_
   refine pu_ 27 41 (bs 41 268435455) HT_ ?_
   refine pu_ 28 42 (bs 41 536870911) HT_ ?_
   refine pu_ 29 43 (bs 41 1073741823) HT_ ?_
   refine pu_ 30 44 (bs 41 2147483647) HT_ ?_
   refine pu_ 31 45 (bs 41 4294967295) HT_ ?_
   refine pu_ 32 46 (bs 41 8589934591) HT_ ?_
   refine pu_ 33 47 (bs 41 17179869183) HT_ ?_
   refine pu_ 34 48 (bs 41 34359738367) HT_ ?_
   refine tk_ 35 49 (bs 41 68719476735) HT_ HW_ hHeld ?_
   refine tk_ 36 50 (bs 41 137438953471) HT_ HW_ hHeld ?_
   refine one_ (i := 37) (N := some 51) (bs 41 274877906943) rfl rfl (one_of HT_.out (by kernel_rfl)) (by decide) (fun K hK => ?_)
   refine goes_ Try.func120 (by kernel_rfl) rfl #[.agg #[.int .i64 ((rd_T84 l1 (ji18)).f0), .int .i64 ((rd_T84 l1 (ji18)).f1), .int .i64 ((rd_T84 l1 (ji18)).f2)], .agg #[.int .i64 ((rd_T84 l1 x9_1).f0), .int .i64 ((rd_T84 l1 x9_1).f1), .int .i64 ((rd_T84 l1 x9_1).f2)]] (by rfl) rfl rfl (by (try simp only [List.map_toArray, List.map_cons, List.map_nil]); first | done | (simp only [hji18]; rfl) | rfl | (simp only [List.length_drop, List.length_take]; rfl)) ?_
   with_reducible refine (impl_byEnds.calls ((rd_T84 l1 (ji18)).f0) ((rd_T84 l1 (ji18)).f1) ((rd_T84 l1 (ji18)).f2) ((rd_T84 l1 x9_1).f0) ((rd_T84 l1 x9_1).f1) ((rd_T84 l1 x9_1).f2) t151 _ A21.out).mono ?_
   rintro e w27 ⟨rfl, hb⟩
   refine ⟨_, rfl, ?_⟩
   replace BK146 := bb_ BK146 hb
   replace HB := bst_ HB hb
   clear hb
   refine hK.out _ _ ⟨bc_ BK146 0, bc_ BK146 1, bc_ BK146 2, ((HB.out.cell (World.block_lt_of_cell? w _ hw150_0)).trans hw150_0), ((HB.out.cell (World.block_lt_of_cell? w _ hw150_1)).trans hw150_1), ((HB.out.cell (World.block_lt_of_cell? w _ hw150_2)).trans hw150_2)⟩ (fun hHeld => ?_)
   clear hK K
   refine nm_ 51 ?_
   refine pu_ 38 52 (bs 41 549755813887) HT_ ?_
   refine pu_ 39 53 (bs 41 1099511627775) HT_ ?_
   refine pu_ 40 54 (bs 41 2199023255551) HT_ ?_
   refine done_ (done_of HT_.out (by kernel_rfl)) ?_
   try go_wp2
   go_ret
   exact ⟨by first | rfl | (simp [errW_none, errW_some] <;> rfl) | (simp only [← hji18]; first | rfl | (simp [errW_none, errW_some] <;> rfl)) | (simp [*, errW_none, errW_some] <;> rfl), by repeat (first | (with_reducible first | exact HB.out | apply below_alloc | apply pw_below_drewN | apply below_drew1 | refine below_set ?_ GE146.out) | exact HB.out)⟩

def laws_eqEdge.f (a0_0 : Int) (a0_1 : Int) (a0_2 : Int) (a1_0 : Int) (a1_1 : Int) (a1_2 : Int) : Option (Bool) := if a0_0 = a1_0 then (if a0_1 = a1_1 then (if a0_2 = a1_2 then (some true) else (some false)) else (some false)) else (some false)
set_option maxHeartbeats 8000000 in
set_option maxRecDepth 100000 in
theorem laws_eqEdge.calls (a0_0 : Int) (a0_1 : Int) (a0_2 : Int) (a1_0 : Int) (a1_1 : Int) (a1_2 : Int) (r : Bool) (w : World) (h : laws_eqEdge.f a0_0 a0_1 a0_2 a1_0 a1_1 a1_2 = some r) :
  Calls Try.prog 68 #[.agg #[.int .i64 a0_0, .int .i64 a0_1, .int .i64 a0_2], .agg #[.int .i64 a1_0, .int .i64 a1_1, .int .i64 a1_2]] w fun e w' => e = .returned (.bool r) ∧ Below w.heap.size w w' := by
 have hu84 := Try.underlying84
 have HB := Aside0.mk (Below.refl w.heap.size w)
 have H : (if a0_0 = a1_0 then (if a0_1 = a1_1 then (if a0_2 = a1_2 then (some true) else (some false)) else (some false)) else (some false)) = some r := h
 clear h
 by_cases c3 : a0_0 = a1_0
 rotate_left
 ·rw [if_neg c3] at H
  have c3b0 : (a0_0 == a1_0) = false := beq_eq_false_iff_ne.mpr c3
  have c3b1 : (a0_0 != a1_0) = true := bne_iff_ne.mpr c3
  obtain rfl := Option.some.inj H
  go_enter Try.func68, Try.ntmps68
  go_wp2_with (first | ((with_reducible refine gate_dst (N := 2) rfl ?_); refine box_event ?hg (N := 2) ?hd (cs := #[.int .i64 a0_0, .int .i64 a0_1, .int .i64 a0_2]) (t := 84) ?hr ?_; (case hd => rfl); (case hg => rfl); (case hr => first | (go_simp; done) | (go_simp; rfl)); intro gb171 hg w21 hbox hb; have BK171 := Aside0.mk (hbox); have GW171 := gw_ hg HB; have GE171 := gw_ hg HB; replace HB := bst_ HB hb; clear hb hbox hg) | ((with_reducible refine gate_dst (N := 3) rfl ?_); refine box_event ?hg (N := 3) ?hd (cs := #[.int .i64 a1_0, .int .i64 a1_1, .int .i64 a1_2]) (t := 84) ?hr ?_; (case hd => rfl); (case hg => rfl); (case hr => first | (go_simp; done) | (go_simp; rfl)); intro gb172 hg w22 hbox hb; have BK172 := Aside0.mk (hbox); have GW172 := gw_ hg HB; have GE172 := gw_ hg HB; have NB171_172 := nl_ hg BK171; have NB172_171 := ng_ hg BK171; replace BK171 := bb_ BK171 hb; replace HB := bst_ HB hb; clear hb hbox hg; have hnb23 := NB171_172.out; have hnc23 := NB172_171.out; have hcz24_0 : w22.cell? ⟨gb171, 0, none⟩ = some (.int .i64 a0_0) := bc_ BK171 0; have hcz24_1 : w22.cell? ⟨gb171, 1, none⟩ = some (.int .i64 a0_1) := bc_ BK171 1; have hcz24_2 : w22.cell? ⟨gb171, 2, none⟩ = some (.int .i64 a0_2) := bc_ BK171 2; have hfz24_0 := blk_frozen BK171.out 0; have hfz24_1 := blk_frozen BK171.out 1; have hfz24_2 := blk_frozen BK171.out 2; have hcz25_0 : w22.cell? ⟨gb172, 0, none⟩ = some (.int .i64 a1_0) := bc_ BK172 0; have hcz25_1 : w22.cell? ⟨gb172, 1, none⟩ = some (.int .i64 a1_1) := bc_ BK172 1; have hcz25_2 : w22.cell? ⟨gb172, 2, none⟩ = some (.int .i64 a1_2) := bc_ BK172 2; have hfz25_0 := blk_frozen BK172.out 0; have hfz25_1 := blk_frozen BK172.out 1; have hfz25_2 := blk_frozen BK172.out 2))
  go_ret
  exact ⟨by first | rfl | (simp [errW_none, errW_some] <;> rfl) | (simp [*, errW_none, errW_some] <;> rfl), by repeat (first | (with_reducible first | exact HB.out | apply below_alloc | apply pw_below_drewN | apply below_drew1 | refine below_set ?_ GE171.out | refine below_set ?_ GE172.out) | exact HB.out)⟩
 rw [if_pos c3] at H
 have c3b0 : (a0_0 == a1_0) = true := beq_iff_eq.mpr c3
 have c3b1 : (a0_0 != a1_0) = false := bne_eq_false_iff_eq.mpr c3
 clear c3
 by_cases c4 : a0_1 = a1_1
 rotate_left
 ·rw [if_neg c4] at H
  have c4b0 : (a0_1 == a1_1) = false := beq_eq_false_iff_ne.mpr c4
  have c4b1 : (a0_1 != a1_1) = true := bne_iff_ne.mpr c4
  obtain rfl := Option.some.inj H
  go_enter Try.func68, Try.ntmps68
  go_wp2_with (first | ((with_reducible refine gate_dst (N := 2) rfl ?_); refine box_event ?hg (N := 2) ?hd (cs := #[.int .i64 a0_0, .int .i64 a0_1, .int .i64 a0_2]) (t := 84) ?hr ?_; (case hd => rfl); (case hg => rfl); (case hr => first | (go_simp; done) | (go_simp; rfl)); intro gb171 hg w16 hbox hb; have BK171 := Aside0.mk (hbox); have GW171 := gw_ hg HB; have GE171 := gw_ hg HB; replace HB := bst_ HB hb; clear hb hbox hg) | ((with_reducible refine gate_dst (N := 3) rfl ?_); refine box_event ?hg (N := 3) ?hd (cs := #[.int .i64 a1_0, .int .i64 a1_1, .int .i64 a1_2]) (t := 84) ?hr ?_; (case hd => rfl); (case hg => rfl); (case hr => first | (go_simp; done) | (go_simp; rfl)); intro gb172 hg w17 hbox hb; have BK172 := Aside0.mk (hbox); have GW172 := gw_ hg HB; have GE172 := gw_ hg HB; have NB171_172 := nl_ hg BK171; have NB172_171 := ng_ hg BK171; replace BK171 := bb_ BK171 hb; replace HB := bst_ HB hb; clear hb hbox hg; have hnb18 := NB171_172.out; have hnc18 := NB172_171.out; have hcz19_0 : w17.cell? ⟨gb171, 0, none⟩ = some (.int .i64 a0_0) := bc_ BK171 0; have hcz19_1 : w17.cell? ⟨gb171, 1, none⟩ = some (.int .i64 a0_1) := bc_ BK171 1; have hcz19_2 : w17.cell? ⟨gb171, 2, none⟩ = some (.int .i64 a0_2) := bc_ BK171 2; have hfz19_0 := blk_frozen BK171.out 0; have hfz19_1 := blk_frozen BK171.out 1; have hfz19_2 := blk_frozen BK171.out 2; have hcz20_0 : w17.cell? ⟨gb172, 0, none⟩ = some (.int .i64 a1_0) := bc_ BK172 0; have hcz20_1 : w17.cell? ⟨gb172, 1, none⟩ = some (.int .i64 a1_1) := bc_ BK172 1; have hcz20_2 : w17.cell? ⟨gb172, 2, none⟩ = some (.int .i64 a1_2) := bc_ BK172 2; have hfz20_0 := blk_frozen BK172.out 0; have hfz20_1 := blk_frozen BK172.out 1; have hfz20_2 := blk_frozen BK172.out 2))
  go_ret
  exact ⟨by first | rfl | (simp [errW_none, errW_some] <;> rfl) | (simp [*, errW_none, errW_some] <;> rfl), by repeat (first | (with_reducible first | exact HB.out | apply below_alloc | apply pw_below_drewN | apply below_drew1 | refine below_set ?_ GE171.out | refine below_set ?_ GE172.out) | exact HB.out)⟩
 rw [if_pos c4] at H
 have c4b0 : (a0_1 == a1_1) = true := beq_iff_eq.mpr c4
 have c4b1 : (a0_1 != a1_1) = false := bne_eq_false_iff_eq.mpr c4
 clear c4
 by_cases c5 : a0_2 = a1_2
 ·rw [if_pos c5] at H
  have c5b0 : (a0_2 == a1_2) = true := beq_iff_eq.mpr c5
  have c5b1 : (a0_2 != a1_2) = false := bne_eq_false_iff_eq.mpr c5
  clear c5
  obtain rfl := Option.some.inj H
  go_enter Try.func68, Try.ntmps68
  go_wp2_with (first | ((with_reducible refine gate_dst (N := 2) rfl ?_); refine box_event ?hg (N := 2) ?hd (cs := #[.int .i64 a0_0, .int .i64 a0_1, .int .i64 a0_2]) (t := 84) ?hr ?_; (case hd => rfl); (case hg => rfl); (case hr => first | (go_simp; done) | (go_simp; rfl)); intro gb171 hg w6 hbox hb; have BK171 := Aside0.mk (hbox); have GW171 := gw_ hg HB; have GE171 := gw_ hg HB; replace HB := bst_ HB hb; clear hb hbox hg) | ((with_reducible refine gate_dst (N := 3) rfl ?_); refine box_event ?hg (N := 3) ?hd (cs := #[.int .i64 a1_0, .int .i64 a1_1, .int .i64 a1_2]) (t := 84) ?hr ?_; (case hd => rfl); (case hg => rfl); (case hr => first | (go_simp; done) | (go_simp; rfl)); intro gb172 hg w7 hbox hb; have BK172 := Aside0.mk (hbox); have GW172 := gw_ hg HB; have GE172 := gw_ hg HB; have NB171_172 := nl_ hg BK171; have NB172_171 := ng_ hg BK171; replace BK171 := bb_ BK171 hb; replace HB := bst_ HB hb; clear hb hbox hg; have hnb8 := NB171_172.out; have hnc8 := NB172_171.out; have hcz9_0 : w7.cell? ⟨gb171, 0, none⟩ = some (.int .i64 a0_0) := bc_ BK171 0; have hcz9_1 : w7.cell? ⟨gb171, 1, none⟩ = some (.int .i64 a0_1) := bc_ BK171 1; have hcz9_2 : w7.cell? ⟨gb171, 2, none⟩ = some (.int .i64 a0_2) := bc_ BK171 2; have hfz9_0 := blk_frozen BK171.out 0; have hfz9_1 := blk_frozen BK171.out 1; have hfz9_2 := blk_frozen BK171.out 2; have hcz10_0 : w7.cell? ⟨gb172, 0, none⟩ = some (.int .i64 a1_0) := bc_ BK172 0; have hcz10_1 : w7.cell? ⟨gb172, 1, none⟩ = some (.int .i64 a1_1) := bc_ BK172 1; have hcz10_2 : w7.cell? ⟨gb172, 2, none⟩ = some (.int .i64 a1_2) := bc_ BK172 2; have hfz10_0 := blk_frozen BK172.out 0; have hfz10_1 := blk_frozen BK172.out 1; have hfz10_2 := blk_frozen BK172.out 2))
  go_ret
  exact ⟨by first | rfl | (simp [errW_none, errW_some] <;> rfl) | (simp [*, errW_none, errW_some] <;> rfl), by repeat (first | (with_reducible first | exact HB.out | apply below_alloc | apply pw_below_drewN | apply below_drew1 | refine below_set ?_ GE171.out | refine below_set ?_ GE172.out) | exact HB.out)⟩
 rw [if_neg c5] at H
 have c5b0 : (a0_2 == a1_2) = false := beq_eq_false_iff_ne.mpr c5
 have c5b1 : (a0_2 != a1_2) = true := bne_iff_ne.mpr c5
 obtain rfl := Option.some.inj H
 go_enter Try.func68, Try.ntmps68
 go_wp2_with (first | ((with_reducible refine gate_dst (N := 2) rfl ?_); refine box_event ?hg (N := 2) ?hd (cs := #[.int .i64 a0_0, .int .i64 a0_1, .int .i64 a0_2]) (t := 84) ?hr ?_; (case hd => rfl); (case hg => rfl); (case hr => first | (go_simp; done) | (go_simp; rfl)); intro gb171 hg w11 hbox hb; have BK171 := Aside0.mk (hbox); have GW171 := gw_ hg HB; have GE171 := gw_ hg HB; replace HB := bst_ HB hb; clear hb hbox hg) | ((with_reducible refine gate_dst (N := 3) rfl ?_); refine box_event ?hg (N := 3) ?hd (cs := #[.int .i64 a1_0, .int .i64 a1_1, .int .i64 a1_2]) (t := 84) ?hr ?_; (case hd => rfl); (case hg => rfl); (case hr => first | (go_simp; done) | (go_simp; rfl)); intro gb172 hg w12 hbox hb; have BK172 := Aside0.mk (hbox); have GW172 := gw_ hg HB; have GE172 := gw_ hg HB; have NB171_172 := nl_ hg BK171; have NB172_171 := ng_ hg BK171; replace BK171 := bb_ BK171 hb; replace HB := bst_ HB hb; clear hb hbox hg; have hnb13 := NB171_172.out; have hnc13 := NB172_171.out; have hcz14_0 : w12.cell? ⟨gb171, 0, none⟩ = some (.int .i64 a0_0) := bc_ BK171 0; have hcz14_1 : w12.cell? ⟨gb171, 1, none⟩ = some (.int .i64 a0_1) := bc_ BK171 1; have hcz14_2 : w12.cell? ⟨gb171, 2, none⟩ = some (.int .i64 a0_2) := bc_ BK171 2; have hfz14_0 := blk_frozen BK171.out 0; have hfz14_1 := blk_frozen BK171.out 1; have hfz14_2 := blk_frozen BK171.out 2; have hcz15_0 : w12.cell? ⟨gb172, 0, none⟩ = some (.int .i64 a1_0) := bc_ BK172 0; have hcz15_1 : w12.cell? ⟨gb172, 1, none⟩ = some (.int .i64 a1_1) := bc_ BK172 1; have hcz15_2 : w12.cell? ⟨gb172, 2, none⟩ = some (.int .i64 a1_2) := bc_ BK172 2; have hfz15_0 := blk_frozen BK172.out 0; have hfz15_1 := blk_frozen BK172.out 1; have hfz15_2 := blk_frozen BK172.out 2))
 go_ret
 exact ⟨by first | rfl | (simp [errW_none, errW_some] <;> rfl) | (simp [*, errW_none, errW_some] <;> rfl), by repeat (first | (with_reducible first | exact HB.out | apply below_alloc | apply pw_below_drewN | apply below_drew1 | refine below_set ?_ GE171.out | refine below_set ?_ GE172.out) | exact HB.out)⟩

def laws_eqEdgeS.l0 : Nat → List (S84) → List (S84) → Int → Option (Bool)
 | 0, _, _, _ => none
 | k + 1, x0, x1, x5 => if x5 < (x0.length : Int) then (if 0 ≤ x5 then (if x5 < (x1.length : Int) then ((laws_eqEdge.f ((rd_T84 x0 x5).f0) ((rd_T84 x0 x5).f1) ((rd_T84 x0 x5).f2) ((rd_T84 x1 x5).f0) ((rd_T84 x1 x5).f1) ((rd_T84 x1 x5).f2)).bind fun t175 => (if t175 = true then (laws_eqEdgeS.l0 k x0 x1 (wrap64 (x5 + 1))) else (some false))) else (none)) else (none)) else (some true)
def laws_eqEdgeS.f (k : Nat) (l0 : List (S84)) (l1 : List (S84)) : Option (Bool) := if (l0.length : Int) = (l1.length : Int) then (laws_eqEdgeS.l0 k l0 l1 0) else (some false)
theorem laws_eqEdgeS.mono_l : ∀ k, (∀ y0 y1 y2, LeO (laws_eqEdgeS.l0 k y0 y1 y2) (laws_eqEdgeS.l0 (k + 1) y0 y1 y2))
 | 0 => fun _ _ _ r h => by simp [laws_eqEdgeS.l0] at h
 | k + 1 => by
  have ih0 := laws_eqEdgeS.mono_l k
  ·intro y0 y1 y2
   unfold laws_eqEdgeS.l0
   repeat' first
   | (with_reducible exact ih0 _ _ _)
   | (with_reducible exact LeO.refl _)
   | (with_reducible exact LeO.none _)
   | (with_reducible refine LeO.ite ?_ ?_)
   | (with_reducible refine LeO.bind ?_ (fun _ => ?_))
   | exact ih0 _ _ _
   | exact LeO.none _
   | refine LeO.ite ?_ ?_
   | refine LeO.bind ?_ (fun _ => ?_)
theorem laws_eqEdgeS.mono : ∀ a0 a1 k, LeO (laws_eqEdgeS.f k a0 a1) (laws_eqEdgeS.f (k + 1) a0 a1) := by
 intro a0 a1 k
 have ih0 := laws_eqEdgeS.mono_l k
 unfold laws_eqEdgeS.f
 repeat' first
   | (with_reducible exact ih0 _ _ _)
   | (with_reducible exact LeO.refl _)
   | (with_reducible exact LeO.none _)
   | (with_reducible refine LeO.ite ?_ ?_)
   | (with_reducible refine LeO.bind ?_ (fun _ => ?_))
   | exact ih0 _ _ _
   | exact LeO.none _
   | refine LeO.ite ?_ ?_
   | refine LeO.bind ?_ (fun _ => ?_)
def laws_eqEdgeS.T6 : Bool × List (List Nat × List Nat) := (true, [([], []), ([], []), ([0, 1], [0, 1]), ([2], [2]), ([], []), ([], []), ([4, 5], [4, 5]), ([6], [6]), ([3, 7], [3, 7]), ([8], [8])])
def laws_eqEdgeS.B6 : List Nat := [0, 0, 3, 7, 0, 0, 48, 112, 255, 511]
theorem laws_eqEdgeS.tab6 : rtab .any (opsOf Try.f20 6) = laws_eqEdgeS.T6 := by kernel_rfl
theorem laws_eqEdgeS.bits6 : waitsOk laws_eqEdgeS.T6.2 laws_eqEdgeS.B6 = true := by kernel_rfl
set_option maxHeartbeats 8000000 in
set_option maxRecDepth 100000 in
theorem laws_eqEdgeS.calls (k : Nat) (A0 : Option Addr) (c0 : Nat) (l0 : List (S84)) (A1 : Option Addr) (c1 : Nat) (l1 : List (S84)) (r : Bool) (w : World) (hr0 : Kd.C k84 w A0 l0.length l0) (hc0 : l0.length ≤ c0) (hr1 : Kd.C k84 w A1 l1.length l1) (hc1 : l1.length ≤ c1) (h : laws_eqEdgeS.f k l0 l1 = some r) :
  Calls Try.prog 20 #[.slice A0 l0.length c0, .slice A1 l1.length c1] w fun e w' => e = .returned (.bool r) ∧ Below w.heap.size w w' := by
 have hu84 := Try.underlying84
 have HR0 := Aside0.mk hr0
 have HC0 := Aside0.mk hc0
 clear hr0 hc0
 have HR1 := Aside0.mk hr1
 have HC1 := Aside0.mk hc1
 clear hr1 hc1
 have HB := Aside0.mk (Below.refl w.heap.size w)
 have H : (if (l0.length : Int) = (l1.length : Int) then (laws_eqEdgeS.l0 k l0 l1 0) else (some false)) = some r := h
 clear h
 by_cases c3 : (l0.length : Int) = (l1.length : Int)
 rotate_left
 ·rw [if_neg c3] at H
  have c3b0 : ((l0.length : Int) == (l1.length : Int)) = false := beq_eq_false_iff_ne.mpr c3
  have c3b1 : ((l0.length : Int) != (l1.length : Int)) = true := bne_iff_ne.mpr c3
  have c3b2 : (l0.length == l1.length) = false := by first | simpa using c3 | (simp at c3 ⊢; omega)
  obtain rfl := Option.some.inj H
  go_enter Try.func20, Try.ntmps20
  go_wp2
  go_ret
  exact ⟨by first | rfl | (simp [errW_none, errW_some] <;> rfl) | (simp [*, errW_none, errW_some] <;> rfl), by repeat (first | (with_reducible first | exact HB.out | apply below_alloc | apply pw_below_drewN | apply below_drew1) | exact HB.out)⟩
 rw [if_pos c3] at H
 have c3b0 : ((l0.length : Int) == (l1.length : Int)) = true := beq_iff_eq.mpr c3
 have c3b1 : ((l0.length : Int) != (l1.length : Int)) = false := bne_eq_false_iff_eq.mpr c3
 have c3b2 : (l0.length == l1.length) = true := by first | simpa using c3 | (simp at c3 ⊢; omega)
 clear c3
 have H' := Aside0.mk H
 clear H
 go_enter Try.func20, Try.ntmps20
 go_wp2
 go_loopg [5] k (fun kq v5 w' => ∃ (x5_1 : Int), v5 = .int .i64 x5_1 ∧ Aside0 (laws_eqEdgeS.l0 kq l0 l1 x5_1 = some r) ∧ Aside0 (kq ≤ k) ∧ Aside0 (Below w.heap.size w w'))
 case atStart => exact ⟨(0), (by first | rfl | (simp; done) | (simp [*]; done)), H', ⟨Nat.le_refl _⟩, ⟨hB HB⟩⟩
 case round =>
  clear H'
  try clear c1
  try clear c2
  try clear p2
  try clear c3
  try clear c3b0
  try clear c3b1
  try clear c3b2
  obtain ⟨x5_1, rfl, HA, HK1, HB⟩ := hrel
  cases gk with
  | zero => exact absurd HA.out (by simp [laws_eqEdgeS.l0])
  | succ k1 =>
   have H := HA.out
   clear HA
   simp only [laws_eqEdgeS.l0] at H
   by_cases c4 : x5_1 < (l0.length : Int)
   rotate_left
   ·rw [if_neg c4] at H
    have c4b0 : decide (x5_1 < (l0.length : Int)) = false := decide_eq_false c4
    clear c4
    obtain rfl := Option.some.inj H
    go_wp2
    go_ret
    exact ⟨by first | rfl | (simp [errW_none, errW_some] <;> rfl) | (simp [*, errW_none, errW_some] <;> rfl), by repeat (first | (with_reducible first | exact HB.out | apply below_alloc | apply pw_below_drewN | apply below_drew1) | exact HB.out)⟩
   rw [if_pos c4] at H
   have c4b0 : decide (x5_1 < (l0.length : Int)) = true := decide_eq_true c4
   clear c4
   by_cases c5 : 0 ≤ x5_1
   rotate_left
   ·rw [if_neg c5] at H
    exact absurd H (by simp)
   rw [if_pos c5] at H
   have c5b0 : decide (0 ≤ x5_1) = true := decide_eq_true c5
   clear c5
   by_cases c6 : x5_1 < (l1.length : Int)
   rotate_left
   ·rw [if_neg c6] at H
    exact absurd H (by simp)
   rw [if_pos c6] at H
   have c6b0 : decide (x5_1 < (l1.length : Int)) = true := decide_eq_true c6
   clear c6
   replace H := Option.bind_eq_some_iff.mp H
   obtain ⟨t175, A70, H⟩ := H
   replace H : (if t175 = true then (laws_eqEdgeS.l0 k1 l0 l1 (wrap64 (x5_1 + 1))) else (some false)) = some r := H
   have A7 := Aside0.mk A70
   clear A70
   by_cases c8 : t175 = true
   ·subst c8
    have H1 : (laws_eqEdgeS.l0 k1 l0 l1 (wrap64 (x5_1 + 1))) = some r := by rw [if_pos rfl] at H; exact H
    clear H
    have H := H1
    clear H1
    have H' := Aside0.mk H
    clear H
    try go_wp2
    replace HB := Aside0.mk (below_drew1 HB.out)
    have p173 : 0 ≤ (x5_1 : Int) := of_decide_eq_true (by first | (with_reducible assumption) | assumption)
    have q173 : x5_1 < (l0.length : Int) := of_decide_eq_true (by first | (with_reducible assumption) | assumption)
    obtain ⟨ad173, e173, hx173_0, hx173_1, hx173_2⟩ := at_T84 HR0.out x5_1 p173 q173
    have hw173_2 := hx173_2
    have hw173_1 := hx173_1
    have hw173_0 := hx173_0
    cases e173
    replace hx173_0 := (HB.out.cell (World.block_lt_of_cell? w _ hx173_0)).trans hx173_0
    replace hx173_1 := (HB.out.cell (World.block_lt_of_cell? w _ hx173_1)).trans hx173_1
    replace hx173_2 := (HB.out.cell (World.block_lt_of_cell? w _ hx173_2)).trans hx173_2
    replace p173 := eq_true p173
    replace q173 := eq_true q173
    have p174 : 0 ≤ (x5_1 : Int) := of_decide_eq_true (by first | (with_reducible assumption) | assumption)
    have q174 : x5_1 < (l1.length : Int) := of_decide_eq_true (by first | (with_reducible assumption) | assumption)
    obtain ⟨ad174, e174, hx174_0, hx174_1, hx174_2⟩ := at_T84 HR1.out x5_1 p174 q174
    have hw174_2 := hx174_2
    have hw174_1 := hx174_1
    have hw174_0 := hx174_0
    cases e174
    replace hx174_0 := (HB.out.cell (World.block_lt_of_cell? w _ hx174_0)).trans hx174_0
    replace hx174_1 := (HB.out.cell (World.block_lt_of_cell? w _ hx174_1)).trans hx174_1
    replace hx174_2 := (HB.out.cell (World.block_lt_of_cell? w _ hx174_2)).trans hx174_2
    replace p174 := eq_true p174
    replace q174 := eq_true q174
    refine start_ (n := 10) (S := fun w' => w'.cell? (ad173.add ((x5_1).toNat * 3)) = some (.int .i64 ((rd_T84 l0 x5_1).f0)) ∧ w'.cell? ⟨(ad173.add ((x5_1).toNat * 3)).block, (ad173.add ((x5_1).toNat * 3)).off + 1, none⟩ = some (.int .i64 ((rd_T84 l0 x5_1).f1)) ∧ w'.cell? ⟨(ad173.add ((x5_1).toNat * 3)).block, (ad173.add ((x5_1).toNat * 3)).off + 2, none⟩ = some (.int .i64 ((rd_T84 l0 x5_1).f2)) ∧ w'.cell? (ad174.add ((x5_1).toNat * 3)) = some (.int .i64 ((rd_T84 l1 x5_1).f0)) ∧ w'.cell? ⟨(ad174.add ((x5_1).toNat * 3)).block, (ad174.add ((x5_1).toNat * 3)).off + 1, none⟩ = some (.int .i64 ((rd_T84 l1 x5_1).f1)) ∧ w'.cell? ⟨(ad174.add ((x5_1).toNat * 3)).block, (ad174.add ((x5_1).toNat * 3)).off + 2, none⟩ = some (.int .i64 ((rd_T84 l1 x5_1).f2))) (ds := []) (bs 10 0) (by kernel_rfl) rfl rfl ⟨((HB.out.cell (World.block_lt_of_cell? w _ hw173_0)).trans hw173_0), ((HB.out.cell (World.block_lt_of_cell? w _ hw173_1)).trans hw173_1), ((HB.out.cell (World.block_lt_of_cell? w _ hw173_2)).trans hw173_2), ((HB.out.cell (World.block_lt_of_cell? w _ hw174_0)).trans hw174_0), ((HB.out.cell (World.block_lt_of_cell? w _ hw174_1)).trans hw174_1), ((HB.out.cell (World.block_lt_of_cell? w _ hw174_2)).trans hw174_2)⟩ (fun hHeld => ?_); refine with_tabW laws_eqEdgeS.tab6 laws_eqEdgeS.bits6 (fun HT_ HW_ => ?_)
    generalize wr.drew = w9 at HB hx173_0 hx173_1 hx173_2 hx174_0 hx174_1 hx174_2 hHeld ⊢
    refine pu_ 0 17 (bs 10 1) HT_ ?_
    refine pu_ 1 18 (bs 10 3) HT_ ?_
    refine pu_ 2 19 (bs 10 7) HT_ ?_
    refine pu_ 4 21 (bs 10 23) HT_ ?_
    refine pu_ 5 22 (bs 10 55) HT_ ?_
    refine pu_ 6 23 (bs 10 119) HT_ ?_
    refine tk_ 3 20 (bs 10 127) HT_ HW_ hHeld ?_
    refine tk_ 7 24 (bs 10 255) HT_ HW_ hHeld ?_
    refine one_ (i := 8) (N := some 25) (bs 10 511) rfl rfl (one_of HT_.out (by kernel_rfl)) (by decide) (fun K hK => ?_)
    refine goes_ Try.func68 (by kernel_rfl) rfl #[.agg #[.int .i64 ((rd_T84 l0 x5_1).f0), .int .i64 ((rd_T84 l0 x5_1).f1), .int .i64 ((rd_T84 l0 x5_1).f2)], .agg #[.int .i64 ((rd_T84 l1 x5_1).f0), .int .i64 ((rd_T84 l1 x5_1).f1), .int .i64 ((rd_T84 l1 x5_1).f2)]] (by rfl) rfl rfl tm_ ?_
    with_reducible refine (laws_eqEdge.calls ((rd_T84 l0 x5_1).f0) ((rd_T84 l0 x5_1).f1) ((rd_T84 l0 x5_1).f2) ((rd_T84 l1 x5_1).f0) ((rd_T84 l1 x5_1).f1) ((rd_T84 l1 x5_1).f2) true _ A7.out).mono ?_
    rintro e w10 ⟨rfl, hb⟩
    refine ⟨_, rfl, ?_⟩
    replace HB := bst_ HB hb
    clear hb
    refine hK.out _ _ ⟨((HB.out.cell (World.block_lt_of_cell? w _ hw173_0)).trans hw173_0), ((HB.out.cell (World.block_lt_of_cell? w _ hw173_1)).trans hw173_1), ((HB.out.cell (World.block_lt_of_cell? w _ hw173_2)).trans hw173_2), ((HB.out.cell (World.block_lt_of_cell? w _ hw174_0)).trans hw174_0), ((HB.out.cell (World.block_lt_of_cell? w _ hw174_1)).trans hw174_1), ((HB.out.cell (World.block_lt_of_cell? w _ hw174_2)).trans hw174_2)⟩ (fun hHeld => ?_)
    clear hK K
    refine nm_ 25 ?_
    refine pu_ 9 26 (bs 10 1023) HT_ ?_
    refine done_ (done_of HT_.out (by kernel_rfl)) ?_
    try go_wp2
    go_roundg k1
    case measure => have := HK1.out; omega
    case rel => exact ⟨(wrap64 (x5_1 + 1)), (by first | rfl | (simp; done) | (simp [*]; done)), H', ⟨by have := HK1.out; omega⟩, ⟨hB HB⟩⟩
   replace c8 := Bool.eq_false_iff.mpr c8
   subst c8
   have H1 : (some false) = some r := by rw [if_neg (show ¬ (false = true) by decide)] at H; exact H
   clear H
   have H := H1
   clear H1
   obtain rfl := Option.some.inj H
   try go_wp2
   replace HB := Aside0.mk (below_drew1 HB.out)
   have p173 : 0 ≤ (x5_1 : Int) := of_decide_eq_true (by first | (with_reducible assumption) | assumption)
   have q173 : x5_1 < (l0.length : Int) := of_decide_eq_true (by first | (with_reducible assumption) | assumption)
   obtain ⟨ad173, e173, hx173_0, hx173_1, hx173_2⟩ := at_T84 HR0.out x5_1 p173 q173
   have hw173_2 := hx173_2
   have hw173_1 := hx173_1
   have hw173_0 := hx173_0
   cases e173
   replace hx173_0 := (HB.out.cell (World.block_lt_of_cell? w _ hx173_0)).trans hx173_0
   replace hx173_1 := (HB.out.cell (World.block_lt_of_cell? w _ hx173_1)).trans hx173_1
   replace hx173_2 := (HB.out.cell (World.block_lt_of_cell? w _ hx173_2)).trans hx173_2
   replace p173 := eq_true p173
   replace q173 := eq_true q173
   have p174 : 0 ≤ (x5_1 : Int) := of_decide_eq_true (by first | (with_reducible assumption) | assumption)
   have q174 : x5_1 < (l1.length : Int) := of_decide_eq_true (by first | (with_reducible assumption) | assumption)
   obtain ⟨ad174, e174, hx174_0, hx174_1, hx174_2⟩ := at_T84 HR1.out x5_1 p174 q174
   have hw174_2 := hx174_2
   have hw174_1 := hx174_1
   have hw174_0 := hx174_0
   cases e174
   replace hx174_0 := (HB.out.cell (World.block_lt_of_cell? w _ hx174_0)).trans hx174_0
   replace hx174_1 := (HB.out.cell (World.block_lt_of_cell? w _ hx174_1)).trans hx174_1
   replace hx174_2 := (HB.out.cell (World.block_lt_of_cell? w _ hx174_2)).trans hx174_2
   replace p174 := eq_true p174
   replace q174 := eq_true q174
   refine start_ (n := 10) (S := fun w' => w'.cell? (ad173.add ((x5_1).toNat * 3)) = some (.int .i64 ((rd_T84 l0 x5_1).f0)) ∧ w'.cell? ⟨(ad173.add ((x5_1).toNat * 3)).block, (ad173.add ((x5_1).toNat * 3)).off + 1, none⟩ = some (.int .i64 ((rd_T84 l0 x5_1).f1)) ∧ w'.cell? ⟨(ad173.add ((x5_1).toNat * 3)).block, (ad173.add ((x5_1).toNat * 3)).off + 2, none⟩ = some (.int .i64 ((rd_T84 l0 x5_1).f2)) ∧ w'.cell? (ad174.add ((x5_1).toNat * 3)) = some (.int .i64 ((rd_T84 l1 x5_1).f0)) ∧ w'.cell? ⟨(ad174.add ((x5_1).toNat * 3)).block, (ad174.add ((x5_1).toNat * 3)).off + 1, none⟩ = some (.int .i64 ((rd_T84 l1 x5_1).f1)) ∧ w'.cell? ⟨(ad174.add ((x5_1).toNat * 3)).block, (ad174.add ((x5_1).toNat * 3)).off + 2, none⟩ = some (.int .i64 ((rd_T84 l1 x5_1).f2))) (ds := []) (bs 10 0) (by kernel_rfl) rfl rfl ⟨((HB.out.cell (World.block_lt_of_cell? w _ hw173_0)).trans hw173_0), ((HB.out.cell (World.block_lt_of_cell? w _ hw173_1)).trans hw173_1), ((HB.out.cell (World.block_lt_of_cell? w _ hw173_2)).trans hw173_2), ((HB.out.cell (World.block_lt_of_cell? w _ hw174_0)).trans hw174_0), ((HB.out.cell (World.block_lt_of_cell? w _ hw174_1)).trans hw174_1), ((HB.out.cell (World.block_lt_of_cell? w _ hw174_2)).trans hw174_2)⟩ (fun hHeld => ?_); refine with_tabW laws_eqEdgeS.tab6 laws_eqEdgeS.bits6 (fun HT_ HW_ => ?_)
   generalize wr.drew = w11 at HB hx173_0 hx173_1 hx173_2 hx174_0 hx174_1 hx174_2 hHeld ⊢
   refine pu_ 0 17 (bs 10 1) HT_ ?_
   refine pu_ 1 18 (bs 10 3) HT_ ?_
   refine pu_ 2 19 (bs 10 7) HT_ ?_
   refine pu_ 4 21 (bs 10 23) HT_ ?_
   refine pu_ 5 22 (bs 10 55) HT_ ?_
   refine pu_ 6 23 (bs 10 119) HT_ ?_
   refine tk_ 3 20 (bs 10 127) HT_ HW_ hHeld ?_
   refine tk_ 7 24 (bs 10 255) HT_ HW_ hHeld ?_
   refine one_ (i := 8) (N := some 25) (bs 10 511) rfl rfl (one_of HT_.out (by kernel_rfl)) (by decide) (fun K hK => ?_)
   refine goes_ Try.func68 (by kernel_rfl) rfl #[.agg #[.int .i64 ((rd_T84 l0 x5_1).f0), .int .i64 ((rd_T84 l0 x5_1).f1), .int .i64 ((rd_T84 l0 x5_1).f2)], .agg #[.int .i64 ((rd_T84 l1 x5_1).f0), .int .i64 ((rd_T84 l1 x5_1).f1), .int .i64 ((rd_T84 l1 x5_1).f2)]] (by rfl) rfl rfl tm_ ?_
   with_reducible refine (laws_eqEdge.calls ((rd_T84 l0 x5_1).f0) ((rd_T84 l0 x5_1).f1) ((rd_T84 l0 x5_1).f2) ((rd_T84 l1 x5_1).f0) ((rd_T84 l1 x5_1).f1) ((rd_T84 l1 x5_1).f2) false _ A7.out).mono ?_
   rintro e w12 ⟨rfl, hb⟩
   refine ⟨_, rfl, ?_⟩
   replace HB := bst_ HB hb
   clear hb
   refine hK.out _ _ ⟨((HB.out.cell (World.block_lt_of_cell? w _ hw173_0)).trans hw173_0), ((HB.out.cell (World.block_lt_of_cell? w _ hw173_1)).trans hw173_1), ((HB.out.cell (World.block_lt_of_cell? w _ hw173_2)).trans hw173_2), ((HB.out.cell (World.block_lt_of_cell? w _ hw174_0)).trans hw174_0), ((HB.out.cell (World.block_lt_of_cell? w _ hw174_1)).trans hw174_1), ((HB.out.cell (World.block_lt_of_cell? w _ hw174_2)).trans hw174_2)⟩ (fun hHeld => ?_)
   clear hK K
   refine nm_ 25 ?_
   refine pu_ 9 26 (bs 10 1023) HT_ ?_
   refine done_ (done_of HT_.out (by kernel_rfl)) ?_
   try go_wp2
   go_ret
   exact ⟨by first | rfl | (simp [errW_none, errW_some] <;> rfl) | (simp [*, errW_none, errW_some] <;> rfl), by repeat (first | (with_reducible first | exact HB.out | apply below_alloc | apply pw_below_drewN | apply below_drew1) | exact HB.out)⟩

end Go.Proofs.Ytnoklicihomfoaa.P
