import Derived.Test.YtenedmcobknefaaF0
import Derived.Test.YtenedmcobknefaaF1
namespace Go.Proofs.Ytenedmcobknefaa.P
open Go.RowKit Go.Proofs.YtenedmcobknefaaW.PrintWords Go.Proofs.YtenedmcobknefaaW.PrintLast Go.Proofs.YtenedmcobknefaaW.PrintMore
attribute [local go_sem] max2_int min2_int max_two min_two max_three min_three max_four min_four   -- for this text's walks alone
set_option linter.unusedVariables false
set_option linter.unusedSimpArgs false
attribute [local go_sem high] eqA27

def spec_l13Heard.l0 : Nat → Int → List (S27) → List (S27) → Int → Int → Option (Bool)
 | 0, _, _, _, _, _ => none
 | k + 1, x0, x1, x7, x8, x9 => if x9 < x8 then (if 0 ≤ x9 then (if x9 < (x7.length : Int) then ((spec_l13Row.f ((rd_T27 x7 x9).f0) ((rd_T27 x7 x9).f1) ((rd_T27 x7 x9).f2)).bind fun t126 => (if t126 = true then (if x9 > 0 then (if 0 ≤ (wrap64 (x9 - 1)) then (if (wrap64 (x9 - 1)) < (x1.length : Int) then (if ((rd_T27 x1 (wrap64 (x9 - 1))).f2) > ((rd_T27 x7 x9).f2) then (some false) else (spec_l13Heard.l0 k x0 x1 x7 x8 (wrap64 (x9 + 1)))) else (none)) else (none)) else (spec_l13Heard.l0 k x0 x1 x7 x8 (wrap64 (x9 + 1)))) else (some false))) else (none)) else (none)) else ((spec_l1In.f x0 1 8).bind fun t128 => (if t128 = true then (some (decide ((x1.length : Int) ≤ 60))) else (some false)))
def spec_l13Heard.f (k : Nat) (a0 : Int) (l1 : List (S27)) : Option (Bool) := spec_l13Heard.l0 k a0 l1 l1 (l1.length : Int) 0
theorem spec_l13Heard.mono_l : ∀ k, (∀ y0 y1 y2 y3 y4, LeO (spec_l13Heard.l0 k y0 y1 y2 y3 y4) (spec_l13Heard.l0 (k + 1) y0 y1 y2 y3 y4))
 | 0 => fun _ _ _ _ _ r h => by simp [spec_l13Heard.l0] at h
 | k + 1 => by
  have ih0 := spec_l13Heard.mono_l k
  ·intro y0 y1 y2 y3 y4
   unfold spec_l13Heard.l0
   repeat' first
   | (with_reducible exact ih0 _ _ _ _ _)
   | with_reducible first | exact LeO.refl _ | exact LeO.none _ | refine LeO.ite ?_ ?_ | refine LeO.bind ?_ fun _ => ?_
theorem spec_l13Heard.mono : ∀ a0 a1 k, LeO (spec_l13Heard.f k a0 a1) (spec_l13Heard.f (k + 1) a0 a1) := by
 intro a0 a1 k
 have ih0 := spec_l13Heard.mono_l k
 unfold spec_l13Heard.f
 repeat' first
   | (with_reducible exact ih0 _ _ _ _ _)
   | with_reducible first | exact LeO.refl _ | exact LeO.none _ | refine LeO.ite ?_ ?_ | refine LeO.bind ?_ fun _ => ?_
def spec_l13Heard.T4 : Bool × List (List Nat × List Nat) := (true, [([], []), ([0], [0]), ([1], [1]), ([2, 1], [2]), ([3], [3]), ([4, 3], [3, 4]), ([5, 3, 3], [3, 5]), ([6], [6]), ([6], [6]), ([8, 6], [6, 8]), ([7, 9, 6], [6, 7, 9]), ([10, 6], [6, 10]), ([11, 6], [6, 11]), ([6], [6]), ([13, 6], [6, 13]), ([12, 14, 6], [6, 12, 14]), ([6, 15, 3], [3, 6, 15]), ([3, 16], [3, 16])])
def spec_l13Heard.B4 : List Nat := [0, 1, 3, 7, 15, 31, 63, 127, 127, 383, 1023, 2047, 4095, 127, 8319, 32767, 65535, 131071]
theorem spec_l13Heard.tab4 : rtab .any (opsOf Try.f39 4) = spec_l13Heard.T4 := by kernel_rfl
theorem spec_l13Heard.bits4 : waitsOk spec_l13Heard.T4.2 spec_l13Heard.B4 = true := by kernel_rfl
set_option maxHeartbeats 8000000 in
set_option maxRecDepth 100000 in
theorem spec_l13Heard.calls (k : Nat) (a0 : Int) (A1 : Option Addr) (c1 : Nat) (l1 : List (S27)) (r : Bool) (w : World) (hr1 : Kd.C k27 w A1 l1.length l1) (hc1 : l1.length ≤ c1) (h : spec_l13Heard.f k a0 l1 = some r) :
  Calls Try.prog 39 #[.int .i64 a0, .slice A1 l1.length c1] w fun e w' => e = .returned (.bool r) ∧ Below w.heap.size w w' := by
 have hu27 := Try.underlying27
 have HR1 := Aside0.mk hr1
 have HC1 := Aside0.mk hc1
 clear hr1 hc1
 have HB := Aside0.mk (Below.refl w.heap.size w)
 have H : (spec_l13Heard.l0 k a0 l1 l1 (l1.length : Int) 0) = some r := h
 clear h
 have H' := Aside0.mk H
 clear H
 go_enter Try.func39, Try.ntmps39
 go_wp2
 go_loopg [9] k (fun kq v9 w' => ∃ (x9_1 : Int), v9 = .int .i64 x9_1 ∧ Aside0 (spec_l13Heard.l0 kq a0 l1 l1 (l1.length : Int) x9_1 = some r) ∧ Aside0 (kq ≤ k) ∧ Aside0 (Below w.heap.size w w'))
 case atStart => exact ⟨(0), (by first | rfl | (simp; done) | (simp [*]; done)), H', ⟨Nat.le_refl _⟩, ⟨hB HB⟩⟩
 case round =>
  clear H'
  try clear c1
  obtain ⟨x9_1, rfl, HA, HK1, HB⟩ := hrel
  cases gk with
  | zero => exact absurd HA.out (by simp [spec_l13Heard.l0])
  | succ k1 =>
   have H := HA.out
   clear HA
   simp only [spec_l13Heard.l0] at H
   by_cases c3 : x9_1 < (l1.length : Int)
   rotate_left
   ·rw [if_neg c3] at H
    have c3b0 : decide (x9_1 < (l1.length : Int)) = false := decide_eq_false c3
    clear c3
    replace H := Option.bind_eq_some_iff.mp H
    obtain ⟨t128, A330, H⟩ := H
    replace H : (if t128 = true then (some (decide ((l1.length : Int) ≤ 60))) else (some false)) = some r := H
    have A33 := Aside0.mk A330
    clear A330
    by_cases c34 : t128 = true
    ·subst c34
     rw [if_pos rfl] at H
     obtain rfl := Option.some.inj H
     go_wp2_with (first | (refine goesL_ (some 34) rfl rfl Try.func28 (by kernel_rfl) rfl #[.int .i64 a0, .int .i64 1, .int .i64 8] rfl tm_ ?_; (with_reducible refine (spec_l1In.calls a0 1 8 true _ A33.out).mono ?_); rintro e w' ⟨rfl, ⟨nd, rfl⟩⟩; refine ⟨_, rfl, ?_⟩))
     go_ret
     exact ⟨rt_, hB HB⟩
    replace c34 := Bool.eq_false_iff.mpr c34
    subst c34
    rw [if_neg (show ¬ (false = true) by decide)] at H
    obtain rfl := Option.some.inj H
    go_wp2_with (first | (refine goesL_ (some 34) rfl rfl Try.func28 (by kernel_rfl) rfl #[.int .i64 a0, .int .i64 1, .int .i64 8] rfl tm_ ?_; (with_reducible refine (spec_l1In.calls a0 1 8 false _ A33.out).mono ?_); rintro e w' ⟨rfl, ⟨nd, rfl⟩⟩; refine ⟨_, rfl, ?_⟩))
    go_ret
    exact ⟨rt_, hB HB⟩
   rw [if_pos c3] at H
   have c3b0 : decide (x9_1 < (l1.length : Int)) = true := decide_eq_true c3
   clear c3
   by_cases c4 : 0 ≤ x9_1
   rotate_left
   ·rw [if_neg c4] at H
    exact absurd H (by simp)
   rw [if_pos c4] at H
   have c4b0 : decide (0 ≤ x9_1) = true := decide_eq_true c4
   clear c4
   by_cases c5 : x9_1 < (l1.length : Int)
   rotate_left
   ·rw [if_neg c5] at H
    exact absurd H (by simp)
   rw [if_pos c5] at H
   have c5b0 : decide (x9_1 < (l1.length : Int)) = true := decide_eq_true c5
   clear c5
   replace H := Option.bind_eq_some_iff.mp H
   obtain ⟨t126, A60, H⟩ := H
   replace H : (if t126 = true then (if x9_1 > 0 then (if 0 ≤ (wrap64 (x9_1 - 1)) then (if (wrap64 (x9_1 - 1)) < (l1.length : Int) then (if ((rd_T27 l1 (wrap64 (x9_1 - 1))).f2) > ((rd_T27 l1 x9_1).f2) then (some false) else (spec_l13Heard.l0 k1 a0 l1 l1 (l1.length : Int) (wrap64 (x9_1 + 1)))) else (none)) else (none)) else (spec_l13Heard.l0 k1 a0 l1 l1 (l1.length : Int) (wrap64 (x9_1 + 1)))) else (some false)) = some r := H
   have A6 := Aside0.mk A60
   clear A60
   by_cases c7 : t126 = true
   rotate_left
   ·replace c7 := Bool.eq_false_iff.mpr c7
    subst c7
    rw [if_neg (show ¬ (false = true) by decide)] at H
    obtain rfl := Option.some.inj H
    have p124 : 0 ≤ (x9_1 : Int) := od_
    have q124 : x9_1 < (l1.length : Int) := od_
    obtain ⟨ad124, e124, hx124_0, hx124_1, hx124_2⟩ := at_T27 HR1.out x9_1 p124 q124
    cases e124
    replace hx124_0 := hc_ HB hx124_0
    replace hx124_1 := hc_ HB hx124_1
    replace hx124_2 := hc_ HB hx124_2
    replace p124 := eq_true p124
    replace q124 := eq_true q124
    try go_wp2_with (first | ((with_reducible refine gate_dst (N := 6) rfl ?_); (try (refine gate_guard (by rfl) ?_; dsimp only)); refine box_event ?hg (N := 6) ?hd (cs := #[.int .i64 0, .int .i64 0, .int .i64 0]) (t := 27) ?hr ?_; (case hd => rfl); (case hg => rfl); (case hr => first | (go_simp; done) | (go_simp; rfl)); intro gb125 hg w28 hbox hb; have BK125 := Aside0.mk (hbox); have GW125 := gw_ hg HB; have GE125 := gw_ hg HB; replace HB := bst_ HB hb; clear hb hbox hg; obtain ⟨hcz29_0, hcz29_1, hcz29_2⟩ := bcs3_ BK125; have hfz29_0 := blk_frozen BK125.out 0; have hfz29_1 := blk_frozen BK125.out 1; have hfz29_2 := blk_frozen BK125.out 2))
    have n0_ : Aside0 ((((w28.setCell ⟨gb125, 0, none⟩ (.int .i64 ((rd_T27 l1 x9_1).f0))).setCell ⟨gb125, 1, none⟩ (.int .i64 ((rd_T27 l1 x9_1).f1))).setCell ⟨gb125, 2, none⟩ (.int .i64 ((rd_T27 l1 x9_1).f2))).heap[gb125]? = some (.cells #[.int .i64 ((rd_T27 l1 x9_1).f0), .int .i64 ((rd_T27 l1 x9_1).f1), .int .i64 ((rd_T27 l1 x9_1).f2)] 27 (0, 0))) := ⟨by (with_reducible repeat (first | refine blk_drewN ?_ _ | refine blk_drew ?_ | refine blk_alloc ?_ _)); refine blk_put (cs := #[.int .i64 ((rd_T27 l1 x9_1).f0), .int .i64 ((rd_T27 l1 x9_1).f1), .int .i64 0]) ?_ 2 _ rfl; (with_reducible repeat (first | refine blk_drewN ?_ _ | refine blk_drew ?_ | refine blk_alloc ?_ _)); refine blk_put (cs := #[.int .i64 ((rd_T27 l1 x9_1).f0), .int .i64 0, .int .i64 0]) ?_ 1 _ rfl; (with_reducible repeat (first | refine blk_drewN ?_ _ | refine blk_drew ?_ | refine blk_alloc ?_ _)); refine blk_put (cs := #[.int .i64 0, .int .i64 0, .int .i64 0]) ?_ 0 _ rfl; (with_reducible repeat (first | refine blk_drewN ?_ _ | refine blk_drew ?_ | refine blk_alloc ?_ _)); exact BK125.out⟩
    have n1_ : Aside0 (Below w.heap.size w (((w28.setCell ⟨gb125, 0, none⟩ (.int .i64 ((rd_T27 l1 x9_1).f0))).setCell ⟨gb125, 1, none⟩ (.int .i64 ((rd_T27 l1 x9_1).f1))).setCell ⟨gb125, 2, none⟩ (.int .i64 ((rd_T27 l1 x9_1).f2)))) := ⟨hB HB⟩
    (try clear BK125)
    (try clear HB)
    generalize (((w28.setCell ⟨gb125, 0, none⟩ (.int .i64 ((rd_T27 l1 x9_1).f0))).setCell ⟨gb125, 1, none⟩ (.int .i64 ((rd_T27 l1 x9_1).f1))).setCell ⟨gb125, 2, none⟩ (.int .i64 ((rd_T27 l1 x9_1).f2))) = w30 at n0_ n1_ ⊢
    have BK125 := n0_
    have HB := n1_
    clear n0_ n1_
    replace BK125 := bd_ BK125
    replace HB := Aside0.mk (below_drew1 HB.out)
    refine start_ (n := 18) (S := fun w' => w'.cell? ⟨gb125, 0, none⟩ = some (.int .i64 ((rd_T27 l1 x9_1).f0)) ∧ w'.cell? ⟨gb125, 1, none⟩ = some (.int .i64 ((rd_T27 l1 x9_1).f1)) ∧ w'.cell? ⟨gb125, 2, none⟩ = some (.int .i64 ((rd_T27 l1 x9_1).f2))) (ds := []) (bs 18 0) (by kernel_rfl) rfl rfl ⟨bc_ BK125 0, bc_ BK125 1, bc_ BK125 2⟩ (fun hHeld => ?_); refine with_tabW spec_l13Heard.tab4 spec_l13Heard.bits4 (fun HT_ HW_ => ?_)
    generalize w30.drew = w31 at BK125 HB hHeld ⊢
    refine tk_ 0 14 (bs 18 1) HT_ HW_ hHeld ?_
    refine on_ 1 (some 15) (bs 18 3) HT_ (fun K hK => ?_)
    refine goes_ Try.func24 (by kernel_rfl) rfl #[.agg #[.int .i64 ((rd_T27 l1 x9_1).f0), .int .i64 ((rd_T27 l1 x9_1).f1), .int .i64 ((rd_T27 l1 x9_1).f2)]] (by rfl) rfl rfl tm_ ?_
    with_reducible refine (spec_l13Row.calls ((rd_T27 l1 x9_1).f0) ((rd_T27 l1 x9_1).f1) ((rd_T27 l1 x9_1).f2) false _ A6.out).mono ?_
    rintro e w32 ⟨rfl, hb⟩
    refine ⟨_, rfl, ?_⟩
    replace BK125 := bb_ BK125 hb
    replace HB := bst_ HB hb
    clear hb
    refine hK.out _ _ ⟨bc_ BK125 0, bc_ BK125 1, bc_ BK125 2⟩ (fun hHeld => ?_)
    clear hK K
    refine nm_ 15 ?_
    refine pu_ 2 16 (bs 18 7) HT_ ?_
    refine pu_ 3 17 (bs 18 15) HT_ ?_
    refine pn_ 4 18 (bs 18 31) HT_ ?_
    refine pn_ 5 19 (bs 18 63) HT_ ?_
    refine pn_ 6 20 (bs 18 127) HT_ ?_
    refine pn_ 7 21 (bs 18 255) HT_ ?_
    refine pn_ 8 22 (bs 18 511) HT_ ?_
    refine pn_ 9 23 (bs 18 1023) HT_ ?_
    refine pn_ 10 24 (bs 18 2047) HT_ ?_
    refine pn_ 11 25 (bs 18 4095) HT_ ?_
    refine pn_ 12 26 (bs 18 8191) HT_ ?_
    refine pn_ 13 27 (bs 18 16383) HT_ ?_
    refine pn_ 14 28 (bs 18 32767) HT_ ?_
    refine pn_ 15 29 (bs 18 65535) HT_ ?_
    refine pn_ 16 30 (bs 18 131071) HT_ ?_
    refine pu_ 17 31 (bs 18 262143) HT_ ?_
    refine done_ (done_of HT_.out (by kernel_rfl)) ?_
    try go_wp2
    go_ret
    exact ⟨rt_, hB HB⟩
   subst c7
   rw [if_pos rfl] at H
   by_cases c8 : x9_1 > 0
   rotate_left
   ·rw [if_neg c8] at H
    have c8b0 : decide (0 < x9_1) = false := decide_eq_false c8
    clear c8
    have H' := Aside0.mk H
    clear H
    have p124 : 0 ≤ (x9_1 : Int) := od_
    have q124 : x9_1 < (l1.length : Int) := od_
    obtain ⟨ad124, e124, hx124_0, hx124_1, hx124_2⟩ := at_T27 HR1.out x9_1 p124 q124
    cases e124
    replace hx124_0 := hc_ HB hx124_0
    replace hx124_1 := hc_ HB hx124_1
    replace hx124_2 := hc_ HB hx124_2
    replace p124 := eq_true p124
    replace q124 := eq_true q124
    try go_wp2_with (first | ((with_reducible refine gate_dst (N := 6) rfl ?_); (try (refine gate_guard (by rfl) ?_; dsimp only)); refine box_event ?hg (N := 6) ?hd (cs := #[.int .i64 0, .int .i64 0, .int .i64 0]) (t := 27) ?hr ?_; (case hd => rfl); (case hg => rfl); (case hr => first | (go_simp; done) | (go_simp; rfl)); intro gb125 hg w23 hbox hb; have BK125 := Aside0.mk (hbox); have GW125 := gw_ hg HB; have GE125 := gw_ hg HB; replace HB := bst_ HB hb; clear hb hbox hg; obtain ⟨hcz24_0, hcz24_1, hcz24_2⟩ := bcs3_ BK125; have hfz24_0 := blk_frozen BK125.out 0; have hfz24_1 := blk_frozen BK125.out 1; have hfz24_2 := blk_frozen BK125.out 2))
    have n0_ : Aside0 ((((w23.setCell ⟨gb125, 0, none⟩ (.int .i64 ((rd_T27 l1 x9_1).f0))).setCell ⟨gb125, 1, none⟩ (.int .i64 ((rd_T27 l1 x9_1).f1))).setCell ⟨gb125, 2, none⟩ (.int .i64 ((rd_T27 l1 x9_1).f2))).heap[gb125]? = some (.cells #[.int .i64 ((rd_T27 l1 x9_1).f0), .int .i64 ((rd_T27 l1 x9_1).f1), .int .i64 ((rd_T27 l1 x9_1).f2)] 27 (0, 0))) := ⟨by (with_reducible repeat (first | refine blk_drewN ?_ _ | refine blk_drew ?_ | refine blk_alloc ?_ _)); refine blk_put (cs := #[.int .i64 ((rd_T27 l1 x9_1).f0), .int .i64 ((rd_T27 l1 x9_1).f1), .int .i64 0]) ?_ 2 _ rfl; (with_reducible repeat (first | refine blk_drewN ?_ _ | refine blk_drew ?_ | refine blk_alloc ?_ _)); refine blk_put (cs := #[.int .i64 ((rd_T27 l1 x9_1).f0), .int .i64 0, .int .i64 0]) ?_ 1 _ rfl; (with_reducible repeat (first | refine blk_drewN ?_ _ | refine blk_drew ?_ | refine blk_alloc ?_ _)); refine blk_put (cs := #[.int .i64 0, .int .i64 0, .int .i64 0]) ?_ 0 _ rfl; (with_reducible repeat (first | refine blk_drewN ?_ _ | refine blk_drew ?_ | refine blk_alloc ?_ _)); exact BK125.out⟩
    have n1_ : Aside0 (Below w.heap.size w (((w23.setCell ⟨gb125, 0, none⟩ (.int .i64 ((rd_T27 l1 x9_1).f0))).setCell ⟨gb125, 1, none⟩ (.int .i64 ((rd_T27 l1 x9_1).f1))).setCell ⟨gb125, 2, none⟩ (.int .i64 ((rd_T27 l1 x9_1).f2)))) := ⟨hB HB⟩
    (try clear BK125)
    (try clear HB)
    generalize (((w23.setCell ⟨gb125, 0, none⟩ (.int .i64 ((rd_T27 l1 x9_1).f0))).setCell ⟨gb125, 1, none⟩ (.int .i64 ((rd_T27 l1 x9_1).f1))).setCell ⟨gb125, 2, none⟩ (.int .i64 ((rd_T27 l1 x9_1).f2))) = w25 at n0_ n1_ ⊢
    have BK125 := n0_
    have HB := n1_
    clear n0_ n1_
    replace BK125 := bd_ BK125
    replace HB := Aside0.mk (below_drew1 HB.out)
    refine start_ (n := 18) (S := fun w' => w'.cell? ⟨gb125, 0, none⟩ = some (.int .i64 ((rd_T27 l1 x9_1).f0)) ∧ w'.cell? ⟨gb125, 1, none⟩ = some (.int .i64 ((rd_T27 l1 x9_1).f1)) ∧ w'.cell? ⟨gb125, 2, none⟩ = some (.int .i64 ((rd_T27 l1 x9_1).f2))) (ds := []) (bs 18 0) (by kernel_rfl) rfl rfl ⟨bc_ BK125 0, bc_ BK125 1, bc_ BK125 2⟩ (fun hHeld => ?_); refine with_tabW spec_l13Heard.tab4 spec_l13Heard.bits4 (fun HT_ HW_ => ?_)
    generalize w25.drew = w26 at BK125 HB hHeld ⊢
    refine tk_ 0 14 (bs 18 1) HT_ HW_ hHeld ?_
    refine on_ 1 (some 15) (bs 18 3) HT_ (fun K hK => ?_)
    refine goes_ Try.func24 (by kernel_rfl) rfl #[.agg #[.int .i64 ((rd_T27 l1 x9_1).f0), .int .i64 ((rd_T27 l1 x9_1).f1), .int .i64 ((rd_T27 l1 x9_1).f2)]] (by rfl) rfl rfl tm_ ?_
    with_reducible refine (spec_l13Row.calls ((rd_T27 l1 x9_1).f0) ((rd_T27 l1 x9_1).f1) ((rd_T27 l1 x9_1).f2) true _ A6.out).mono ?_
    rintro e w27 ⟨rfl, hb⟩
    refine ⟨_, rfl, ?_⟩
    replace BK125 := bb_ BK125 hb
    replace HB := bst_ HB hb
    clear hb
    refine hK.out _ _ ⟨bc_ BK125 0, bc_ BK125 1, bc_ BK125 2⟩ (fun hHeld => ?_)
    clear hK K
    refine nm_ 15 ?_
    refine pu_ 2 16 (bs 18 7) HT_ ?_
    refine pu_ 3 17 (bs 18 15) HT_ ?_
    refine pu_ 4 18 (bs 18 31) HT_ ?_
    refine pu_ 5 19 (bs 18 63) HT_ ?_
    refine pu_ 6 20 (bs 18 127) HT_ ?_
    refine pn_ 7 21 (bs 18 255) HT_ ?_
    refine pn_ 8 22 (bs 18 511) HT_ ?_
    refine pn_ 9 23 (bs 18 1023) HT_ ?_
    refine pn_ 10 24 (bs 18 2047) HT_ ?_
    refine pn_ 11 25 (bs 18 4095) HT_ ?_
    refine pn_ 12 26 (bs 18 8191) HT_ ?_
    refine pn_ 13 27 (bs 18 16383) HT_ ?_
    refine pn_ 14 28 (bs 18 32767) HT_ ?_
    refine pn_ 15 29 (bs 18 65535) HT_ ?_
    refine pu_ 16 30 (bs 18 131071) HT_ ?_
    refine pu_ 17 31 (bs 18 262143) HT_ ?_
    refine done_ (done_of HT_.out (by kernel_rfl)) ?_
    try go_wp2
    go_roundg k1
    case measure => have := HK1.out; omega
    case rel => exact ⟨(wrap64 (x9_1 + 1)), (by first | rfl | (simp; done) | (simp [*]; done)), H', ⟨by have := HK1.out; omega⟩, ⟨hB HB⟩⟩
   rw [if_pos c8] at H
   have c8b0 : decide (0 < x9_1) = true := decide_eq_true c8
   clear c8
   obtain ⟨ji9, hji9⟩ : ∃ j_ : Int, (wrap64 (x9_1 - 1)) = j_ := ⟨_, rfl⟩
   replace H : (if 0 ≤ (ji9) then (if (ji9) < (l1.length : Int) then (if ((rd_T27 l1 (ji9)).f2) > ((rd_T27 l1 x9_1).f2) then (some false) else (spec_l13Heard.l0 k1 a0 l1 l1 (l1.length : Int) (wrap64 (x9_1 + 1)))) else (none)) else (none)) = some r := by first | (rw [hji9] at H; exact H) | (simp only [hji9] at H ⊢; exact H)
   (try rw [hji9] at A6)
   have hji9w : (IntKind.i64.wrap (x9_1 - 1)) = ji9 := (i64_w _).trans hji9
   by_cases c10 : 0 ≤ (ji9)
   rotate_left
   ·rw [if_neg c10] at H
    exact absurd H (by simp)
   rw [if_pos c10] at H
   have c10b0 : decide (0 ≤ (ji9)) = true := decide_eq_true c10
   clear c10
   by_cases c11 : (ji9) < (l1.length : Int)
   rotate_left
   ·rw [if_neg c11] at H
    exact absurd H (by simp)
   rw [if_pos c11] at H
   have c11b0 : decide ((ji9) < (l1.length : Int)) = true := decide_eq_true c11
   clear c11
   by_cases c12 : ((rd_T27 l1 (ji9)).f2) > ((rd_T27 l1 x9_1).f2)
   rotate_left
   ·rw [if_neg c12] at H
    have c12b0 : decide (((rd_T27 l1 x9_1).f2) < ((rd_T27 l1 (ji9)).f2)) = false := decide_eq_false c12
    clear c12
    have H' := Aside0.mk H
    clear H
    have p124 : 0 ≤ (x9_1 : Int) := od_
    have q124 : x9_1 < (l1.length : Int) := od_
    obtain ⟨ad124, e124, hx124_0, hx124_1, hx124_2⟩ := at_T27 HR1.out x9_1 p124 q124
    cases e124
    replace hx124_0 := hc_ HB hx124_0
    replace hx124_1 := hc_ HB hx124_1
    replace hx124_2 := hc_ HB hx124_2
    replace p124 := eq_true p124
    replace q124 := eq_true q124
    try go_wp2_with (first | ((with_reducible refine gate_dst (N := 6) rfl ?_); (try (refine gate_guard (by rfl) ?_; dsimp only)); refine box_event ?hg (N := 6) ?hd (cs := #[.int .i64 0, .int .i64 0, .int .i64 0]) (t := 27) ?hr ?_; (case hd => rfl); (case hg => rfl); (case hr => first | (go_simp; done) | (go_simp; rfl)); intro gb125 hg w18 hbox hb; have BK125 := Aside0.mk (hbox); have GW125 := gw_ hg HB; have GE125 := gw_ hg HB; replace HB := bst_ HB hb; clear hb hbox hg; obtain ⟨hcz19_0, hcz19_1, hcz19_2⟩ := bcs3_ BK125; have hfz19_0 := blk_frozen BK125.out 0; have hfz19_1 := blk_frozen BK125.out 1; have hfz19_2 := blk_frozen BK125.out 2))
    have n0_ : Aside0 ((((w18.setCell ⟨gb125, 0, none⟩ (.int .i64 ((rd_T27 l1 x9_1).f0))).setCell ⟨gb125, 1, none⟩ (.int .i64 ((rd_T27 l1 x9_1).f1))).setCell ⟨gb125, 2, none⟩ (.int .i64 ((rd_T27 l1 x9_1).f2))).heap[gb125]? = some (.cells #[.int .i64 ((rd_T27 l1 x9_1).f0), .int .i64 ((rd_T27 l1 x9_1).f1), .int .i64 ((rd_T27 l1 x9_1).f2)] 27 (0, 0))) := ⟨by (with_reducible repeat (first | refine blk_drewN ?_ _ | refine blk_drew ?_ | refine blk_alloc ?_ _)); refine blk_put (cs := #[.int .i64 ((rd_T27 l1 x9_1).f0), .int .i64 ((rd_T27 l1 x9_1).f1), .int .i64 0]) ?_ 2 _ rfl; (with_reducible repeat (first | refine blk_drewN ?_ _ | refine blk_drew ?_ | refine blk_alloc ?_ _)); refine blk_put (cs := #[.int .i64 ((rd_T27 l1 x9_1).f0), .int .i64 0, .int .i64 0]) ?_ 1 _ rfl; (with_reducible repeat (first | refine blk_drewN ?_ _ | refine blk_drew ?_ | refine blk_alloc ?_ _)); refine blk_put (cs := #[.int .i64 0, .int .i64 0, .int .i64 0]) ?_ 0 _ rfl; (with_reducible repeat (first | refine blk_drewN ?_ _ | refine blk_drew ?_ | refine blk_alloc ?_ _)); exact BK125.out⟩
    have n1_ : Aside0 (Below w.heap.size w (((w18.setCell ⟨gb125, 0, none⟩ (.int .i64 ((rd_T27 l1 x9_1).f0))).setCell ⟨gb125, 1, none⟩ (.int .i64 ((rd_T27 l1 x9_1).f1))).setCell ⟨gb125, 2, none⟩ (.int .i64 ((rd_T27 l1 x9_1).f2)))) := ⟨hB HB⟩
    (try clear BK125)
    (try clear HB)
    generalize (((w18.setCell ⟨gb125, 0, none⟩ (.int .i64 ((rd_T27 l1 x9_1).f0))).setCell ⟨gb125, 1, none⟩ (.int .i64 ((rd_T27 l1 x9_1).f1))).setCell ⟨gb125, 2, none⟩ (.int .i64 ((rd_T27 l1 x9_1).f2))) = w20 at n0_ n1_ ⊢
    have BK125 := n0_
    have HB := n1_
    clear n0_ n1_
    replace BK125 := bd_ BK125
    replace HB := Aside0.mk (below_drew1 HB.out)
    have p127 : 0 ≤ ((ji9) : Int) := od_
    have q127 : (ji9) < (l1.length : Int) := od_
    obtain ⟨ad127, e127, hx127_0, hx127_1, hx127_2⟩ := at_T27 HR1.out (ji9) p127 q127
    have hw127_2 := hx127_2
    have hw127_1 := hx127_1
    have hw127_0 := hx127_0
    obtain rfl : ad124 = ad127 := (by injection e127)
    replace hx127_0 := hc_ HB hx127_0
    replace hx127_1 := hc_ HB hx127_1
    replace hx127_2 := hc_ HB hx127_2
    replace p127 := eq_true p127
    replace q127 := eq_true q127
    refine start_ (n := 18) (S := fun w' => w'.cell? ⟨gb125, 0, none⟩ = some (.int .i64 ((rd_T27 l1 x9_1).f0)) ∧ w'.cell? ⟨gb125, 1, none⟩ = some (.int .i64 ((rd_T27 l1 x9_1).f1)) ∧ w'.cell? ⟨gb125, 2, none⟩ = some (.int .i64 ((rd_T27 l1 x9_1).f2)) ∧ w'.cell? (ad124.add (((ji9)).toNat * 3)) = some (.int .i64 ((rd_T27 l1 (ji9)).f0)) ∧ w'.cell? ⟨(ad124.add (((ji9)).toNat * 3)).block, (ad124.add (((ji9)).toNat * 3)).off + 1, none⟩ = some (.int .i64 ((rd_T27 l1 (ji9)).f1)) ∧ w'.cell? ⟨(ad124.add (((ji9)).toNat * 3)).block, (ad124.add (((ji9)).toNat * 3)).off + 2, none⟩ = some (.int .i64 ((rd_T27 l1 (ji9)).f2))) (ds := []) (bs 18 0) (by kernel_rfl) rfl rfl ⟨bc_ BK125 0, bc_ BK125 1, bc_ BK125 2, ((HB.out.cell (World.block_lt_of_cell? w _ hw127_0)).trans hw127_0), ((HB.out.cell (World.block_lt_of_cell? w _ hw127_1)).trans hw127_1), ((HB.out.cell (World.block_lt_of_cell? w _ hw127_2)).trans hw127_2)⟩ (fun hHeld => ?_); refine with_tabW spec_l13Heard.tab4 spec_l13Heard.bits4 (fun HT_ HW_ => ?_)
    generalize w20.drew = w21 at BK125 HB hx127_0 hx127_1 hx127_2 hHeld ⊢
    refine tk_ 0 14 (bs 18 1) HT_ HW_ hHeld ?_
    refine on_ 1 (some 15) (bs 18 3) HT_ (fun K hK => ?_)
    refine goes_ Try.func24 (by kernel_rfl) rfl #[.agg #[.int .i64 ((rd_T27 l1 x9_1).f0), .int .i64 ((rd_T27 l1 x9_1).f1), .int .i64 ((rd_T27 l1 x9_1).f2)]] (by rfl) rfl rfl tm_ ?_
    with_reducible refine (spec_l13Row.calls ((rd_T27 l1 x9_1).f0) ((rd_T27 l1 x9_1).f1) ((rd_T27 l1 x9_1).f2) true _ A6.out).mono ?_
    rintro e w22 ⟨rfl, hb⟩
    refine ⟨_, rfl, ?_⟩
    replace BK125 := bb_ BK125 hb
    replace HB := bst_ HB hb
    clear hb
    refine hK.out _ _ ⟨bc_ BK125 0, bc_ BK125 1, bc_ BK125 2, ((HB.out.cell (World.block_lt_of_cell? w _ hw127_0)).trans hw127_0), ((HB.out.cell (World.block_lt_of_cell? w _ hw127_1)).trans hw127_1), ((HB.out.cell (World.block_lt_of_cell? w _ hw127_2)).trans hw127_2)⟩ (fun hHeld => ?_)
    clear hK K
    refine nm_ 15 ?_
    refine pu_ 2 16 (bs 18 7) HT_ ?_
    refine pu_ 3 17 (bs 18 15) HT_ ?_
    refine pu_ 4 18 (bs 18 31) HT_ ?_
    refine pu_ 5 19 (bs 18 63) HT_ ?_
    refine pu_ 6 20 (bs 18 127) HT_ ?_
    refine pu_ 7 21 (bs 18 255) HT_ ?_
    refine pu_ 8 22 (bs 18 511) HT_ ?_
    refine pu_ 9 23 (bs 18 1023) HT_ ?_
    refine pu_ 10 24 (bs 18 2047) HT_ ?_
    refine pu_ 11 25 (bs 18 4095) HT_ ?_
    refine pu_ 13 27 (bs 18 12287) HT_ ?_
    refine tk_ 12 26 (bs 18 16383) HT_ HW_ hHeld ?_
    refine tk_ 14 28 (bs 18 32767) HT_ HW_ hHeld ?_
    refine pu_ 15 29 (bs 18 65535) HT_ ?_
    refine pu_ 16 30 (bs 18 131071) HT_ ?_
    refine pu_ 17 31 (bs 18 262143) HT_ ?_
    refine done_ (done_of HT_.out (by kernel_rfl)) ?_
    try go_wp2
    go_roundg k1
    case measure => have := HK1.out; omega
    case rel => exact ⟨(wrap64 (x9_1 + 1)), (by first | rfl | (simp; done) | (simp [*]; done)), H', ⟨by have := HK1.out; omega⟩, ⟨hB HB⟩⟩
   rw [if_pos c12] at H
   have c12b0 : decide (((rd_T27 l1 x9_1).f2) < ((rd_T27 l1 (ji9)).f2)) = true := decide_eq_true c12
   clear c12
   obtain rfl := Option.some.inj H
   have p124 : 0 ≤ (x9_1 : Int) := od_
   have q124 : x9_1 < (l1.length : Int) := od_
   obtain ⟨ad124, e124, hx124_0, hx124_1, hx124_2⟩ := at_T27 HR1.out x9_1 p124 q124
   cases e124
   replace hx124_0 := hc_ HB hx124_0
   replace hx124_1 := hc_ HB hx124_1
   replace hx124_2 := hc_ HB hx124_2
   replace p124 := eq_true p124
   replace q124 := eq_true q124
   try go_wp2_with (first | ((with_reducible refine gate_dst (N := 6) rfl ?_); (try (refine gate_guard (by rfl) ?_; dsimp only)); refine box_event ?hg (N := 6) ?hd (cs := #[.int .i64 0, .int .i64 0, .int .i64 0]) (t := 27) ?hr ?_; (case hd => rfl); (case hg => rfl); (case hr => first | (go_simp; done) | (go_simp; rfl)); intro gb125 hg w13 hbox hb; have BK125 := Aside0.mk (hbox); have GW125 := gw_ hg HB; have GE125 := gw_ hg HB; replace HB := bst_ HB hb; clear hb hbox hg; obtain ⟨hcz14_0, hcz14_1, hcz14_2⟩ := bcs3_ BK125; have hfz14_0 := blk_frozen BK125.out 0; have hfz14_1 := blk_frozen BK125.out 1; have hfz14_2 := blk_frozen BK125.out 2))
   have n0_ : Aside0 ((((w13.setCell ⟨gb125, 0, none⟩ (.int .i64 ((rd_T27 l1 x9_1).f0))).setCell ⟨gb125, 1, none⟩ (.int .i64 ((rd_T27 l1 x9_1).f1))).setCell ⟨gb125, 2, none⟩ (.int .i64 ((rd_T27 l1 x9_1).f2))).heap[gb125]? = some (.cells #[.int .i64 ((rd_T27 l1 x9_1).f0), .int .i64 ((rd_T27 l1 x9_1).f1), .int .i64 ((rd_T27 l1 x9_1).f2)] 27 (0, 0))) := ⟨by (with_reducible repeat (first | refine blk_drewN ?_ _ | refine blk_drew ?_ | refine blk_alloc ?_ _)); refine blk_put (cs := #[.int .i64 ((rd_T27 l1 x9_1).f0), .int .i64 ((rd_T27 l1 x9_1).f1), .int .i64 0]) ?_ 2 _ rfl; (with_reducible repeat (first | refine blk_drewN ?_ _ | refine blk_drew ?_ | refine blk_alloc ?_ _)); refine blk_put (cs := #[.int .i64 ((rd_T27 l1 x9_1).f0), .int .i64 0, .int .i64 0]) ?_ 1 _ rfl; (with_reducible repeat (first | refine blk_drewN ?_ _ | refine blk_drew ?_ | refine blk_alloc ?_ _)); refine blk_put (cs := #[.int .i64 0, .int .i64 0, .int .i64 0]) ?_ 0 _ rfl; (with_reducible repeat (first | refine blk_drewN ?_ _ | refine blk_drew ?_ | refine blk_alloc ?_ _)); exact BK125.out⟩
   have n1_ : Aside0 (Below w.heap.size w (((w13.setCell ⟨gb125, 0, none⟩ (.int .i64 ((rd_T27 l1 x9_1).f0))).setCell ⟨gb125, 1, none⟩ (.int .i64 ((rd_T27 l1 x9_1).f1))).setCell ⟨gb125, 2, none⟩ (.int .i64 ((rd_T27 l1 x9_1).f2)))) := ⟨hB HB⟩
   (try clear BK125)
   (try clear HB)
   generalize (((w13.setCell ⟨gb125, 0, none⟩ (.int .i64 ((rd_T27 l1 x9_1).f0))).setCell ⟨gb125, 1, none⟩ (.int .i64 ((rd_T27 l1 x9_1).f1))).setCell ⟨gb125, 2, none⟩ (.int .i64 ((rd_T27 l1 x9_1).f2))) = w15 at n0_ n1_ ⊢
   have BK125 := n0_
   have HB := n1_
   clear n0_ n1_
   replace BK125 := bd_ BK125
   replace HB := Aside0.mk (below_drew1 HB.out)
   have p127 : 0 ≤ ((ji9) : Int) := od_
   have q127 : (ji9) < (l1.length : Int) := od_
   obtain ⟨ad127, e127, hx127_0, hx127_1, hx127_2⟩ := at_T27 HR1.out (ji9) p127 q127
   have hw127_2 := hx127_2
   have hw127_1 := hx127_1
   have hw127_0 := hx127_0
   obtain rfl : ad124 = ad127 := (by injection e127)
   replace hx127_0 := hc_ HB hx127_0
   replace hx127_1 := hc_ HB hx127_1
   replace hx127_2 := hc_ HB hx127_2
   replace p127 := eq_true p127
   replace q127 := eq_true q127
   refine start_ (n := 18) (S := fun w' => w'.cell? ⟨gb125, 0, none⟩ = some (.int .i64 ((rd_T27 l1 x9_1).f0)) ∧ w'.cell? ⟨gb125, 1, none⟩ = some (.int .i64 ((rd_T27 l1 x9_1).f1)) ∧ w'.cell? ⟨gb125, 2, none⟩ = some (.int .i64 ((rd_T27 l1 x9_1).f2)) ∧ w'.cell? (ad124.add (((ji9)).toNat * 3)) = some (.int .i64 ((rd_T27 l1 (ji9)).f0)) ∧ w'.cell? ⟨(ad124.add (((ji9)).toNat * 3)).block, (ad124.add (((ji9)).toNat * 3)).off + 1, none⟩ = some (.int .i64 ((rd_T27 l1 (ji9)).f1)) ∧ w'.cell? ⟨(ad124.add (((ji9)).toNat * 3)).block, (ad124.add (((ji9)).toNat * 3)).off + 2, none⟩ = some (.int .i64 ((rd_T27 l1 (ji9)).f2))) (ds := []) (bs 18 0) (by kernel_rfl) rfl rfl ⟨bc_ BK125 0, bc_ BK125 1, bc_ BK125 2, ((HB.out.cell (World.block_lt_of_cell? w _ hw127_0)).trans hw127_0), ((HB.out.cell (World.block_lt_of_cell? w _ hw127_1)).trans hw127_1), ((HB.out.cell (World.block_lt_of_cell? w _ hw127_2)).trans hw127_2)⟩ (fun hHeld => ?_); refine with_tabW spec_l13Heard.tab4 spec_l13Heard.bits4 (fun HT_ HW_ => ?_)
   generalize w15.drew = w16 at BK125 HB hx127_0 hx127_1 hx127_2 hHeld ⊢
   refine tk_ 0 14 (bs 18 1) HT_ HW_ hHeld ?_
   refine on_ 1 (some 15) (bs 18 3) HT_ (fun K hK => ?_)
   refine goes_ Try.func24 (by kernel_rfl) rfl #[.agg #[.int .i64 ((rd_T27 l1 x9_1).f0), .int .i64 ((rd_T27 l1 x9_1).f1), .int .i64 ((rd_T27 l1 x9_1).f2)]] (by rfl) rfl rfl tm_ ?_
   with_reducible refine (spec_l13Row.calls ((rd_T27 l1 x9_1).f0) ((rd_T27 l1 x9_1).f1) ((rd_T27 l1 x9_1).f2) true _ A6.out).mono ?_
   rintro e w17 ⟨rfl, hb⟩
   refine ⟨_, rfl, ?_⟩
   replace BK125 := bb_ BK125 hb
   replace HB := bst_ HB hb
   clear hb
   refine hK.out _ _ ⟨bc_ BK125 0, bc_ BK125 1, bc_ BK125 2, ((HB.out.cell (World.block_lt_of_cell? w _ hw127_0)).trans hw127_0), ((HB.out.cell (World.block_lt_of_cell? w _ hw127_1)).trans hw127_1), ((HB.out.cell (World.block_lt_of_cell? w _ hw127_2)).trans hw127_2)⟩ (fun hHeld => ?_)
   clear hK K
   refine nm_ 15 ?_
   refine pu_ 2 16 (bs 18 7) HT_ ?_
   refine pu_ 3 17 (bs 18 15) HT_ ?_
   refine pu_ 4 18 (bs 18 31) HT_ ?_
   refine pu_ 5 19 (bs 18 63) HT_ ?_
   refine pu_ 6 20 (bs 18 127) HT_ ?_
   refine pu_ 7 21 (bs 18 255) HT_ ?_
   refine pu_ 8 22 (bs 18 511) HT_ ?_
   refine pu_ 9 23 (bs 18 1023) HT_ ?_
   refine pu_ 10 24 (bs 18 2047) HT_ ?_
   refine pu_ 11 25 (bs 18 4095) HT_ ?_
   refine pu_ 13 27 (bs 18 12287) HT_ ?_
   refine tk_ 12 26 (bs 18 16383) HT_ HW_ hHeld ?_
   refine tk_ 14 28 (bs 18 32767) HT_ HW_ hHeld ?_
   refine pu_ 15 29 (bs 18 65535) HT_ ?_
   refine pu_ 16 30 (bs 18 131071) HT_ ?_
   refine pu_ 17 31 (bs 18 262143) HT_ ?_
   refine done_ (done_of HT_.out (by kernel_rfl)) ?_
   try go_wp2
   go_ret
   exact ⟨by first | rfl | (simp [errW_none, errW_some] <;> rfl) | (simp only [← hji9]; first | rfl | (simp [errW_none, errW_some] <;> rfl)) | (simp [*, errW_none, errW_some] <;> rfl), hB HB⟩

def spec_PlayTable.l0 : Nat → List (S27) → Int → Int → Int → List (S27) → Option (Int × (List (S27)) × Bool)
 | 0, _, _, _, _, _ => none
 | k + 1, x16, x17, x18, x132000, x132001 => if x18 < x17 then (if 0 ≤ x18 then (if x18 < (x16.length : Int) then ((spec_l13Learn.f k x132000 x132001 ((rd_T27 x16 x18).f0) ((rd_T27 x16 x18).f1) ((rd_T27 x16 x18).f2)).bind fun bt134 => (spec_PlayTable.l0 k x16 x17 (wrap64 (x18 + 1)) bt134.1 bt134.2)) else (none)) else (none)) else (some (x132000, x132001, true))
def spec_PlayTable.f (k : Nat) (a0 : Int) (l1 : List (S27)) : Option (Int × (List (S27)) × Bool) := (spec_l13Heard.f k a0 l1).bind fun t130 => (if t130 = true then (spec_PlayTable.l0 k l1 (l1.length : Int) 0 a0 ([] : List (S27))) else (some (0, ([] : List (S27)), false)))
theorem spec_PlayTable.mono_l : ∀ k, (∀ y0 y1 y2 y3 y4, LeO (spec_PlayTable.l0 k y0 y1 y2 y3 y4) (spec_PlayTable.l0 (k + 1) y0 y1 y2 y3 y4))
 | 0 => fun _ _ _ _ _ r h => by simp [spec_PlayTable.l0] at h
 | k + 1 => by
  have ih0 := spec_PlayTable.mono_l k
  ·intro y0 y1 y2 y3 y4
   unfold spec_PlayTable.l0
   repeat' first
   | (with_reducible exact ih0 _ _ _ _ _)
   | (with_reducible exact spec_l13Heard.mono _ _ _)
   | (with_reducible exact spec_l13Learn.mono _ _ _ _ _ _)
   | with_reducible first | exact LeO.refl _ | exact LeO.none _ | refine LeO.ite ?_ ?_ | refine LeO.bind ?_ fun _ => ?_
theorem spec_PlayTable.mono : ∀ a0 a1 k, LeO (spec_PlayTable.f k a0 a1) (spec_PlayTable.f (k + 1) a0 a1) := by
 intro a0 a1 k
 have ih0 := spec_PlayTable.mono_l k
 unfold spec_PlayTable.f
 repeat' first
   | (with_reducible exact ih0 _ _ _ _ _)
   | (with_reducible exact spec_l13Heard.mono _ _ _)
   | (with_reducible exact spec_l13Learn.mono _ _ _ _ _ _)
   | with_reducible first | exact LeO.refl _ | exact LeO.none _ | refine LeO.ite ?_ ?_ | refine LeO.bind ?_ fun _ => ?_
set_option maxHeartbeats 8000000 in
set_option maxRecDepth 100000 in
theorem spec_PlayTable.calls (k : Nat) (a0 : Int) (A1 : Option Addr) (c1 : Nat) (l1 : List (S27)) (r1 : Int) (r2 : List (S27)) (r3 : Bool) (w : World) (hr1 : Kd.C k27 w A1 l1.length l1) (hc1 : l1.length ≤ c1) (h : spec_PlayTable.f k a0 l1 = some (r1, r2, r3)) :
  Calls Try.prog 33 #[.int .i64 a0, .slice A1 l1.length c1] w fun e w' => ∃ v1_ : Value, e = .returned (.tuple #[.agg #[.int .i64 r1, v1_], .bool r3]) ∧ Kd.R k27 27 w' w.heap.size (fun _ => True) v1_ r2 ∧ Below w.heap.size w w' := by
 have hu25 := Try.underlying25
 have hu27 := Try.underlying27
 have HR1 := Aside0.mk hr1
 have HC1 := Aside0.mk hc1
 clear hr1 hc1
 have HB := Aside0.mk (Below.refl w.heap.size w)
 have H : ((spec_l13Heard.f k a0 l1).bind fun t130 => (if t130 = true then (spec_PlayTable.l0 k l1 (l1.length : Int) 0 a0 ([] : List (S27))) else (some (0, ([] : List (S27)), false)))) = some (r1, r2, r3) := h
 clear h
 replace H := Option.bind_eq_some_iff.mp H
 obtain ⟨t130, A30, H⟩ := H
 replace H : (if t130 = true then (spec_PlayTable.l0 k l1 (l1.length : Int) 0 a0 ([] : List (S27))) else (some (0, ([] : List (S27)), false))) = some (r1, r2, r3) := H
 have A3 := Aside0.mk A30
 clear A30
 by_cases c4 : t130 = true
 rotate_left
 ·replace c4 := Bool.eq_false_iff.mpr c4
  subst c4
  rw [if_neg (show ¬ (false = true) by decide)] at H
  simp only [Option.some.injEq, Prod.mk.injEq] at H
  obtain ⟨rfl, rfl, rfl⟩ := H
  go_enter Try.func33, Try.ntmps33
  go_wp2_with (first | ((with_reducible refine gate_dst (N := 4) rfl ?_); refine box_event ?hg (N := 4) ?hd (cs := #[.int .i64 0, .slice none 0 0]) (t := 25) ?hr ?_; (case hd => rfl); (case hg => rfl); (case hr => first | (go_simp; done) | (go_simp; rfl)); intro gb129 hg w28 hbox hb; have BK129 := Aside0.mk (hbox); have GW129 := gw_ hg HB; have GE129 := gw_ hg HB; replace HB := bst_ HB hb; clear hb hbox hg) | (refine goesL_ (some 11) rfl rfl Try.func39 (by kernel_rfl) rfl #[.int .i64 a0, .slice A1 l1.length c1] rfl tm_ ?_; (with_reducible refine (spec_l13Heard.calls k a0 _ _ l1 false _ ?side1 ?side2 A3.out).mono ?_); (case side1 => exact cb_ HR1 HB); (case side2 => exact HC1.out); rintro e w29 ⟨rfl, hb⟩; refine ⟨_, rfl, ?_⟩; replace BK129 := bb_ BK129 hb; replace HB := bst_ HB hb; clear hb; obtain ⟨hcz30_0, hcz30_1⟩ := bcs2_ BK129; have hfz30_0 := blk_frozen BK129.out 0; have hfz30_1 := blk_frozen BK129.out 1))
  refine bodyPost_ret (results_ct rfl _ _ gb129 25 #[.int .i64 0, .slice none 0 0] (0, 0) _ rfl (by (with_reducible repeat (first | refine blk_drewN ?_ _ | refine blk_drew ?_ | refine blk_alloc ?_ _)); refine blk_put (cs := #[.int .i64 0, .slice none 0 0]) ?_ 1 _ rfl; (with_reducible repeat (first | refine blk_drewN ?_ _ | refine blk_drew ?_ | refine blk_alloc ?_ _)); refine blk_put (cs := #[.int .i64 0, .slice none 0 0]) ?_ 0 _ rfl; (with_reducible repeat (first | refine blk_drewN ?_ _ | refine blk_drew ?_ | refine blk_alloc ?_ _)); exact BK129.out) Try.underlying25 rfl (by kernel_rfl)) rfl ?_
  exact ⟨_, rt_, by first | exact Kd.R_nil _ _ _ _ _ | exact Kd.N_nil _ _ _ _ _ | exact Kd.V_nil _ _ _ _ _ | exact Kd.Q_nil _ _ _ _ _ | exact Kd.S_nil _ _ _ _ _, hB HB⟩
 subst c4
 rw [if_pos rfl] at H
 have H' := Aside0.mk H
 clear H
 go_enter Try.func33, Try.ntmps33
 go_wp2_with (first | ((with_reducible refine gate_dst (N := 4) rfl ?_); refine box_event ?hg (N := 4) ?hd (cs := #[.int .i64 0, .slice none 0 0]) (t := 25) ?hr ?_; (case hd => rfl); (case hg => rfl); (case hr => first | (go_simp; done) | (go_simp; rfl)); intro gb129 hg w5 hbox hb; have BK129 := Aside0.mk (hbox); have GW129 := gw_ hg HB; have GE129 := gw_ hg HB; replace HB := bst_ HB hb; clear hb hbox hg) | (refine goesL_ (some 11) rfl rfl Try.func39 (by kernel_rfl) rfl #[.int .i64 a0, .slice A1 l1.length c1] rfl tm_ ?_; (with_reducible refine (spec_l13Heard.calls k a0 _ _ l1 true _ ?side1 ?side2 A3.out).mono ?_); (case side1 => exact cb_ HR1 HB); (case side2 => exact HC1.out); rintro e w6 ⟨rfl, hb⟩; refine ⟨_, rfl, ?_⟩; replace BK129 := bb_ BK129 hb; replace HB := bst_ HB hb; clear hb) | ((with_reducible refine gate_dst (N := 6) rfl ?_); refine box_event ?hg (N := 6) ?hd (cs := #[.int .i64 0, .slice none 0 0]) (t := 25) ?hr ?_; (case hd => rfl); (case hg => rfl); (case hr => first | (go_simp; done) | (go_simp; rfl)); intro gb131 hg w7 hbox hb; have BK131 := Aside0.mk (hbox); have GW131 := gw_ hg HB; have GE131 := gw_ hg HB; have NB129_131 := nl_ hg BK129; have NB131_129 := ng_ hg BK129; replace BK129 := bb_ BK129 hb; replace HB := bst_ HB hb; clear hb hbox hg; have hnb8 := NB131_129.out; have hnc8 := NB129_131.out; obtain ⟨hcz9_0, hcz9_1⟩ := bcs2_ BK131; have hfz9_0 := blk_frozen BK131.out 0; have hfz9_1 := blk_frozen BK131.out 1))
 go_loopg [18] k (fun kq v18 w' => ∃ (x18_1 : Int) (x132000_1 : Int) (x132001_1 : List (S27)) (u132001 : Value), v18 = .int .i64 x18_1 ∧ Aside0 (spec_PlayTable.l0 kq l1 (l1.length : Int) x18_1 x132000_1 x132001_1 = some (r1, r2, r3)) ∧ Aside0 (kq ≤ k) ∧ Aside0 (Kd.R k27 27 w' w.heap.size (fun _ => True) u132001 x132001_1) ∧ Aside0 (w'.heap[gb129]? = some (.cells #[.int .i64 0, (.slice none 0 0)] 25 (0, 0))) ∧ Aside0 (w'.heap[gb131]? = some (.cells #[.int .i64 x132000_1, u132001] 25 (0, 0))) ∧ Aside0 (Below w.heap.size w w'))
 case atStart => exact ⟨(0), (a0), (([] : List (S27))), (.slice none 0 0), (by first | rfl | (simp; done) | (simp [*]; done)), H', ⟨Nat.le_refl _⟩, ⟨by first | exact Kd.R_nil _ _ _ _ _ | exact Kd.N_nil _ _ _ _ _ | exact Kd.V_nil _ _ _ _ _ | exact Kd.Q_nil _ _ _ _ _ | exact Kd.S_nil _ _ _ _ _⟩, ⟨by (with_reducible repeat (first | refine blk_drewN ?_ _ | refine blk_drew ?_ | refine blk_alloc ?_ _)); refine blk_far ?_ NB129_131.out _; (with_reducible repeat (first | refine blk_drewN ?_ _ | refine blk_drew ?_ | refine blk_alloc ?_ _)); refine blk_far ?_ NB129_131.out _; (with_reducible repeat (first | refine blk_drewN ?_ _ | refine blk_drew ?_ | refine blk_alloc ?_ _)); exact BK129.out⟩, ⟨by (with_reducible repeat (first | refine blk_drewN ?_ _ | refine blk_drew ?_ | refine blk_alloc ?_ _)); refine blk_put (cs := #[.int .i64 a0, .slice none 0 0]) ?_ 1 _ rfl; (with_reducible repeat (first | refine blk_drewN ?_ _ | refine blk_drew ?_ | refine blk_alloc ?_ _)); refine blk_put (cs := #[.int .i64 0, .slice none 0 0]) ?_ 0 _ rfl; (with_reducible repeat (first | refine blk_drewN ?_ _ | refine blk_drew ?_ | refine blk_alloc ?_ _)); exact BK131.out⟩, ⟨hB HB⟩⟩
 case round =>
  clear H'
  try clear c1
  try clear c4
  try clear hcz9_0
  try clear hcz9_1
  try clear hfz9_0
  try clear hfz9_1
  obtain ⟨x18_1, x132000_1, x132001_1, u132001, rfl, HA, HK1, HO_132001, BK129, BK131, HB⟩ := hrel
  cases gk with
  | zero => exact absurd HA.out (by simp [spec_PlayTable.l0])
  | succ k1 =>
   have H := HA.out
   clear HA
   simp only [spec_PlayTable.l0] at H
   by_cases c10 : x18_1 < (l1.length : Int)
   rotate_left
   ·rw [if_neg c10] at H
    have c10b0 : decide (x18_1 < (l1.length : Int)) = false := decide_eq_false c10
    clear c10
    simp only [Option.some.injEq, Prod.mk.injEq] at H
    obtain ⟨rfl, rfl, rfl⟩ := H
    have hnb24 := NB131_129.out
    have hnc24 := NB129_131.out
    have hcz25_0 : wr.cell? ⟨gb131, 0, none⟩ = some (.int .i64 x132000_1) := bc_ BK131 0
    have hcz25_1 : wr.cell? ⟨gb131, 1, none⟩ = some (u132001) := bc_ BK131 1
    have hfz25_0 := blk_frozen BK131.out 0
    have hfz25_1 := blk_frozen BK131.out 1
    have hcz26_0 : wr.cell? ⟨gb129, 0, none⟩ = some (.int .i64 0) := bc_ BK129 0
    have hcz26_1 : wr.cell? ⟨gb129, 1, none⟩ = some (.slice none 0 0) := bc_ BK129 1
    have hfz26_0 := blk_frozen BK129.out 0
    have hfz26_1 := blk_frozen BK129.out 1
    obtain ⟨Ao27, co27, eo27⟩ := Kd.R_slice HO_132001.out
    subst eo27
    go_wp2
    refine bodyPost_ret (results_ct rfl _ _ gb129 25 #[.int .i64 x132000_1, .slice Ao27 x132001_1.length co27] (0, 0) _ rfl (by (with_reducible repeat (first | refine blk_drewN ?_ _ | refine blk_drew ?_ | refine blk_alloc ?_ _)); refine blk_put (cs := #[.int .i64 x132000_1, .slice none 0 0]) ?_ 1 _ rfl; (with_reducible repeat (first | refine blk_drewN ?_ _ | refine blk_drew ?_ | refine blk_alloc ?_ _)); refine blk_put (cs := #[.int .i64 0, .slice none 0 0]) ?_ 0 _ rfl; (with_reducible repeat (first | refine blk_drewN ?_ _ | refine blk_drew ?_ | refine blk_alloc ?_ _)); exact BK129.out) Try.underlying25 rfl (by kernel_rfl)) rfl ?_
    exact ⟨_, rt_, by (with_reducible repeat (first | apply Kd.R_alloc | apply Kd.R_drewN | apply Kd.R_drew)); exact Kd.R_mono (fs2_ HO_132001.out BK129.out) (fun _ hk => trivial), hB HB⟩
   rw [if_pos c10] at H
   have c10b0 : decide (x18_1 < (l1.length : Int)) = true := decide_eq_true c10
   clear c10
   by_cases c11 : 0 ≤ x18_1
   rotate_left
   ·rw [if_neg c11] at H
    exact absurd H (by simp)
   rw [if_pos c11] at H
   have c11b0 : decide (0 ≤ x18_1) = true := decide_eq_true c11
   clear c11
   by_cases c12 : x18_1 < (l1.length : Int)
   rotate_left
   ·rw [if_neg c12] at H
    exact absurd H (by simp)
   rw [if_pos c12] at H
   have c12b0 : decide (x18_1 < (l1.length : Int)) = true := decide_eq_true c12
   clear c12
   replace H := Option.bind_eq_some_iff.mp H
   obtain ⟨⟨t134, t135⟩, A130, H⟩ := H
   replace H : (spec_PlayTable.l0 k1 l1 (l1.length : Int) (wrap64 (x18_1 + 1)) t134 t135) = some (r1, r2, r3) := H
   have A13 := Aside0.mk A130
   clear A130
   have H' := Aside0.mk H
   clear H
   have p132 : 0 ≤ (x18_1 : Int) := od_
   have q132 : x18_1 < (l1.length : Int) := od_
   obtain ⟨ad132, e132, hx132_0, hx132_1, hx132_2⟩ := at_T27 HR1.out x18_1 p132 q132
   cases e132
   replace hx132_0 := hc_ HB hx132_0
   replace hx132_1 := hc_ HB hx132_1
   replace hx132_2 := hc_ HB hx132_2
   replace p132 := eq_true p132
   replace q132 := eq_true q132
   go_wp2_with (first | ((with_reducible refine gate_dst (N := 8) rfl ?_); refine box_event ?hg (N := 8) ?hd (cs := #[.int .i64 0, .int .i64 0, .int .i64 0]) (t := 27) ?hr ?_; (case hd => rfl); (case hg => rfl); (case hr => first | (go_simp; done) | (go_simp; rfl)); intro gb133 hg w14 hbox hb; have BK133 := Aside0.mk (hbox); have GW133 := gw_ hg HB; have GE133 := gw_ hg HB; have NB129_133 := nl_ hg BK129; have NB133_129 := ng_ hg BK129; have NB131_133 := nl_ hg BK131; have NB133_131 := ng_ hg BK131; replace HO_132001 := Aside0.mk (Kd.R_below (Kd.R_elderB (ra HO_132001.out) gb133 (Nat.le_of_eq hg.symm)) hb); replace BK129 := bb_ BK129 hb; replace BK131 := bb_ BK131 hb; replace HB := bst_ HB hb; clear hb hbox hg; have hnb15 := NB133_129.out; have hnc15 := NB129_133.out; have hnb16 := NB133_131.out; have hnc16 := NB131_133.out; obtain ⟨hcz17_0, hcz17_1, hcz17_2⟩ := bcs3_ BK133; have hfz17_0 := blk_frozen BK133.out 0; have hfz17_1 := blk_frozen BK133.out 1; have hfz17_2 := blk_frozen BK133.out 2; have hnb18 := NB131_129.out; have hnc18 := NB129_131.out; obtain ⟨hcz19_0, hcz19_1⟩ := bcs2_ BK131; have hfz19_0 := blk_frozen BK131.out 0; have hfz19_1 := blk_frozen BK131.out 1; obtain ⟨Ao20, co20, eo20⟩ := Kd.R_slice HO_132001.out; subst eo20) | (refine goesL_ (some 24) rfl rfl Try.func25 (by kernel_rfl) rfl #[.agg #[.int .i64 x132000_1, .slice Ao20 x132001_1.length co20], .agg #[.int .i64 ((rd_T27 l1 x18_1).f0), .int .i64 ((rd_T27 l1 x18_1).f1), .int .i64 ((rd_T27 l1 x18_1).f2)]] rfl tm_ ?_; (with_reducible refine (spec_l13Learn.calls k1 x132000_1 _ _ x132001_1 ((rd_T27 l1 x18_1).f0) ((rd_T27 l1 x18_1).f1) ((rd_T27 l1 x18_1).f2) t134 t135 _ ?side1 ?side2 A13.out).mono ?_); (case side1 => exact rr_ (Kd.R_mono (Kd.R_far (p := ⟨gb133, 2, none⟩) (Kd.R_far (p := ⟨gb133, 1, none⟩) (Kd.R_far (p := ⟨gb133, 0, none⟩) (Kd.R_mono HO_132001.out (fun k_ hk => (⟨hk, hk.2⟩ : _ ∧ k_ ≠ gb133))) (fun _ hk => hk.2) (.int .i64 ((rd_T27 l1 x18_1).f0))) (fun _ hk => hk.2) (.int .i64 ((rd_T27 l1 x18_1).f1))) (fun _ hk => hk.2) (.int .i64 ((rd_T27 l1 x18_1).f2))) (fun _ h_ => h_.1))); (case side2 => exact (Kd.R_reads' HO_132001.out).2.1); rintro e w21 ⟨v136, rfl, ho0, hb⟩; refine ⟨_, rfl, ?_⟩; have HO137 := Aside0.mk (Kd.R_lower (Kd.R_newB (Kd.R_new' ho0 (Kd.R_lt (ra (Kd.R_mono (Kd.R_far (p := ⟨gb133, 2, none⟩) (Kd.R_far (p := ⟨gb133, 1, none⟩) (Kd.R_far (p := ⟨gb133, 0, none⟩) (Kd.R_mono HO_132001.out (fun k_ hk => (⟨hk, hk.2⟩ : _ ∧ k_ ≠ gb133))) (fun _ hk => hk.2) (.int .i64 ((rd_T27 l1 x18_1).f0))) (fun _ hk => hk.2) (.int .i64 ((rd_T27 l1 x18_1).f1))) (fun _ hk => hk.2) (.int .i64 ((rd_T27 l1 x18_1).f2))) (fun _ h_ => h_.1))))) (g := gb133) (o := .cells #[.int .i64 ((rd_T27 l1 x18_1).f0), .int .i64 ((rd_T27 l1 x18_1).f1), .int .i64 ((rd_T27 l1 x18_1).f2)] 27 (0, 0)) (by (with_reducible repeat (first | refine blk_drewN ?_ _ | refine blk_drew ?_ | refine blk_alloc ?_ _)); refine blk_put (cs := #[.int .i64 ((rd_T27 l1 x18_1).f0), .int .i64 ((rd_T27 l1 x18_1).f1), .int .i64 0]) ?_ 2 _ rfl; (with_reducible repeat (first | refine blk_drewN ?_ _ | refine blk_drew ?_ | refine blk_alloc ?_ _)); refine blk_put (cs := #[.int .i64 ((rd_T27 l1 x18_1).f0), .int .i64 0, .int .i64 0]) ?_ 1 _ rfl; (with_reducible repeat (first | refine blk_drewN ?_ _ | refine blk_drew ?_ | refine blk_alloc ?_ _)); refine blk_put (cs := #[.int .i64 0, .int .i64 0, .int .i64 0]) ?_ 0 _ rfl; (with_reducible repeat (first | refine blk_drewN ?_ _ | refine blk_drew ?_ | refine blk_alloc ?_ _)); exact BK133.out)) (below_size (hB HB))); replace HO_132001 := Aside0.mk (Kd.R_elder' (ra (Kd.R_mono (Kd.R_far (p := ⟨gb133, 2, none⟩) (Kd.R_far (p := ⟨gb133, 1, none⟩) (Kd.R_far (p := ⟨gb133, 0, none⟩) (Kd.R_mono HO_132001.out (fun k_ hk => (⟨hk, hk.2⟩ : _ ∧ k_ ≠ gb133))) (fun _ hk => hk.2) (.int .i64 ((rd_T27 l1 x18_1).f0))) (fun _ hk => hk.2) (.int .i64 ((rd_T27 l1 x18_1).f1))) (fun _ hk => hk.2) (.int .i64 ((rd_T27 l1 x18_1).f2))) (fun _ h_ => h_.1))) (Kd.R_base ho0) hb); replace BK129 := Aside0.mk (blk_below (bx BK129) hb); replace BK131 := Aside0.mk (blk_below (bx BK131) hb); replace BK133 := Aside0.mk (blk_below (g := gb133) (o := .cells #[.int .i64 ((rd_T27 l1 x18_1).f0), .int .i64 ((rd_T27 l1 x18_1).f1), .int .i64 ((rd_T27 l1 x18_1).f2)] 27 (0, 0)) (by (with_reducible repeat (first | refine blk_drewN ?_ _ | refine blk_drew ?_ | refine blk_alloc ?_ _)); refine blk_put (cs := #[.int .i64 ((rd_T27 l1 x18_1).f0), .int .i64 ((rd_T27 l1 x18_1).f1), .int .i64 0]) ?_ 2 _ rfl; (with_reducible repeat (first | refine blk_drewN ?_ _ | refine blk_drew ?_ | refine blk_alloc ?_ _)); refine blk_put (cs := #[.int .i64 ((rd_T27 l1 x18_1).f0), .int .i64 0, .int .i64 0]) ?_ 1 _ rfl; (with_reducible repeat (first | refine blk_drewN ?_ _ | refine blk_drew ?_ | refine blk_alloc ?_ _)); refine blk_put (cs := #[.int .i64 0, .int .i64 0, .int .i64 0]) ?_ 0 _ rfl; (with_reducible repeat (first | refine blk_drewN ?_ _ | refine blk_drew ?_ | refine blk_alloc ?_ _)); exact BK133.out) hb); replace HB := bst_ HB hb; clear hb ho0; obtain ⟨hcz22_0, hcz22_1⟩ := bcs2_ BK131; have hfz22_0 := blk_frozen BK131.out 0; have hfz22_1 := blk_frozen BK131.out 1; obtain ⟨Ao23, co23, eo23⟩ := Kd.R_slice HO137.out; subst eo23))
   go_roundg k1
   case measure => have := HK1.out; omega
   case rel => exact ⟨(wrap64 (x18_1 + 1)), (t134), (t135), (.slice Ao23 t135.length co23), (by first | rfl | (simp; done) | (simp [*]; done)), H', ⟨by have := HK1.out; omega⟩, ⟨by (with_reducible repeat (first | apply Kd.R_alloc | apply Kd.R_drewN | apply Kd.R_drew)); exact Kd.R_mono (fs2_ HO137.out BK131.out) (fun _ hk => trivial)⟩, ⟨by (with_reducible repeat (first | refine blk_drewN ?_ _ | refine blk_drew ?_ | refine blk_alloc ?_ _)); refine blk_far ?_ NB129_131.out _; (with_reducible repeat (first | refine blk_drewN ?_ _ | refine blk_drew ?_ | refine blk_alloc ?_ _)); refine blk_far ?_ NB129_131.out _; (with_reducible repeat (first | refine blk_drewN ?_ _ | refine blk_drew ?_ | refine blk_alloc ?_ _)); exact BK129.out⟩, ⟨by (with_reducible repeat (first | refine blk_drewN ?_ _ | refine blk_drew ?_ | refine blk_alloc ?_ _)); refine blk_put (cs := #[.int .i64 t134, .slice Ao20 x132001_1.length co20]) ?_ 1 _ rfl; (with_reducible repeat (first | refine blk_drewN ?_ _ | refine blk_drew ?_ | refine blk_alloc ?_ _)); refine blk_put (cs := #[.int .i64 x132000_1, .slice Ao20 x132001_1.length co20]) ?_ 0 _ rfl; (with_reducible repeat (first | refine blk_drewN ?_ _ | refine blk_drew ?_ | refine blk_alloc ?_ _)); exact BK131.out⟩, ⟨hB HB⟩⟩

def spec_l1Cur_among.f (s0_0 : List Int) (s0_1 : Int) (s0_2 : Int) (l1 : List Int) : Option (Int × Int × Int) := (spec_l1Cur_pick.f s0_0 s0_1 s0_2 (l1.length : Int)).bind fun bt138 => (if 0 ≤ bt138.1 then (if bt138.1 < (l1.length : Int) then (some (rd l1 bt138.1, bt138.2.1, bt138.2.2)) else (none)) else (none))
set_option maxHeartbeats 8000000 in
set_option maxRecDepth 100000 in
theorem spec_l1Cur_among.calls (g : Nat) (s0_0 : List Int) (s0_1 : Int) (s0_2 : Int) (A1 : Option Addr) (c1 : Nat) (l1 : List Int) (r1 : Int) (r2 : Int) (r3 : Int) (w0 w : World) (hI : IsS46 w0 w g s0_0 s0_1 s0_2) (hB : Below w0.heap.size w0 w) (hr1 : Kd.C (Kd.int .i64) w A1 l1.length l1) (hc1 : l1.length ≤ c1) (hf1 : ∀ ad, A1 = some ad → 0 < l1.length → ad.block ≠ g) (h : spec_l1Cur_among.f s0_0 s0_1 s0_2 l1 = some (r1, r2, r3)) :
  Calls Try.prog 21 #[.pointer (some ⟨g, 0, none⟩), .slice A1 l1.length c1] w fun e w' => e = .returned (.int .i64 r1) ∧ IsS46 w0 w' g s0_0 r2 r3 ∧ Below w0.heap.size w0 w' ∧ KeepBut w w' g none := by
 have HR1 := Aside0.mk hr1
 have HC1 := Aside0.mk hc1
 clear hr1 hc1
 have HI0 := Aside0.mk hI
 have HK := Aside0.mk (KeepBut.refl w g none)
 have HL := Aside0.mk hB.size
 clear hI
 have HW0 := Aside0.mk hB.size
 have HB := Aside0.mk hB
 clear hB
 have H : ((spec_l1Cur_pick.f s0_0 s0_1 s0_2 (l1.length : Int)).bind fun bt138 => (if 0 ≤ bt138.1 then (if bt138.1 < (l1.length : Int) then (some (rd l1 bt138.1, bt138.2.1, bt138.2.2)) else (none)) else (none))) = some (r1, r2, r3) := h
 clear h
 replace H := Option.bind_eq_some_iff.mp H
 obtain ⟨⟨t138, t139, t140⟩, A30, H⟩ := H
 replace H : (if 0 ≤ t138 then (if t138 < (l1.length : Int) then (some (rd l1 t138, t139, t140)) else (none)) else (none)) = some (r1, r2, r3) := H
 have A3 := Aside0.mk A30
 clear A30
 by_cases c4 : 0 ≤ t138
 rotate_left
 ·rw [if_neg c4] at H
  exact absurd H (by simp)
 rw [if_pos c4] at H
 have c4b0 : decide (0 ≤ t138) = true := decide_eq_true c4
 clear c4
 by_cases c5 : t138 < (l1.length : Int)
 rotate_left
 ·rw [if_neg c5] at H
  exact absurd H (by simp)
 rw [if_pos c5] at H
 have c5b0 : decide (t138 < (l1.length : Int)) = true := decide_eq_true c5
 clear c5
 simp only [Option.some.injEq, Prod.mk.injEq] at H
 obtain ⟨rfl, rfl, rfl⟩ := H
 go_enter Try.func21, Try.ntmps21
 go_wp2_with (first | (refine goesL_ (some 9) rfl rfl Try.func20 (by kernel_rfl) rfl #[.pointer (some ⟨g, 0, none⟩), .int .i64 (l1.length : Int)] rfl tm_ ?_; (with_reducible refine (spec_l1Cur_pick.calls g s0_0 s0_1 s0_2 (l1.length : Int) t138 t139 t140 w0 _ ?side1 ?side2 A3.out).mono ?_); (case side1 => repeat (first | (with_reducible first | exact HI0.out | apply IsS46.alloc | apply IsS46.drewN | apply IsS46.drew | apply IsS46.set_1 | apply IsS46.set_2) | exact HI0.out)); (case side2 => repeat (first | (with_reducible first | exact HB.out | apply below_alloc | apply pw_below_drewN | apply below_drew1 | refine below_set ?_ (IsS46.ge HI0.out)) | exact HB.out)); rintro e w6 ⟨rfl, hi, hb, hk⟩; refine ⟨_, rfl, ?_⟩; replace HK := Aside0.mk (KeepBut.trans (by repeat (first | (with_reducible first | exact HK.out | apply KeepBut.set_ | apply keep_drewN | apply keep_drew | apply keep_alloc) | exact HK.out)) hk (.inl rfl)); replace HB := Aside0.mk (hb); replace HI0 := Aside0.mk (hi); clear hb hk hi; have p141 : 0 ≤ (t138 : Int) := od_; have q141 : t138 < (l1.length : Int) := od_; obtain ⟨ad141, e141, hx141_0⟩ := Kd.at_int HR1.out t138 p141 q141; cases e141; replace hx141_0 := keep_cell HK.out hx141_0 (by first | (rw [add_block]; exact hf1 _ rfl (by omega)) | exact hf1 _ rfl (by omega) | exact hf1 ad141 rfl (by omega)); replace p141 := eq_true p141; replace q141 := eq_true q141))
 go_ret
 exact ⟨rt_, by repeat (first | (with_reducible first | exact HI0.out | apply IsS46.alloc | apply IsS46.drewN | apply IsS46.drew | apply IsS46.set_1 | apply IsS46.set_2) | exact HI0.out), by repeat (first | (with_reducible first | exact HB.out | apply below_alloc | apply pw_below_drewN | apply below_drew1 | refine below_set ?_ (IsS46.ge HI0.out)) | exact HB.out), by repeat (first | (with_reducible first | exact HK.out | apply KeepBut.set_ | apply keep_drewN | apply keep_drew | apply keep_alloc) | exact HK.out)⟩

def spec_l1Cur_one.f (s0_0 : List Int) (s0_1 : Int) (s0_2 : Int) (a1 : Int) : Option (Bool × Int × Int) := (spec_l1Cur_pick.f s0_0 s0_1 s0_2 a1).bind fun bt142 => (some ((bt142.1 == 0), bt142.2.1, bt142.2.2))
set_option maxHeartbeats 8000000 in
set_option maxRecDepth 100000 in
theorem spec_l1Cur_one.calls (g : Nat) (s0_0 : List Int) (s0_1 : Int) (s0_2 : Int) (a1 : Int) (r1 : Bool) (r2 : Int) (r3 : Int) (w0 w : World) (hI : IsS46 w0 w g s0_0 s0_1 s0_2) (hB : Below w0.heap.size w0 w) (h : spec_l1Cur_one.f s0_0 s0_1 s0_2 a1 = some (r1, r2, r3)) :
  Calls Try.prog 40 #[.pointer (some ⟨g, 0, none⟩), .int .i64 a1] w fun e w' => e = .returned (.bool r1) ∧ IsS46 w0 w' g s0_0 r2 r3 ∧ Below w0.heap.size w0 w' ∧ KeepBut w w' g none := by
 have HI0 := Aside0.mk hI
 have HK := Aside0.mk (KeepBut.refl w g none)
 have HL := Aside0.mk hB.size
 clear hI
 have HW0 := Aside0.mk hB.size
 have HB := Aside0.mk hB
 clear hB
 have H : ((spec_l1Cur_pick.f s0_0 s0_1 s0_2 a1).bind fun bt142 => (some ((bt142.1 == 0), bt142.2.1, bt142.2.2))) = some (r1, r2, r3) := h
 clear h
 replace H := Option.bind_eq_some_iff.mp H
 obtain ⟨⟨t142, t143, t144⟩, A30, H⟩ := H
 replace H : (some ((t142 == 0), t143, t144)) = some (r1, r2, r3) := H
 have A3 := Aside0.mk A30
 clear A30
 simp only [Option.some.injEq, Prod.mk.injEq] at H
 obtain ⟨rfl, rfl, rfl⟩ := H
 go_enter Try.func40, Try.ntmps40
 go_wp2_with (first | (refine goesL_ (some 7) rfl rfl Try.func20 (by kernel_rfl) rfl #[.pointer (some ⟨g, 0, none⟩), .int .i64 a1] rfl tm_ ?_; (with_reducible refine (spec_l1Cur_pick.calls g s0_0 s0_1 s0_2 a1 t142 t143 t144 w0 _ ?side1 ?side2 A3.out).mono ?_); (case side1 => repeat (first | (with_reducible first | exact HI0.out | apply IsS46.alloc | apply IsS46.drewN | apply IsS46.drew | apply IsS46.set_1 | apply IsS46.set_2) | exact HI0.out)); (case side2 => repeat (first | (with_reducible first | exact HB.out | apply below_alloc | apply pw_below_drewN | apply below_drew1 | refine below_set ?_ (IsS46.ge HI0.out)) | exact HB.out)); rintro e w4 ⟨rfl, hi, hb, hk⟩; refine ⟨_, rfl, ?_⟩; replace HK := Aside0.mk (KeepBut.trans (by repeat (first | (with_reducible first | exact HK.out | apply KeepBut.set_ | apply keep_drewN | apply keep_drew | apply keep_alloc) | exact HK.out)) hk (.inl rfl)); replace HB := Aside0.mk (hb); replace HI0 := Aside0.mk (hi); clear hb hk hi))
 go_ret
 exact ⟨rt_, by repeat (first | (with_reducible first | exact HI0.out | apply IsS46.alloc | apply IsS46.drewN | apply IsS46.drew | apply IsS46.set_1 | apply IsS46.set_2) | exact HI0.out), by repeat (first | (with_reducible first | exact HB.out | apply below_alloc | apply pw_below_drewN | apply below_drew1 | refine below_set ?_ (IsS46.ge HI0.out)) | exact HB.out), by repeat (first | (with_reducible first | exact HK.out | apply KeepBut.set_ | apply keep_drewN | apply keep_drew | apply keep_alloc) | exact HK.out)⟩

end Go.Proofs.Ytenedmcobknefaa.P
