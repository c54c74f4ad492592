import Derived.Test.YtenedmcobknefaaF0
import Derived.Test.YtenedmcobknefaaF1
namespace Go.Proofs.Ytenedmcobknefaa.P
open Go.RowKit Go.Proofs.YtenedmcobknefaaW.PrintWords Go.Proofs.YtenedmcobknefaaW.PrintLast Go.Proofs.YtenedmcobknefaaW.PrintMore
attribute [local go_sem] max2_int min2_int max_two min_two max_three min_three max_four min_four   -- for this text's walks alone
set_option linter.unusedVariables false
set_option linter.unusedSimpArgs false
attribute [local go_sem high] eqA27

mutual
def spec_GoodTable.l0 : Nat → List (S27) → Int → Int → Int → List (S27) → Option (Bool)
 | 0, _, _, _, _, _ => none
 | k + 1, x8, x9, x10, x301000, x301001 => if x10 < x9 then (if 0 ≤ x10 then (if x10 < (x8.length : Int) then ((spec_l13Row.f ((rd_T27 x8 x10).f0) ((rd_T27 x8 x10).f1) ((rd_T27 x8 x10).f2)).bind fun t304 => (if t304 = true then (if x10 > 0 then (if 0 ≤ (wrap64 (x10 - 1)) then (if (wrap64 (x10 - 1)) < (x301001.length : Int) then (spec_GoodTable.j1 k x10 x8 x9 x10 (decide (((rd_T27 x301001 (wrap64 (x10 - 1))).f2) < ((rd_T27 x8 x10).f2))) x301000 x301001 ((rd_T27 x8 x10).f0) ((rd_T27 x8 x10).f1) ((rd_T27 x8 x10).f2)) else (none)) else (none)) else (spec_GoodTable.j1 k x10 x8 x9 x10 false x301000 x301001 ((rd_T27 x8 x10).f0) ((rd_T27 x8 x10).f1) ((rd_T27 x8 x10).f2))) else (spec_GoodTable.j1 k x10 x8 x9 x10 true x301000 x301001 ((rd_T27 x8 x10).f0) ((rd_T27 x8 x10).f1) ((rd_T27 x8 x10).f2)))) else (none)) else (none)) else ((spec_l1In.f x301000 1 8).bind fun t301 => (if t301 = true then (some (decide ((x301001.length : Int) ≤ x301000))) else (some false)))
def spec_GoodTable.j1 : Nat → Int → List (S27) → Int → Int → Bool → Int → List (S27) → Int → Int → Int → Option (Bool)
 | 0, _, _, _, _, _, _, _, _, _, _ => none
 | k + 1, x3, x8, x9, x10, x33, x301000, x301001, x304000, x304001, x304002 => if x33 = true then (some false) else (if 0 ≤ x3 then (if x3 ≤ (x301001.length : Int) then ((some (x301001.take (x3 : Int).toNat : List (S27))).bind fun y306 => (spec_GoodTable.l1 k x8 x9 x10 y306 (y306.length : Int) 0 x301000 x301001 x304000 x304001 x304002)) else (none)) else (none))
def spec_GoodTable.l1 : Nat → List (S27) → Int → Int → List (S27) → Int → Int → Int → List (S27) → Int → Int → Int → Option (Bool)
 | 0, _, _, _, _, _, _, _, _, _, _, _ => none
 | k + 1, x8, x9, x10, x37, x38, x39, x301000, x301001, x304000, x304001, x304002 => if x39 < x38 then (if 0 ≤ x39 then (if x39 < (x37.length : Int) then (if ((rd_T27 x37 x39).f0) = x304000 then (some false) else (spec_GoodTable.l1 k x8 x9 x10 x37 x38 (wrap64 (x39 + 1)) x301000 x301001 x304000 x304001 x304002)) else (none)) else (none)) else (spec_GoodTable.l0 k x8 x9 (wrap64 (x10 + 1)) x301000 x301001)
end
def spec_GoodTable.f (k : Nat) (a0_0 : Int) (l0_1 : List (S27)) : Option (Bool) := spec_GoodTable.l0 k l0_1 (l0_1.length : Int) 0 a0_0 l0_1
theorem spec_GoodTable.mono_l : ∀ k, (∀ y0 y1 y2 y3 y4, LeO (spec_GoodTable.l0 k y0 y1 y2 y3 y4) (spec_GoodTable.l0 (k + 1) y0 y1 y2 y3 y4)) ∧ (∀ y0 y1 y2 y3 y4 y5 y6 y7 y8 y9, LeO (spec_GoodTable.j1 k y0 y1 y2 y3 y4 y5 y6 y7 y8 y9) (spec_GoodTable.j1 (k + 1) y0 y1 y2 y3 y4 y5 y6 y7 y8 y9)) ∧ (∀ y0 y1 y2 y3 y4 y5 y6 y7 y8 y9 y10, LeO (spec_GoodTable.l1 k y0 y1 y2 y3 y4 y5 y6 y7 y8 y9 y10) (spec_GoodTable.l1 (k + 1) y0 y1 y2 y3 y4 y5 y6 y7 y8 y9 y10))
 | 0 => ⟨fun _ _ _ _ _ r h => by simp [spec_GoodTable.l0] at h, fun _ _ _ _ _ _ _ _ _ _ r h => by simp [spec_GoodTable.j1] at h, fun _ _ _ _ _ _ _ _ _ _ _ r h => by simp [spec_GoodTable.l1] at h⟩
 | k + 1 => by
  obtain ⟨ih0, ih1, ih2⟩ := spec_GoodTable.mono_l k
  refine ⟨?_, ?_, ?_⟩
  ·intro y0 y1 y2 y3 y4
   unfold spec_GoodTable.l0
   repeat' first
   | (with_reducible exact ih0 _ _ _ _ _)
   | (with_reducible exact ih1 _ _ _ _ _ _ _ _ _ _)
   | (with_reducible exact ih2 _ _ _ _ _ _ _ _ _ _ _)
   | with_reducible first | exact LeO.refl _ | exact LeO.none _ | refine LeO.ite ?_ ?_ | refine LeO.bind ?_ fun _ => ?_
  ·intro y0 y1 y2 y3 y4 y5 y6 y7 y8 y9
   unfold spec_GoodTable.j1
   repeat' first
   | (with_reducible exact ih0 _ _ _ _ _)
   | (with_reducible exact ih1 _ _ _ _ _ _ _ _ _ _)
   | (with_reducible exact ih2 _ _ _ _ _ _ _ _ _ _ _)
   | with_reducible first | exact LeO.refl _ | exact LeO.none _ | refine LeO.ite ?_ ?_ | refine LeO.bind ?_ fun _ => ?_
  ·intro y0 y1 y2 y3 y4 y5 y6 y7 y8 y9 y10
   unfold spec_GoodTable.l1
   repeat' first
   | (with_reducible exact ih0 _ _ _ _ _)
   | (with_reducible exact ih1 _ _ _ _ _ _ _ _ _ _)
   | (with_reducible exact ih2 _ _ _ _ _ _ _ _ _ _ _)
   | with_reducible first | exact LeO.refl _ | exact LeO.none _ | refine LeO.ite ?_ ?_ | refine LeO.bind ?_ fun _ => ?_
theorem spec_GoodTable.mono : ∀ a0 a1 k, LeO (spec_GoodTable.f k a0 a1) (spec_GoodTable.f (k + 1) a0 a1) := by
 intro a0 a1 k
 obtain ⟨ih0, ih1, ih2⟩ := spec_GoodTable.mono_l k
 unfold spec_GoodTable.f
 repeat' first
   | (with_reducible exact ih0 _ _ _ _ _)
   | (with_reducible exact ih1 _ _ _ _ _ _ _ _ _ _)
   | (with_reducible exact ih2 _ _ _ _ _ _ _ _ _ _ _)
   | with_reducible first | exact LeO.refl _ | exact LeO.none _ | refine LeO.ite ?_ ?_ | refine LeO.bind ?_ fun _ => ?_
def spec_GoodTable.T4 : Bool × List (List Nat × List Nat) := (true, [([], []), ([0], [0]), ([1], [1]), ([2, 1], [2]), ([3], [3]), ([4, 3], [3, 4]), ([5, 3, 3], [3, 5]), ([6], [6]), ([7, 6], [6, 7]), ([6], [6]), ([9, 6], [6, 9]), ([8, 10, 6], [6, 8, 10]), ([11, 6], [6, 11]), ([12, 6], [6, 12]), ([6], [6]), ([14, 6], [6, 14]), ([13, 15, 6], [6, 13, 15]), ([6, 16, 3], [3, 6, 16]), ([3, 17], [3, 17])])
def spec_GoodTable.B4 : List Nat := [0, 1, 3, 7, 15, 31, 63, 127, 255, 127, 639, 2047, 4095, 8191, 127, 16511, 65535, 131071, 262143]
theorem spec_GoodTable.tab4 : rtab .any (opsOf Try.f9 4) = spec_GoodTable.T4 := by kernel_rfl
theorem spec_GoodTable.bits4 : waitsOk spec_GoodTable.T4.2 spec_GoodTable.B4 = true := by kernel_rfl
set_option maxHeartbeats 8000000 in
set_option maxRecDepth 100000 in
theorem spec_GoodTable.calls (k : Nat) (a0_0 : Int) (A0_1 : Option Addr) (c0_1 : Nat) (l0_1 : List (S27)) (r : Bool) (w : World) (hr0_1 : Kd.C k27 w A0_1 l0_1.length l0_1) (hc0_1 : l0_1.length ≤ c0_1) (h : spec_GoodTable.f k a0_0 l0_1 = some r) :
  Calls Try.prog 9 #[.agg #[.int .i64 a0_0, .slice A0_1 l0_1.length c0_1]] w fun e w' => e = .returned (.bool r) ∧ Below w.heap.size w w' := by
 have hu25 := Try.underlying25
 have hu27 := Try.underlying27
 have HR0_1 := Aside0.mk hr0_1
 have HC0_1 := Aside0.mk hc0_1
 clear hr0_1 hc0_1
 have HB := Aside0.mk (Below.refl w.heap.size w)
 have H : (spec_GoodTable.l0 k l0_1 (l0_1.length : Int) 0 a0_0 l0_1) = some r := h
 clear h
 have H' := Aside0.mk H
 clear H
 go_enter Try.func9, Try.ntmps9
 go_wp2_with (first | ((with_reducible refine gate_dst (N := 1) rfl ?_); (try (refine gate_guard (by rfl) ?_; dsimp only)); refine box_event ?hg (N := 1) ?hd (cs := #[.int .i64 a0_0, .slice A0_1 l0_1.length c0_1]) (t := 25) ?hr ?_; (case hd => rfl); (case hg => rfl); (case hr => first | (go_simp; done) | (go_simp; rfl)); intro gb300 hg w2 hbox hb; have BK300 := Aside0.mk (hbox); have GW300 := gw_ hg HB; have GE300 := gw_ hg HB; replace HB := bst_ HB hb; clear hb hbox hg; obtain ⟨hcz3_0, hcz3_1⟩ := bcs2_ BK300))
 go_loopg [10] k (fun kq v10 w' => ∃ (x10_1 : Int), v10 = .int .i64 x10_1 ∧ Aside0 (spec_GoodTable.l0 kq l0_1 (l0_1.length : Int) x10_1 a0_0 l0_1 = some r) ∧ Aside0 (kq ≤ k) ∧ Aside0 (w'.heap[gb300]? = some (.cells #[.int .i64 a0_0, (.slice A0_1 l0_1.length c0_1)] 25 (0, 0))) ∧ Aside0 (Below w.heap.size w w'))
 case atStart => exact ⟨(0), (by first | rfl | (simp; done) | (simp [*]; done)), H', ⟨Nat.le_refl _⟩, ⟨by (with_reducible repeat (first | refine blk_drewN ?_ _ | refine blk_drew ?_ | refine blk_alloc ?_ _)); exact BK300.out⟩, ⟨hB HB⟩⟩
 case round =>
  clear H'
  try clear hcz3_0
  try clear hcz3_1
  try clear hfz3_0
  try clear hfz3_1
  obtain ⟨x10_1, rfl, HA, HK1, BK300, HB⟩ := hrel
  cases gk with
  | zero => exact absurd HA.out (by simp [spec_GoodTable.l0])
  | succ k1 =>
   have H := HA.out
   clear HA
   simp only [spec_GoodTable.l0] at H
   by_cases c4 : x10_1 < (l0_1.length : Int)
   rotate_left
   ·rw [if_neg c4] at H
    have c4b0 : decide (x10_1 < (l0_1.length : Int)) = false := decide_eq_false c4
    clear c4
    replace H := Option.bind_eq_some_iff.mp H
    obtain ⟨t301, A480, H⟩ := H
    replace H : (if t301 = true then (some (decide ((l0_1.length : Int) ≤ a0_0))) else (some false)) = some r := H
    have A48 := Aside0.mk A480
    clear A480
    by_cases c49 : t301 = true
    ·subst c49
     rw [if_pos rfl] at H
     obtain rfl := Option.some.inj H
     have hcz50_0 : wr.cell? ⟨gb300, 0, none⟩ = some (.int .i64 a0_0) := bc_ BK300 0
     have hcz50_1 : wr.cell? ⟨gb300, 1, none⟩ = some (.slice A0_1 l0_1.length c0_1) := bc_ BK300 1
     have hfz50_0 := blk_frozen BK300.out 0
     have hfz50_1 := blk_frozen BK300.out 1
     go_wp2_with (first | (refine goesL_ (some 52) rfl rfl Try.func28 (by kernel_rfl) rfl #[.int .i64 a0_0, .int .i64 1, .int .i64 8] rfl tm_ ?_; (with_reducible refine (spec_l1In.calls a0_0 1 8 true _ A48.out).mono ?_); rintro e w' ⟨rfl, ⟨nd, rfl⟩⟩; refine ⟨_, rfl, ?_⟩))
     go_ret
     exact ⟨rt_, hB HB⟩
    replace c49 := Bool.eq_false_iff.mpr c49
    subst c49
    rw [if_neg (show ¬ (false = true) by decide)] at H
    obtain rfl := Option.some.inj H
    have hcz51_0 : wr.cell? ⟨gb300, 0, none⟩ = some (.int .i64 a0_0) := bc_ BK300 0
    have hcz51_1 : wr.cell? ⟨gb300, 1, none⟩ = some (.slice A0_1 l0_1.length c0_1) := bc_ BK300 1
    have hfz51_0 := blk_frozen BK300.out 0
    have hfz51_1 := blk_frozen BK300.out 1
    go_wp2_with (first | (refine goesL_ (some 52) rfl rfl Try.func28 (by kernel_rfl) rfl #[.int .i64 a0_0, .int .i64 1, .int .i64 8] rfl tm_ ?_; (with_reducible refine (spec_l1In.calls a0_0 1 8 false _ A48.out).mono ?_); rintro e w' ⟨rfl, ⟨nd, rfl⟩⟩; refine ⟨_, rfl, ?_⟩))
    go_ret
    exact ⟨rt_, hB HB⟩
   rw [if_pos c4] at H
   have c4b0 : decide (x10_1 < (l0_1.length : Int)) = true := decide_eq_true c4
   clear c4
   by_cases c5 : 0 ≤ x10_1
   rotate_left
   ·rw [if_neg c5] at H
    exact absurd H (by simp)
   rw [if_pos c5] at H
   have c5b0 : decide (0 ≤ x10_1) = true := decide_eq_true c5
   clear c5
   by_cases c6 : x10_1 < (l0_1.length : Int)
   rotate_left
   ·rw [if_neg c6] at H
    exact absurd H (by simp)
   rw [if_pos c6] at H
   have c6b0 : decide (x10_1 < (l0_1.length : Int)) = true := decide_eq_true c6
   clear c6
   have HC7 := Aside0.mk H
   clear H
   have p302 : 0 ≤ (x10_1 : Int) := od_
   have q302 : x10_1 < (l0_1.length : Int) := od_
   obtain ⟨ad302, e302, hx302_0, hx302_1, hx302_2⟩ := at_T27 HR0_1.out x10_1 p302 q302
   cases e302
   replace hx302_0 := hc_ HB hx302_0
   replace hx302_1 := hc_ HB hx302_1
   replace hx302_2 := hc_ HB hx302_2
   replace p302 := eq_true p302
   replace q302 := eq_true q302
   go_upto_region 4 with (first | ((with_reducible refine gate_dst (N := 4) rfl ?_); (try (refine gate_guard (by rfl) ?_; dsimp only)); refine box_event ?hg (N := 4) ?hd (cs := #[.int .i64 0, .int .i64 0, .int .i64 0]) (t := 27) ?hr ?_; (case hd => rfl); (case hg => rfl); (case hr => first | (go_simp; done) | (go_simp; rfl)); intro gb303 hg w8 hbox hb; have BK303 := Aside0.mk (hbox); have GW303 := gw_ hg HB; have GE303 := gw_ hg HB; have NB300_303 := nl_ hg BK300; have NB303_300 := ng_ hg BK300; replace BK300 := bb_ BK300 hb; replace HB := bst_ HB hb; clear hb hbox hg; have hnb9 := NB303_300.out; have hnc9 := NB300_303.out; obtain ⟨hcz10_0, hcz10_1, hcz10_2⟩ := bcs3_ BK303; have hfz10_0 := blk_frozen BK303.out 0; have hfz10_1 := blk_frozen BK303.out 1; have hfz10_2 := blk_frozen BK303.out 2))
   (try simp only [Act.put, List.setIfInBounds_toArray, List.set_cons_zero, List.set_cons_succ])
   go_cut [33] (fun v33 wc => ∃ (kq : Nat) (x33_6 : Bool), v33 = .bool x33_6 ∧ Aside0 (spec_GoodTable.j1 kq x10_1 l0_1 (l0_1.length : Int) x10_1 x33_6 a0_0 l0_1 ((rd_T27 l0_1 x10_1).f0) ((rd_T27 l0_1 x10_1).f1) ((rd_T27 l0_1 x10_1).f2) = some r) ∧ Aside0 (kq ≤ k1) ∧ Aside0 (wc.heap[gb300]? = some (.cells #[.int .i64 a0_0, (.slice (some ad302) l0_1.length c0_1)] 25 (0, 0))) ∧ Aside0 (wc.heap[gb303]? = some (.cells #[.int .i64 ((rd_T27 l0_1 x10_1).f0), .int .i64 ((rd_T27 l0_1 x10_1).f1), .int .i64 ((rd_T27 l0_1 x10_1).f2)] 27 (0, 0))) ∧ Aside0 (Below w.heap.size w wc))
   case first =>
    have H := HC7.out
    clear HC7
    replace H := Option.bind_eq_some_iff.mp H
    obtain ⟨t304, A110, H⟩ := H
    replace H : (if t304 = true then (if x10_1 > 0 then (if 0 ≤ (wrap64 (x10_1 - 1)) then (if (wrap64 (x10_1 - 1)) < (l0_1.length : Int) then (spec_GoodTable.j1 k1 x10_1 l0_1 (l0_1.length : Int) x10_1 (decide (((rd_T27 l0_1 (wrap64 (x10_1 - 1))).f2) < ((rd_T27 l0_1 x10_1).f2))) a0_0 l0_1 ((rd_T27 l0_1 x10_1).f0) ((rd_T27 l0_1 x10_1).f1) ((rd_T27 l0_1 x10_1).f2)) else (none)) else (none)) else (spec_GoodTable.j1 k1 x10_1 l0_1 (l0_1.length : Int) x10_1 false a0_0 l0_1 ((rd_T27 l0_1 x10_1).f0) ((rd_T27 l0_1 x10_1).f1) ((rd_T27 l0_1 x10_1).f2))) else (spec_GoodTable.j1 k1 x10_1 l0_1 (l0_1.length : Int) x10_1 true a0_0 l0_1 ((rd_T27 l0_1 x10_1).f0) ((rd_T27 l0_1 x10_1).f1) ((rd_T27 l0_1 x10_1).f2))) = some r := H
    have A11 := Aside0.mk A110
    clear A110
    by_cases c12 : t304 = true
    rotate_left
    ·replace c12 := Bool.eq_false_iff.mpr c12
     subst c12
     rw [if_neg (show ¬ (false = true) by decide)] at H
     have H' := Aside0.mk H
     clear H
     try go_wp2
     have n0_ : Aside0 ((((w8.setCell ⟨gb303, 0, none⟩ (.int .i64 ((rd_T27 l0_1 x10_1).f0))).setCell ⟨gb303, 1, none⟩ (.int .i64 ((rd_T27 l0_1 x10_1).f1))).setCell ⟨gb303, 2, none⟩ (.int .i64 ((rd_T27 l0_1 x10_1).f2))).heap[gb300]? = some (.cells #[.int .i64 a0_0, .slice (some ad302) l0_1.length c0_1] 25 (0, 0))) := ⟨by (with_reducible repeat (first | refine blk_drewN ?_ _ | refine blk_drew ?_ | refine blk_alloc ?_ _)); refine blk_far ?_ NB300_303.out _; (with_reducible repeat (first | refine blk_drewN ?_ _ | refine blk_drew ?_ | refine blk_alloc ?_ _)); refine blk_far ?_ NB300_303.out _; (with_reducible repeat (first | refine blk_drewN ?_ _ | refine blk_drew ?_ | refine blk_alloc ?_ _)); refine blk_far ?_ NB300_303.out _; (with_reducible repeat (first | refine blk_drewN ?_ _ | refine blk_drew ?_ | refine blk_alloc ?_ _)); exact BK300.out⟩
     have n1_ : Aside0 ((((w8.setCell ⟨gb303, 0, none⟩ (.int .i64 ((rd_T27 l0_1 x10_1).f0))).setCell ⟨gb303, 1, none⟩ (.int .i64 ((rd_T27 l0_1 x10_1).f1))).setCell ⟨gb303, 2, none⟩ (.int .i64 ((rd_T27 l0_1 x10_1).f2))).heap[gb303]? = some (.cells #[.int .i64 ((rd_T27 l0_1 x10_1).f0), .int .i64 ((rd_T27 l0_1 x10_1).f1), .int .i64 ((rd_T27 l0_1 x10_1).f2)] 27 (0, 0))) := ⟨by (with_reducible repeat (first | refine blk_drewN ?_ _ | refine blk_drew ?_ | refine blk_alloc ?_ _)); refine blk_put (cs := #[.int .i64 ((rd_T27 l0_1 x10_1).f0), .int .i64 ((rd_T27 l0_1 x10_1).f1), .int .i64 0]) ?_ 2 _ rfl; (with_reducible repeat (first | refine blk_drewN ?_ _ | refine blk_drew ?_ | refine blk_alloc ?_ _)); refine blk_put (cs := #[.int .i64 ((rd_T27 l0_1 x10_1).f0), .int .i64 0, .int .i64 0]) ?_ 1 _ rfl; (with_reducible repeat (first | refine blk_drewN ?_ _ | refine blk_drew ?_ | refine blk_alloc ?_ _)); refine blk_put (cs := #[.int .i64 0, .int .i64 0, .int .i64 0]) ?_ 0 _ rfl; (with_reducible repeat (first | refine blk_drewN ?_ _ | refine blk_drew ?_ | refine blk_alloc ?_ _)); exact BK303.out⟩
     have n2_ : Aside0 (Below w.heap.size w (((w8.setCell ⟨gb303, 0, none⟩ (.int .i64 ((rd_T27 l0_1 x10_1).f0))).setCell ⟨gb303, 1, none⟩ (.int .i64 ((rd_T27 l0_1 x10_1).f1))).setCell ⟨gb303, 2, none⟩ (.int .i64 ((rd_T27 l0_1 x10_1).f2)))) := ⟨hB HB⟩
     (try clear BK300)
     (try clear BK303)
     (try clear HB)
     generalize (((w8.setCell ⟨gb303, 0, none⟩ (.int .i64 ((rd_T27 l0_1 x10_1).f0))).setCell ⟨gb303, 1, none⟩ (.int .i64 ((rd_T27 l0_1 x10_1).f1))).setCell ⟨gb303, 2, none⟩ (.int .i64 ((rd_T27 l0_1 x10_1).f2))) = w23 at n0_ n1_ n2_ ⊢
     have BK300 := n0_
     have BK303 := n1_
     have HB := n2_
     clear n0_ n1_ n2_
     replace BK300 := bd_ BK300
     replace BK303 := bd_ BK303
     replace HB := Aside0.mk (below_drew1 HB.out)
     refine start_ (n := 19) (S := fun w' => w'.cell? ⟨gb303, 0, none⟩ = some (.int .i64 ((rd_T27 l0_1 x10_1).f0)) ∧ w'.cell? ⟨gb303, 1, none⟩ = some (.int .i64 ((rd_T27 l0_1 x10_1).f1)) ∧ w'.cell? ⟨gb303, 2, none⟩ = some (.int .i64 ((rd_T27 l0_1 x10_1).f2))) (ds := []) (bs 19 0) (by kernel_rfl) rfl rfl ⟨bc_ BK303 0, bc_ BK303 1, bc_ BK303 2⟩ (fun hHeld => ?_); refine with_tabW spec_GoodTable.tab4 spec_GoodTable.bits4 (fun HT_ HW_ => ?_)
     generalize w23.drew = w24 at BK300 BK303 HB hHeld ⊢
     refine tk_ 0 15 (bs 19 1) HT_ HW_ hHeld ?_
     refine on_ 1 (some 16) (bs 19 3) HT_ (fun K hK => ?_)
     refine goes_ Try.func24 (by kernel_rfl) rfl #[.agg #[.int .i64 ((rd_T27 l0_1 x10_1).f0), .int .i64 ((rd_T27 l0_1 x10_1).f1), .int .i64 ((rd_T27 l0_1 x10_1).f2)]] (by rfl) rfl rfl tm_ ?_
     with_reducible refine (spec_l13Row.calls ((rd_T27 l0_1 x10_1).f0) ((rd_T27 l0_1 x10_1).f1) ((rd_T27 l0_1 x10_1).f2) false _ A11.out).mono ?_
     rintro e w25 ⟨rfl, hb⟩
     refine ⟨_, rfl, ?_⟩
     replace BK300 := bb_ BK300 hb
     replace BK303 := bb_ BK303 hb
     replace HB := bst_ HB hb
     clear hb
     refine hK.out _ _ ⟨bc_ BK303 0, bc_ BK303 1, bc_ BK303 2⟩ (fun hHeld => ?_)
     clear hK K
     refine nm_ 16 ?_
     refine pu_ 2 17 (bs 19 7) HT_ ?_
     refine pu_ 3 18 (bs 19 15) HT_ ?_
     refine pn_ 4 19 (bs 19 31) HT_ ?_
     refine pn_ 5 20 (bs 19 63) HT_ ?_
     refine pn_ 6 21 (bs 19 127) HT_ ?_
     refine pn_ 7 22 (bs 19 255) HT_ ?_
     refine pn_ 8 23 (bs 19 511) HT_ ?_
     refine pn_ 9 24 (bs 19 1023) HT_ ?_
     refine pn_ 10 25 (bs 19 2047) HT_ ?_
     refine pn_ 11 26 (bs 19 4095) HT_ ?_
     refine pn_ 12 27 (bs 19 8191) HT_ ?_
     refine pn_ 13 28 (bs 19 16383) HT_ ?_
     refine pn_ 14 29 (bs 19 32767) HT_ ?_
     refine pn_ 15 30 (bs 19 65535) HT_ ?_
     refine pn_ 16 31 (bs 19 131071) HT_ ?_
     refine pn_ 17 32 (bs 19 262143) HT_ ?_
     refine pu_ 18 33 (bs 19 524287) HT_ ?_
     refine done_ (done_of HT_.out (by kernel_rfl)) ?_
     try go_wp2
     go_meet
     case rel => exact ⟨_, (true), (by first | rfl | (simp; done) | (simp [*]; done)), H', ⟨by have := HK1.out; first | omega | exact Nat.le_refl _⟩, ⟨by (with_reducible repeat (first | refine blk_drewN ?_ _ | refine blk_drew ?_ | refine blk_alloc ?_ _)); exact BK300.out⟩, ⟨by (with_reducible repeat (first | refine blk_drewN ?_ _ | refine blk_drew ?_ | refine blk_alloc ?_ _)); exact BK303.out⟩, ⟨hB HB⟩⟩
    subst c12
    rw [if_pos rfl] at H
    by_cases c13 : x10_1 > 0
    rotate_left
    ·rw [if_neg c13] at H
     have c13b0 : decide (0 < x10_1) = false := decide_eq_false c13
     clear c13
     (first | rw [c13b0] | (simp only [i64_w, i32_w]; rw [c13b0]) | skip)
     have H' := Aside0.mk H
     clear H
     try go_wp2
     have n0_ : Aside0 ((((w8.setCell ⟨gb303, 0, none⟩ (.int .i64 ((rd_T27 l0_1 x10_1).f0))).setCell ⟨gb303, 1, none⟩ (.int .i64 ((rd_T27 l0_1 x10_1).f1))).setCell ⟨gb303, 2, none⟩ (.int .i64 ((rd_T27 l0_1 x10_1).f2))).heap[gb300]? = some (.cells #[.int .i64 a0_0, .slice (some ad302) l0_1.length c0_1] 25 (0, 0))) := ⟨by (with_reducible repeat (first | refine blk_drewN ?_ _ | refine blk_drew ?_ | refine blk_alloc ?_ _)); refine blk_far ?_ NB300_303.out _; (with_reducible repeat (first | refine blk_drewN ?_ _ | refine blk_drew ?_ | refine blk_alloc ?_ _)); refine blk_far ?_ NB300_303.out _; (with_reducible repeat (first | refine blk_drewN ?_ _ | refine blk_drew ?_ | refine blk_alloc ?_ _)); refine blk_far ?_ NB300_303.out _; (with_reducible repeat (first | refine blk_drewN ?_ _ | refine blk_drew ?_ | refine blk_alloc ?_ _)); exact BK300.out⟩
     have n1_ : Aside0 ((((w8.setCell ⟨gb303, 0, none⟩ (.int .i64 ((rd_T27 l0_1 x10_1).f0))).setCell ⟨gb303, 1, none⟩ (.int .i64 ((rd_T27 l0_1 x10_1).f1))).setCell ⟨gb303, 2, none⟩ (.int .i64 ((rd_T27 l0_1 x10_1).f2))).heap[gb303]? = some (.cells #[.int .i64 ((rd_T27 l0_1 x10_1).f0), .int .i64 ((rd_T27 l0_1 x10_1).f1), .int .i64 ((rd_T27 l0_1 x10_1).f2)] 27 (0, 0))) := ⟨by (with_reducible repeat (first | refine blk_drewN ?_ _ | refine blk_drew ?_ | refine blk_alloc ?_ _)); refine blk_put (cs := #[.int .i64 ((rd_T27 l0_1 x10_1).f0), .int .i64 ((rd_T27 l0_1 x10_1).f1), .int .i64 0]) ?_ 2 _ rfl; (with_reducible repeat (first | refine blk_drewN ?_ _ | refine blk_drew ?_ | refine blk_alloc ?_ _)); refine blk_put (cs := #[.int .i64 ((rd_T27 l0_1 x10_1).f0), .int .i64 0, .int .i64 0]) ?_ 1 _ rfl; (with_reducible repeat (first | refine blk_drewN ?_ _ | refine blk_drew ?_ | refine blk_alloc ?_ _)); refine blk_put (cs := #[.int .i64 0, .int .i64 0, .int .i64 0]) ?_ 0 _ rfl; (with_reducible repeat (first | refine blk_drewN ?_ _ | refine blk_drew ?_ | refine blk_alloc ?_ _)); exact BK303.out⟩
     have n2_ : Aside0 (Below w.heap.size w (((w8.setCell ⟨gb303, 0, none⟩ (.int .i64 ((rd_T27 l0_1 x10_1).f0))).setCell ⟨gb303, 1, none⟩ (.int .i64 ((rd_T27 l0_1 x10_1).f1))).setCell ⟨gb303, 2, none⟩ (.int .i64 ((rd_T27 l0_1 x10_1).f2)))) := ⟨hB HB⟩
     (try clear BK300)
     (try clear BK303)
     (try clear HB)
     generalize (((w8.setCell ⟨gb303, 0, none⟩ (.int .i64 ((rd_T27 l0_1 x10_1).f0))).setCell ⟨gb303, 1, none⟩ (.int .i64 ((rd_T27 l0_1 x10_1).f1))).setCell ⟨gb303, 2, none⟩ (.int .i64 ((rd_T27 l0_1 x10_1).f2))) = w20 at n0_ n1_ n2_ ⊢
     have BK300 := n0_
     have BK303 := n1_
     have HB := n2_
     clear n0_ n1_ n2_
     replace BK300 := bd_ BK300
     replace BK303 := bd_ BK303
     replace HB := Aside0.mk (below_drew1 HB.out)
     refine start_ (n := 19) (S := fun w' => w'.cell? ⟨gb303, 0, none⟩ = some (.int .i64 ((rd_T27 l0_1 x10_1).f0)) ∧ w'.cell? ⟨gb303, 1, none⟩ = some (.int .i64 ((rd_T27 l0_1 x10_1).f1)) ∧ w'.cell? ⟨gb303, 2, none⟩ = some (.int .i64 ((rd_T27 l0_1 x10_1).f2))) (ds := []) (bs 19 0) (by kernel_rfl) rfl rfl ⟨bc_ BK303 0, bc_ BK303 1, bc_ BK303 2⟩ (fun hHeld => ?_); refine with_tabW spec_GoodTable.tab4 spec_GoodTable.bits4 (fun HT_ HW_ => ?_)
     generalize w20.drew = w21 at BK300 BK303 HB hHeld ⊢
     refine tk_ 0 15 (bs 19 1) HT_ HW_ hHeld ?_
     refine on_ 1 (some 16) (bs 19 3) HT_ (fun K hK => ?_)
     refine goes_ Try.func24 (by kernel_rfl) rfl #[.agg #[.int .i64 ((rd_T27 l0_1 x10_1).f0), .int .i64 ((rd_T27 l0_1 x10_1).f1), .int .i64 ((rd_T27 l0_1 x10_1).f2)]] (by rfl) rfl rfl tm_ ?_
     with_reducible refine (spec_l13Row.calls ((rd_T27 l0_1 x10_1).f0) ((rd_T27 l0_1 x10_1).f1) ((rd_T27 l0_1 x10_1).f2) true _ A11.out).mono ?_
     rintro e w22 ⟨rfl, hb⟩
     refine ⟨_, rfl, ?_⟩
     replace BK300 := bb_ BK300 hb
     replace BK303 := bb_ BK303 hb
     replace HB := bst_ HB hb
     clear hb
     refine hK.out _ _ ⟨bc_ BK303 0, bc_ BK303 1, bc_ BK303 2⟩ (fun hHeld => ?_)
     clear hK K
     refine nm_ 16 ?_
     refine pu_ 2 17 (bs 19 7) HT_ ?_
     refine pu_ 3 18 (bs 19 15) HT_ ?_
     refine pu_ 4 19 (bs 19 31) HT_ ?_
     refine pu_ 5 20 (bs 19 63) HT_ ?_
     refine pu_ 6 21 (bs 19 127) HT_ ?_
     refine pn_ 7 22 (bs 19 255) HT_ ?_
     refine pn_ 8 23 (bs 19 511) HT_ ?_
     refine pn_ 9 24 (bs 19 1023) HT_ ?_
     refine pn_ 10 25 (bs 19 2047) HT_ ?_
     refine pn_ 11 26 (bs 19 4095) HT_ ?_
     refine pn_ 12 27 (bs 19 8191) HT_ ?_
     refine pn_ 13 28 (bs 19 16383) HT_ ?_
     refine pn_ 14 29 (bs 19 32767) HT_ ?_
     refine pn_ 15 30 (bs 19 65535) HT_ ?_
     refine pn_ 16 31 (bs 19 131071) HT_ ?_
     refine pu_ 17 32 (bs 19 262143) HT_ ?_
     refine pu_ 18 33 (bs 19 524287) HT_ ?_
     refine done_ (done_of HT_.out (by kernel_rfl)) ?_
     try go_wp2
     go_meet
     case rel => exact ⟨_, (false), (by first | rfl | (simp; done) | (simp [*]; done)), H', ⟨by have := HK1.out; first | omega | exact Nat.le_refl _⟩, ⟨by (with_reducible repeat (first | refine blk_drewN ?_ _ | refine blk_drew ?_ | refine blk_alloc ?_ _)); exact BK300.out⟩, ⟨by (with_reducible repeat (first | refine blk_drewN ?_ _ | refine blk_drew ?_ | refine blk_alloc ?_ _)); exact BK303.out⟩, ⟨hB HB⟩⟩
    rw [if_pos c13] at H
    have c13b0 : decide (0 < x10_1) = true := decide_eq_true c13
    clear c13
    (first | rw [c13b0] | (simp only [i64_w, i32_w]; rw [c13b0]) | skip)
    obtain ⟨ji14, hji14⟩ : ∃ j_ : Int, (wrap64 (x10_1 - 1)) = j_ := ⟨_, rfl⟩
    replace H : (if 0 ≤ (ji14) then (if (ji14) < (l0_1.length : Int) then (spec_GoodTable.j1 k1 x10_1 l0_1 (l0_1.length : Int) x10_1 (decide (((rd_T27 l0_1 (ji14)).f2) < ((rd_T27 l0_1 x10_1).f2))) a0_0 l0_1 ((rd_T27 l0_1 x10_1).f0) ((rd_T27 l0_1 x10_1).f1) ((rd_T27 l0_1 x10_1).f2)) else (none)) else (none)) = some r := by first | (rw [hji14] at H; exact H) | (simp only [hji14] at H ⊢; exact H)
    (try rw [hji14] at A11)
    have hji14w : (IntKind.i64.wrap (x10_1 - 1)) = ji14 := (i64_w _).trans hji14
    by_cases c15 : 0 ≤ (ji14)
    rotate_left
    ·rw [if_neg c15] at H
     exact absurd H (by simp)
    rw [if_pos c15] at H
    have c15b0 : decide (0 ≤ (ji14)) = true := decide_eq_true c15
    clear c15
    by_cases c16 : (ji14) < (l0_1.length : Int)
    rotate_left
    ·rw [if_neg c16] at H
     exact absurd H (by simp)
    rw [if_pos c16] at H
    have c16b0 : decide ((ji14) < (l0_1.length : Int)) = true := decide_eq_true c16
    clear c16
    have H' := Aside0.mk H
    clear H
    try go_wp2
    have n0_ : Aside0 ((((w8.setCell ⟨gb303, 0, none⟩ (.int .i64 ((rd_T27 l0_1 x10_1).f0))).setCell ⟨gb303, 1, none⟩ (.int .i64 ((rd_T27 l0_1 x10_1).f1))).setCell ⟨gb303, 2, none⟩ (.int .i64 ((rd_T27 l0_1 x10_1).f2))).heap[gb300]? = some (.cells #[.int .i64 a0_0, .slice (some ad302) l0_1.length c0_1] 25 (0, 0))) := ⟨by (with_reducible repeat (first | refine blk_drewN ?_ _ | refine blk_drew ?_ | refine blk_alloc ?_ _)); refine blk_far ?_ NB300_303.out _; (with_reducible repeat (first | refine blk_drewN ?_ _ | refine blk_drew ?_ | refine blk_alloc ?_ _)); refine blk_far ?_ NB300_303.out _; (with_reducible repeat (first | refine blk_drewN ?_ _ | refine blk_drew ?_ | refine blk_alloc ?_ _)); refine blk_far ?_ NB300_303.out _; (with_reducible repeat (first | refine blk_drewN ?_ _ | refine blk_drew ?_ | refine blk_alloc ?_ _)); exact BK300.out⟩
    have n1_ : Aside0 ((((w8.setCell ⟨gb303, 0, none⟩ (.int .i64 ((rd_T27 l0_1 x10_1).f0))).setCell ⟨gb303, 1, none⟩ (.int .i64 ((rd_T27 l0_1 x10_1).f1))).setCell ⟨gb303, 2, none⟩ (.int .i64 ((rd_T27 l0_1 x10_1).f2))).heap[gb303]? = some (.cells #[.int .i64 ((rd_T27 l0_1 x10_1).f0), .int .i64 ((rd_T27 l0_1 x10_1).f1), .int .i64 ((rd_T27 l0_1 x10_1).f2)] 27 (0, 0))) := ⟨by (with_reducible repeat (first | refine blk_drewN ?_ _ | refine blk_drew ?_ | refine blk_alloc ?_ _)); refine blk_put (cs := #[.int .i64 ((rd_T27 l0_1 x10_1).f0), .int .i64 ((rd_T27 l0_1 x10_1).f1), .int .i64 0]) ?_ 2 _ rfl; (with_reducible repeat (first | refine blk_drewN ?_ _ | refine blk_drew ?_ | refine blk_alloc ?_ _)); refine blk_put (cs := #[.int .i64 ((rd_T27 l0_1 x10_1).f0), .int .i64 0, .int .i64 0]) ?_ 1 _ rfl; (with_reducible repeat (first | refine blk_drewN ?_ _ | refine blk_drew ?_ | refine blk_alloc ?_ _)); refine blk_put (cs := #[.int .i64 0, .int .i64 0, .int .i64 0]) ?_ 0 _ rfl; (with_reducible repeat (first | refine blk_drewN ?_ _ | refine blk_drew ?_ | refine blk_alloc ?_ _)); exact BK303.out⟩
    have n2_ : Aside0 (Below w.heap.size w (((w8.setCell ⟨gb303, 0, none⟩ (.int .i64 ((rd_T27 l0_1 x10_1).f0))).setCell ⟨gb303, 1, none⟩ (.int .i64 ((rd_T27 l0_1 x10_1).f1))).setCell ⟨gb303, 2, none⟩ (.int .i64 ((rd_T27 l0_1 x10_1).f2)))) := ⟨hB HB⟩
    (try clear BK300)
    (try clear BK303)
    (try clear HB)
    generalize (((w8.setCell ⟨gb303, 0, none⟩ (.int .i64 ((rd_T27 l0_1 x10_1).f0))).setCell ⟨gb303, 1, none⟩ (.int .i64 ((rd_T27 l0_1 x10_1).f1))).setCell ⟨gb303, 2, none⟩ (.int .i64 ((rd_T27 l0_1 x10_1).f2))) = w17 at n0_ n1_ n2_ ⊢
    have BK300 := n0_
    have BK303 := n1_
    have HB := n2_
    clear n0_ n1_ n2_
    replace BK300 := bd_ BK300
    replace BK303 := bd_ BK303
    replace HB := Aside0.mk (below_drew1 HB.out)
    have p305 : 0 ≤ ((ji14) : Int) := od_
    have q305 : (ji14) < (l0_1.length : Int) := od_
    obtain ⟨ad305, e305, hx305_0, hx305_1, hx305_2⟩ := at_T27 HR0_1.out (ji14) p305 q305
    have hw305_2 := hx305_2
    have hw305_1 := hx305_1
    have hw305_0 := hx305_0
    obtain rfl : ad302 = ad305 := (by injection e305)
    replace hx305_0 := hc_ HB hx305_0
    replace hx305_1 := hc_ HB hx305_1
    replace hx305_2 := hc_ HB hx305_2
    replace p305 := eq_true p305
    replace q305 := eq_true q305
    refine start_ (n := 19) (S := fun w' => w'.cell? ⟨gb303, 0, none⟩ = some (.int .i64 ((rd_T27 l0_1 x10_1).f0)) ∧ w'.cell? ⟨gb303, 1, none⟩ = some (.int .i64 ((rd_T27 l0_1 x10_1).f1)) ∧ w'.cell? ⟨gb303, 2, none⟩ = some (.int .i64 ((rd_T27 l0_1 x10_1).f2)) ∧ w'.cell? ⟨gb300, 0, none⟩ = some (.int .i64 a0_0) ∧ w'.cell? ⟨gb300, 1, none⟩ = some (.slice (some ad302) l0_1.length c0_1) ∧ w'.cell? (ad302.add (((ji14)).toNat * 3)) = some (.int .i64 ((rd_T27 l0_1 (ji14)).f0)) ∧ w'.cell? ⟨(ad302.add (((ji14)).toNat * 3)).block, (ad302.add (((ji14)).toNat * 3)).off + 1, none⟩ = some (.int .i64 ((rd_T27 l0_1 (ji14)).f1)) ∧ w'.cell? ⟨(ad302.add (((ji14)).toNat * 3)).block, (ad302.add (((ji14)).toNat * 3)).off + 2, none⟩ = some (.int .i64 ((rd_T27 l0_1 (ji14)).f2))) (ds := []) (bs 19 0) (by kernel_rfl) rfl rfl ⟨bc_ BK303 0, bc_ BK303 1, bc_ BK303 2, bc_ BK300 0, bc_ BK300 1, ((HB.out.cell (World.block_lt_of_cell? w _ hw305_0)).trans hw305_0), ((HB.out.cell (World.block_lt_of_cell? w _ hw305_1)).trans hw305_1), ((HB.out.cell (World.block_lt_of_cell? w _ hw305_2)).trans hw305_2)⟩ (fun hHeld => ?_); refine with_tabW spec_GoodTable.tab4 spec_GoodTable.bits4 (fun HT_ HW_ => ?_)
    generalize w17.drew = w18 at BK300 BK303 HB hx305_0 hx305_1 hx305_2 hHeld ⊢
    refine tk_ 0 15 (bs 19 1) HT_ HW_ hHeld ?_
    refine on_ 1 (some 16) (bs 19 3) HT_ (fun K hK => ?_)
    refine goes_ Try.func24 (by kernel_rfl) rfl #[.agg #[.int .i64 ((rd_T27 l0_1 x10_1).f0), .int .i64 ((rd_T27 l0_1 x10_1).f1), .int .i64 ((rd_T27 l0_1 x10_1).f2)]] (by rfl) rfl rfl tm_ ?_
    with_reducible refine (spec_l13Row.calls ((rd_T27 l0_1 x10_1).f0) ((rd_T27 l0_1 x10_1).f1) ((rd_T27 l0_1 x10_1).f2) true _ A11.out).mono ?_
    rintro e w19 ⟨rfl, hb⟩
    refine ⟨_, rfl, ?_⟩
    replace BK300 := bb_ BK300 hb
    replace BK303 := bb_ BK303 hb
    replace HB := bst_ HB hb
    clear hb
    refine hK.out _ _ ⟨bc_ BK303 0, bc_ BK303 1, bc_ BK303 2, bc_ BK300 0, bc_ BK300 1, ((HB.out.cell (World.block_lt_of_cell? w _ hw305_0)).trans hw305_0), ((HB.out.cell (World.block_lt_of_cell? w _ hw305_1)).trans hw305_1), ((HB.out.cell (World.block_lt_of_cell? w _ hw305_2)).trans hw305_2)⟩ (fun hHeld => ?_)
    clear hK K
    refine nm_ 16 ?_
    refine pu_ 2 17 (bs 19 7) HT_ ?_
    refine pu_ 3 18 (bs 19 15) HT_ ?_
    refine pu_ 4 19 (bs 19 31) HT_ ?_
    refine pu_ 5 20 (bs 19 63) HT_ ?_
    refine pu_ 6 21 (bs 19 127) HT_ ?_
    refine pu_ 7 22 (bs 19 255) HT_ ?_
    refine pu_ 9 24 (bs 19 767) HT_ ?_
    refine pu_ 10 25 (bs 19 1791) HT_ ?_
    refine pu_ 14 29 (bs 19 18175) HT_ ?_
    refine tk_ 8 23 (bs 19 18431) HT_ HW_ hHeld ?_
    refine pu_ 11 26 (bs 19 20479) HT_ ?_
    refine pu_ 12 27 (bs 19 24575) HT_ ?_
    refine tk_ 13 28 (bs 19 32767) HT_ HW_ hHeld ?_
    refine tk_ 15 30 (bs 19 65535) HT_ HW_ hHeld ?_
    refine pu_ 16 31 (bs 19 131071) HT_ ?_
    refine pu_ 17 32 (bs 19 262143) HT_ ?_
    refine pu_ 18 33 (bs 19 524287) HT_ ?_
    refine done_ (done_of HT_.out (by kernel_rfl)) ?_
    try go_wp2
    go_meet
    case rel => exact ⟨_, (decide (((rd_T27 l0_1 (ji14)).f2) < ((rd_T27 l0_1 x10_1).f2))), (by first | rfl | (simp; done) | (simp only [← hji14] <;> (first | rfl | simp)) | (simp [*]; done)), H', ⟨by have := HK1.out; first | omega | exact Nat.le_refl _⟩, ⟨by (with_reducible repeat (first | refine blk_drewN ?_ _ | refine blk_drew ?_ | refine blk_alloc ?_ _)); exact BK300.out⟩, ⟨by (with_reducible repeat (first | refine blk_drewN ?_ _ | refine blk_drew ?_ | refine blk_alloc ?_ _)); exact BK303.out⟩, ⟨hB HB⟩⟩
   case rest =>
    clear HC7
    try clear c4
    try clear c4b0
    try clear c5
    try clear c5b0
    try clear c6
    try clear c6b0
    try clear hcz10_0
    try clear hcz10_1
    try clear hcz10_2
    try clear hcz3_0
    try clear hcz3_1
    try clear hfz10_0
    try clear hfz10_1
    try clear hfz10_2
    try clear hfz3_0
    try clear hfz3_1
    try clear hx302_0
    try clear hx302_1
    try clear hx302_2
    try clear p302
    try clear q302
    obtain ⟨kq, x33_6, rfl, HA, HJ6, BK300, BK303, HB⟩ := hcut
    cases kq with
    | zero => exact absurd HA.out (by simp [spec_GoodTable.j1])
    | succ kj6 =>
     have H := HA.out
     clear HA
     simp only [spec_GoodTable.j1] at H
     by_cases c26 : x33_6 = true
     ·subst c26
      rw [if_pos rfl] at H
      obtain rfl := Option.some.inj H
      go_wp2
      go_ret
      exact ⟨rt_, hB HB⟩
     replace c26 := Bool.eq_false_iff.mpr c26
     subst c26
     rw [if_neg (show ¬ (false = true) by decide)] at H
     by_cases c27 : 0 ≤ x10_1
     rotate_left
     ·rw [if_neg c27] at H
      exact absurd H (by simp)
     rw [if_pos c27] at H
     have c27b0 := eq_true c27
     have c27b1 : decide (0 ≤ x10_1) = true := decide_eq_true c27
     clear c27
     by_cases c28 : x10_1 ≤ (l0_1.length : Int)
     rotate_left
     ·rw [if_neg c28] at H
      exact absurd H (by simp)
     rw [if_pos c28] at H
     have c28b0 := eq_true c28
     have c28b1 : decide (x10_1 ≤ (l0_1.length : Int)) = true := decide_eq_true c28
     clear c28
     obtain ⟨y306, hy306⟩ : ∃ y_ : List (S27), y_ = (l0_1.take (x10_1 : Int).toNat) := ⟨_, rfl⟩
     replace H : (spec_GoodTable.l1 kj6 l0_1 (l0_1.length : Int) x10_1 y306 (y306.length : Int) 0 a0_0 l0_1 ((rd_T27 l0_1 x10_1).f0) ((rd_T27 l0_1 x10_1).f1) ((rd_T27 l0_1 x10_1).f2)) = some r := by first | (rw [hy306]; with_reducible exact H) | (have H2_ := (Option.bind_some _ _).symm.trans H; rw [hy306]; with_reducible exact H2_) | (have H2_ := (Option.bind_some _ _).symm.trans H; with_reducible exact H2_) | with_reducible exact H | (rw [hy306]; exact H) | exact H
     have Ny306 := Aside0.mk hy306
     clear hy306
     have H' := Aside0.mk H
     clear H
     have hnb29 := NB300_303.out
     have hnc29 := NB303_300.out
     have hcz30_0 : wc.cell? ⟨gb300, 0, none⟩ = some (.int .i64 a0_0) := bc_ BK300 0
     have hcz30_1 : wc.cell? ⟨gb300, 1, none⟩ = some (.slice (some ad302) l0_1.length c0_1) := bc_ BK300 1
     have hfz30_0 := blk_frozen BK300.out 0
     have hfz30_1 := blk_frozen BK300.out 1
     have q31 : (x10_1 : Int) ≤ ((l0_1.length : Int) : Int) := od_
     obtain ⟨i031, hi031, _, hsz31, _⟩ := info_parts info27
     have hroom31 : l0_1.length ≤ c0_1 := HC0_1.out
     have hC31 : Kd.C k27 _ (some ad302) l0_1.length l0_1 := HR0_1.out
     have hcut31 := cut_to (P := Try.prog) 23 27 .i64 Try.underlying23 hi031 (some ad302) l0_1.length c0_1 x10_1 (od_) q31 hroom31
     have hr31 := Kd.C_take (m := (x10_1 : Int).toNat) hC31 (by omega)
     have hy31 : y306.length = (x10_1 : Int).toNat := (by rw [Ny306.out, List.length_take]; omega)
     rw [← Ny306.out] at hr31
     rw [← hy31] at hcut31
     have HR309 := Aside0.mk hr31
     have HC309 := Aside0.mk (show y306.length ≤ c0_1 from by omega)
     clear hr31 hC31 hroom31 hi031 hsz31
     have KY31 := Aside0.mk hy31
     clear hy31
     replace q31 := eq_true q31
     go_wp2
     go_loopg [39] kj6 (fun kq v39 w' => ∃ (x39_3 : Int), v39 = .int .i64 x39_3 ∧ Aside0 (spec_GoodTable.l1 kq l0_1 (l0_1.length : Int) x10_1 y306 (y306.length : Int) x39_3 a0_0 l0_1 ((rd_T27 l0_1 x10_1).f0) ((rd_T27 l0_1 x10_1).f1) ((rd_T27 l0_1 x10_1).f2) = some r) ∧ Aside0 (kq ≤ kj6) ∧ Aside0 (w'.heap[gb300]? = some (.cells #[.int .i64 a0_0, (.slice (some ad302) l0_1.length c0_1)] 25 (0, 0))) ∧ Aside0 (w'.heap[gb303]? = some (.cells #[.int .i64 ((rd_T27 l0_1 x10_1).f0), .int .i64 ((rd_T27 l0_1 x10_1).f1), .int .i64 ((rd_T27 l0_1 x10_1).f2)] 27 (0, 0))) ∧ Aside0 (Below w.heap.size w w'))
     case atStart => exact ⟨(0), (by first | rfl | (simp; done) | (simp [*]; done)), H', ⟨Nat.le_refl _⟩, ⟨by (with_reducible repeat (first | refine blk_drewN ?_ _ | refine blk_drew ?_ | refine blk_alloc ?_ _)); exact BK300.out⟩, ⟨by (with_reducible repeat (first | refine blk_drewN ?_ _ | refine blk_drew ?_ | refine blk_alloc ?_ _)); exact BK303.out⟩, ⟨hB HB⟩⟩
     case round =>
      clear H'
      try clear c4
      try clear c4b0
      try clear c5
      try clear c5b0
      try clear c6
      try clear c6b0
      try clear c26
      try clear c27
      try clear c27b0
      try clear c27b1
      try clear c28
      try clear c28b0
      try clear c28b1
      try clear q31
      try clear hcz10_0
      try clear hcz10_1
      try clear hcz10_2
      try clear hcz30_0
      try clear hcz30_1
      try clear hcz3_0
      try clear hcz3_1
      try clear hfz10_0
      try clear hfz10_1
      try clear hfz10_2
      try clear hfz30_0
      try clear hfz30_1
      try clear hfz3_0
      try clear hfz3_1
      try clear hx302_0
      try clear hx302_1
      try clear hx302_2
      try clear p302
      try clear q302
      try clear q31
      obtain ⟨x39_3, rfl, HA, HK3, BK300, BK303, HB⟩ := hrel
      cases gk with
      | zero => exact absurd HA.out (by simp [spec_GoodTable.l1])
      | succ k3 =>
       have H := HA.out
       clear HA
       simp only [spec_GoodTable.l1] at H
       by_cases c32 : x39_3 < (y306.length : Int)
       rotate_left
       ·rw [if_neg c32] at H
        have c32b0 : decide (x39_3 < (y306.length : Int)) = false := decide_eq_false c32
        clear c32
        have H' := Aside0.mk H
        clear H
        go_wp2
        go_roundg k3
        case measure => have := HK1.out; have := HJ6.out; have := HK3.out; omega
        case rel => exact ⟨(wrap64 (x10_1 + 1)), (by first | rfl | (simp; done) | (simp [*]; done)), H', ⟨by have := HK1.out; have := HJ6.out; have := HK3.out; omega⟩, ⟨by (with_reducible repeat (first | refine blk_drewN ?_ _ | refine blk_drew ?_ | refine blk_alloc ?_ _)); exact BK300.out⟩, ⟨hB HB⟩⟩
       rw [if_pos c32] at H
       have c32b0 : decide (x39_3 < (y306.length : Int)) = true := decide_eq_true c32
       clear c32
       by_cases c33 : 0 ≤ x39_3
       rotate_left
       ·rw [if_neg c33] at H
        exact absurd H (by simp)
       rw [if_pos c33] at H
       have c33b0 : decide (0 ≤ x39_3) = true := decide_eq_true c33
       clear c33
       by_cases c34 : x39_3 < (y306.length : Int)
       rotate_left
       ·rw [if_neg c34] at H
        exact absurd H (by simp)
       rw [if_pos c34] at H
       have c34b0 : decide (x39_3 < (y306.length : Int)) = true := decide_eq_true c34
       clear c34
       by_cases c35 : ((rd_T27 y306 x39_3).f0) = ((rd_T27 l0_1 x10_1).f0)
       ·rw [if_pos c35] at H
        have c35b0 : (((rd_T27 y306 x39_3).f0) == ((rd_T27 l0_1 x10_1).f0)) = true := beq_iff_eq.mpr c35
        have c35b1 : (((rd_T27 y306 x39_3).f0) != ((rd_T27 l0_1 x10_1).f0)) = false := bne_eq_false_iff_eq.mpr c35
        clear c35
        obtain rfl := Option.some.inj H
        have p310 : 0 ≤ (x39_3 : Int) := od_
        have q310 : x39_3 < (y306.length : Int) := od_
        obtain ⟨ad310, e310, hx310_0, hx310_1, hx310_2⟩ := at_T27 HR309.out x39_3 p310 q310
        obtain rfl : ad302 = ad310 := (by injection e310)
        replace hx310_0 := hc_ HB hx310_0
        replace hx310_1 := hc_ HB hx310_1
        replace hx310_2 := hc_ HB hx310_2
        replace p310 := eq_true p310
        replace q310 := eq_true q310
        go_wp2_with (first | ((with_reducible refine gate_dst (N := 6) rfl ?_); (try (refine gate_guard (by rfl) ?_; dsimp only)); refine box_event ?hg (N := 6) ?hd (cs := #[.int .i64 0, .int .i64 0, .int .i64 0]) (t := 27) ?hr ?_; (case hd => rfl); (case hg => rfl); (case hr => first | (go_simp; done) | (go_simp; rfl)); intro gb311 hg w36 hbox hb; have BK311 := Aside0.mk (hbox); have GW311 := gw_ hg HB; have GE311 := gw_ hg HB; have NB300_311 := nl_ hg BK300; have NB311_300 := ng_ hg BK300; have NB303_311 := nl_ hg BK303; have NB311_303 := ng_ hg BK303; replace BK300 := bb_ BK300 hb; replace BK303 := bb_ BK303 hb; replace HB := bst_ HB hb; clear hb hbox hg; have hnb37 := NB311_300.out; have hnc37 := NB300_311.out; have hnb38 := NB311_303.out; have hnc38 := NB303_311.out; obtain ⟨hcz39_0, hcz39_1, hcz39_2⟩ := bcs3_ BK311; have hfz39_0 := blk_frozen BK311.out 0; have hfz39_1 := blk_frozen BK311.out 1; have hfz39_2 := blk_frozen BK311.out 2; have hnb40 := NB303_300.out; have hnc40 := NB300_303.out; obtain ⟨hcz41_0, hcz41_1, hcz41_2⟩ := bcs3_ BK303; have hfz41_0 := blk_frozen BK303.out 0; have hfz41_1 := blk_frozen BK303.out 1; have hfz41_2 := blk_frozen BK303.out 2))
        go_ret
        exact ⟨rt_, hB HB⟩
       rw [if_neg c35] at H
       have c35b0 : (((rd_T27 y306 x39_3).f0) == ((rd_T27 l0_1 x10_1).f0)) = false := beq_eq_false_iff_ne.mpr c35
       have c35b1 : (((rd_T27 y306 x39_3).f0) != ((rd_T27 l0_1 x10_1).f0)) = true := bne_iff_ne.mpr c35
       have H' := Aside0.mk H
       clear H
       have p310 : 0 ≤ (x39_3 : Int) := od_
       have q310 : x39_3 < (y306.length : Int) := od_
       obtain ⟨ad310, e310, hx310_0, hx310_1, hx310_2⟩ := at_T27 HR309.out x39_3 p310 q310
       obtain rfl : ad302 = ad310 := (by injection e310)
       replace hx310_0 := hc_ HB hx310_0
       replace hx310_1 := hc_ HB hx310_1
       replace hx310_2 := hc_ HB hx310_2
       replace p310 := eq_true p310
       replace q310 := eq_true q310
       go_wp2_with (first | ((with_reducible refine gate_dst (N := 6) rfl ?_); (try (refine gate_guard (by rfl) ?_; dsimp only)); refine box_event ?hg (N := 6) ?hd (cs := #[.int .i64 0, .int .i64 0, .int .i64 0]) (t := 27) ?hr ?_; (case hd => rfl); (case hg => rfl); (case hr => first | (go_simp; done) | (go_simp; rfl)); intro gb311 hg w42 hbox hb; have BK311 := Aside0.mk (hbox); have GW311 := gw_ hg HB; have GE311 := gw_ hg HB; have NB300_311 := nl_ hg BK300; have NB311_300 := ng_ hg BK300; have NB303_311 := nl_ hg BK303; have NB311_303 := ng_ hg BK303; replace BK300 := bb_ BK300 hb; replace BK303 := bb_ BK303 hb; replace HB := bst_ HB hb; clear hb hbox hg; have hnb43 := NB311_300.out; have hnc43 := NB300_311.out; have hnb44 := NB311_303.out; have hnc44 := NB303_311.out; obtain ⟨hcz45_0, hcz45_1, hcz45_2⟩ := bcs3_ BK311; have hfz45_0 := blk_frozen BK311.out 0; have hfz45_1 := blk_frozen BK311.out 1; have hfz45_2 := blk_frozen BK311.out 2; have hnb46 := NB303_300.out; have hnc46 := NB300_303.out; obtain ⟨hcz47_0, hcz47_1, hcz47_2⟩ := bcs3_ BK303; have hfz47_0 := blk_frozen BK303.out 0; have hfz47_1 := blk_frozen BK303.out 1; have hfz47_2 := blk_frozen BK303.out 2))
       go_roundg k3
       case measure => have := HK1.out; have := HJ6.out; have := HK3.out; omega
       case rel => exact ⟨(wrap64 (x39_3 + 1)), (by first | rfl | (simp; done) | (simp [*]; done)), H', ⟨by have := HK1.out; have := HJ6.out; have := HK3.out; omega⟩, ⟨by (with_reducible repeat (first | refine blk_drewN ?_ _ | refine blk_drew ?_ | refine blk_alloc ?_ _)); refine blk_far ?_ NB300_311.out _; (with_reducible repeat (first | refine blk_drewN ?_ _ | refine blk_drew ?_ | refine blk_alloc ?_ _)); refine blk_far ?_ NB300_311.out _; (with_reducible repeat (first | refine blk_drewN ?_ _ | refine blk_drew ?_ | refine blk_alloc ?_ _)); refine blk_far ?_ NB300_311.out _; (with_reducible repeat (first | refine blk_drewN ?_ _ | refine blk_drew ?_ | refine blk_alloc ?_ _)); exact BK300.out⟩, ⟨by (with_reducible repeat (first | refine blk_drewN ?_ _ | refine blk_drew ?_ | refine blk_alloc ?_ _)); refine blk_far ?_ NB303_311.out _; (with_reducible repeat (first | refine blk_drewN ?_ _ | refine blk_drew ?_ | refine blk_alloc ?_ _)); refine blk_far ?_ NB303_311.out _; (with_reducible repeat (first | refine blk_drewN ?_ _ | refine blk_drew ?_ | refine blk_alloc ?_ _)); refine blk_far ?_ NB303_311.out _; (with_reducible repeat (first | refine blk_drewN ?_ _ | refine blk_drew ?_ | refine blk_alloc ?_ _)); exact BK303.out⟩, ⟨hB HB⟩⟩

end Go.Proofs.Ytenedmcobknefaa.P
