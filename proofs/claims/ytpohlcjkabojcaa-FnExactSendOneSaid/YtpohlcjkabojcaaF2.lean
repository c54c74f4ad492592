import Derived.Test.YtpohlcjkabojcaaF0
import Derived.Test.YtpohlcjkabojcaaF1
namespace Go.Proofs.Ytpohlcjkabojcaa.P
open Go.RowKit Go.Proofs.YtpohlcjkabojcaaW.PrintWords Go.Proofs.YtpohlcjkabojcaaW.PrintLast Go.Proofs.YtpohlcjkabojcaaW.PrintMore
attribute [local go_sem] max2_int min2_int max_two min_two max_three min_three max_four min_four   -- for this text's walks alone
set_option linter.unusedVariables false
set_option linter.unusedSimpArgs false

def spec_GoodCampus.l0 : Nat → List (S130) → Int → Int → Int → List (S86) → List Int → List (S130) → Option (Bool)
 | 0, _, _, _, _, _, _, _ => none
 | k + 1, x6, x7, x8, x127000, x127001, x127002, x127003 => if x8 < x7 then (if 0 ≤ x8 then (if x8 < (x6.length : Int) then ((spec_l17Place.f k x127000 x127001 x127002 x127003 ((rd_T130 x6 x8).f0) ((rd_T130 x6 x8).f1) ((rd_T130 x6 x8).f2)).bind fun t129 => (if t129 = true then (if x8 > 0 then (if 0 ≤ (wrap64 (x8 - 1)) then (if (wrap64 (x8 - 1)) < (x127003.length : Int) then (if ((rd_T130 x127003 (wrap64 (x8 - 1))).f0) ≥ ((rd_T130 x6 x8).f0) then (some false) else (spec_GoodCampus.l0 k x6 x7 (wrap64 (x8 + 1)) x127000 x127001 x127002 x127003)) else (none)) else (none)) else (spec_GoodCampus.l0 k x6 x7 (wrap64 (x8 + 1)) x127000 x127001 x127002 x127003)) else (some false))) else (none)) else (none)) else ((spec_GoodEdges.f k x127000 x127001).bind fun t131 => (if t131 = true then ((spec_l1Rising.f k x127002 0 (wrap64 ((x127001.length : Int) - 1))).bind fun t132 => (if t132 = true then (some (decide ((x127003.length : Int) ≤ 12))) else (some false))) else (some false)))
def spec_GoodCampus.f (k : Nat) (a0_0 : Int) (l0_1 : List (S86)) (l0_2 : List Int) (l0_3 : List (S130)) : Option (Bool) := spec_GoodCampus.l0 k l0_3 (l0_3.length : Int) 0 a0_0 l0_1 l0_2 l0_3
theorem spec_GoodCampus.mono_l : ∀ k, (∀ y0 y1 y2 y3 y4 y5 y6, LeO (spec_GoodCampus.l0 k y0 y1 y2 y3 y4 y5 y6) (spec_GoodCampus.l0 (k + 1) y0 y1 y2 y3 y4 y5 y6))
 | 0 => fun _ _ _ _ _ _ _ r h => by simp [spec_GoodCampus.l0] at h
 | k + 1 => by
  have ih0 := spec_GoodCampus.mono_l k
  ·intro y0 y1 y2 y3 y4 y5 y6
   unfold spec_GoodCampus.l0
   repeat' first
   | (with_reducible exact ih0 _ _ _ _ _ _ _)
   | (with_reducible exact spec_GoodEdges.mono _ _ _)
   | (with_reducible exact spec_l17Place.mono _ _ _ _ _ _ _ _)
   | (with_reducible exact spec_l1Rising.mono _ _ _ _)
   | with_reducible first | exact LeO.refl _ | exact LeO.none _ | refine LeO.ite ?_ ?_ | refine LeO.bind ?_ fun _ => ?_
theorem spec_GoodCampus.mono : ∀ a0 a1 a2 a3 k, LeO (spec_GoodCampus.f k a0 a1 a2 a3) (spec_GoodCampus.f (k + 1) a0 a1 a2 a3) := by
 intro a0 a1 a2 a3 k
 have ih0 := spec_GoodCampus.mono_l k
 unfold spec_GoodCampus.f
 repeat' first
   | (with_reducible exact ih0 _ _ _ _ _ _ _)
   | (with_reducible exact spec_GoodEdges.mono _ _ _)
   | (with_reducible exact spec_l17Place.mono _ _ _ _ _ _ _ _)
   | (with_reducible exact spec_l1Rising.mono _ _ _ _)
   | with_reducible first | exact LeO.refl _ | exact LeO.none _ | refine LeO.ite ?_ ?_ | refine LeO.bind ?_ fun _ => ?_
def spec_GoodCampus.T4 : Bool × List (List Nat × List Nat) := (true, [([], []), ([], []), ([0, 1], [0, 1]), ([2], [2]), ([3, 2], [3]), ([4], [4]), ([5, 4], [4, 5]), ([6, 4, 4], [4, 6]), ([7], [7]), ([8, 7], [7, 8]), ([7], [7]), ([10, 7], [7, 10]), ([9, 11, 7], [7, 9, 11]), ([12, 7], [7, 12]), ([13, 7], [7, 13]), ([7], [7]), ([15, 7], [7, 15]), ([14, 16, 7], [7, 14, 16]), ([7, 17, 4], [4, 7, 17]), ([4, 18], [4, 18])])
def spec_GoodCampus.B4 : List Nat := [0, 0, 3, 7, 15, 31, 63, 127, 255, 511, 255, 1279, 4095, 8191, 16383, 255, 33023, 131071, 262143, 524287]
theorem spec_GoodCampus.tab4 : rtab .any (opsOf Try.f53 4) = spec_GoodCampus.T4 := by kernel_rfl
theorem spec_GoodCampus.bits4 : waitsOk spec_GoodCampus.T4.2 spec_GoodCampus.B4 = true := by kernel_rfl
set_option maxHeartbeats 8000000 in
set_option maxRecDepth 100000 in
theorem spec_GoodCampus.calls (k : Nat) (a0_0 : Int) (A0_1 : Option Addr) (c0_1 : Nat) (l0_1 : List (S86)) (A0_2 : Option Addr) (c0_2 : Nat) (l0_2 : List Int) (A0_3 : Option Addr) (c0_3 : Nat) (l0_3 : List (S130)) (r : Bool) (w : World) (hr0_1 : Kd.C k86 w A0_1 l0_1.length l0_1) (hc0_1 : l0_1.length ≤ c0_1) (hr0_2 : Kd.C (Kd.int .i64) w A0_2 l0_2.length l0_2) (hc0_2 : l0_2.length ≤ c0_2) (hr0_3 : Kd.C k130 w A0_3 l0_3.length l0_3) (hc0_3 : l0_3.length ≤ c0_3) (h : spec_GoodCampus.f k a0_0 l0_1 l0_2 l0_3 = some r) :
  Calls Try.prog 53 #[.agg #[.int .i64 a0_0, .slice A0_1 l0_1.length c0_1, .slice A0_2 l0_2.length c0_2, .slice A0_3 l0_3.length c0_3]] w fun e w' => e = .returned (.bool r) ∧ Below w.heap.size w w' := by
 have hu33 := Try.underlying33
 have hu130 := Try.underlying130
 have HR0_1 := Aside0.mk hr0_1
 have HC0_1 := Aside0.mk hc0_1
 clear hr0_1 hc0_1
 have HR0_2 := Aside0.mk hr0_2
 have HC0_2 := Aside0.mk hc0_2
 clear hr0_2 hc0_2
 have HR0_3 := Aside0.mk hr0_3
 have HC0_3 := Aside0.mk hc0_3
 clear hr0_3 hc0_3
 have HB := Aside0.mk (Below.refl w.heap.size w)
 have H : (spec_GoodCampus.l0 k l0_3 (l0_3.length : Int) 0 a0_0 l0_1 l0_2 l0_3) = some r := h
 clear h
 have H' := Aside0.mk H
 clear H
 go_enter Try.func53, Try.ntmps53
 go_wp2_with (first | ((with_reducible refine gate_dst (N := 1) rfl ?_); (try (refine gate_guard (by rfl) ?_; dsimp only)); refine box_event ?hg (N := 1) ?hd (cs := #[.int .i64 a0_0, .slice A0_1 l0_1.length c0_1, .slice A0_2 l0_2.length c0_2, .slice A0_3 l0_3.length c0_3]) (t := 33) ?hr ?_; (case hd => rfl); (case hg => rfl); (case hr => first | (go_simp; done) | (go_simp; rfl)); intro gb126 hg w2 hbox hb; have BK126 := Aside0.mk (hbox); have GW126 := gw_ hg HB; have GE126 := gw_ hg HB; replace HB := bst_ HB hb; clear hb hbox hg; obtain ⟨hcz3_0, hcz3_1, hcz3_2, hcz3_3⟩ := bcs4_ BK126))
 go_loopg [8] k (fun kq v8 w' => ∃ (x8_1 : Int), v8 = .int .i64 x8_1 ∧ Aside0 (spec_GoodCampus.l0 kq l0_3 (l0_3.length : Int) x8_1 a0_0 l0_1 l0_2 l0_3 = some r) ∧ Aside0 (kq ≤ k) ∧ Aside0 (w'.heap[gb126]? = some (.cells #[.int .i64 a0_0, (.slice A0_1 l0_1.length c0_1), (.slice A0_2 l0_2.length c0_2), (.slice A0_3 l0_3.length c0_3)] 33 (0, 0))) ∧ Aside0 (Below w.heap.size w w'))
 case atStart => exact ⟨(0), (by first | rfl | (simp; done) | (simp [*]; done)), H', ⟨Nat.le_refl _⟩, ⟨by (with_reducible repeat (first | refine blk_drewN ?_ _ | refine blk_drew ?_ | refine blk_alloc ?_ _)); exact BK126.out⟩, ⟨hB HB⟩⟩
 case round =>
  clear H'
  try clear hcz3_0
  try clear hcz3_1
  try clear hcz3_2
  try clear hcz3_3
  try clear hfz3_0
  try clear hfz3_1
  try clear hfz3_2
  try clear hfz3_3
  obtain ⟨x8_1, rfl, HA, HK1, BK126, HB⟩ := hrel
  cases gk with
  | zero => exact absurd HA.out (by simp [spec_GoodCampus.l0])
  | succ k1 =>
   have H := HA.out
   clear HA
   simp only [spec_GoodCampus.l0] at H
   by_cases c4 : x8_1 < (l0_3.length : Int)
   rotate_left
   ·rw [if_neg c4] at H
    have c4b0 : decide (x8_1 < (l0_3.length : Int)) = false := decide_eq_false c4
    clear c4
    replace H := Option.bind_eq_some_iff.mp H
    obtain ⟨t131, A380, H⟩ := H
    replace H : (if t131 = true then ((spec_l1Rising.f k1 l0_2 0 (wrap64 ((l0_1.length : Int) - 1))).bind fun t132 => (if t132 = true then (some (decide ((l0_3.length : Int) ≤ 12))) else (some false))) else (some false)) = some r := H
    have A38 := Aside0.mk A380
    clear A380
    by_cases c39 : t131 = true
    rotate_left
    ·replace c39 := Bool.eq_false_iff.mpr c39
     subst c39
     rw [if_neg (show ¬ (false = true) by decide)] at H
     obtain rfl := Option.some.inj H
     have hcz48_0 : wr.cell? ⟨gb126, 0, none⟩ = some (.int .i64 a0_0) := bc_ BK126 0
     have hcz48_1 : wr.cell? ⟨gb126, 1, none⟩ = some (.slice A0_1 l0_1.length c0_1) := bc_ BK126 1
     have hcz48_2 : wr.cell? ⟨gb126, 2, none⟩ = some (.slice A0_2 l0_2.length c0_2) := bc_ BK126 2
     have hcz48_3 : wr.cell? ⟨gb126, 3, none⟩ = some (.slice A0_3 l0_3.length c0_3) := bc_ BK126 3
     have hfz48_0 := blk_frozen BK126.out 0
     have hfz48_1 := blk_frozen BK126.out 1
     have hfz48_2 := blk_frozen BK126.out 2
     have hfz48_3 := blk_frozen BK126.out 3
     go_wp2_with (first | (refine goesL_ (some 38) rfl rfl Try.func68 (by kernel_rfl) rfl #[.int .i64 a0_0, .slice A0_1 l0_1.length c0_1] rfl tm_ ?_; (with_reducible refine (spec_GoodEdges.calls k1 a0_0 _ _ l0_1 false _ ?side1 ?side2 A38.out).mono ?_); (case side1 => exact cb_ HR0_1 HB); (case side2 => exact HC0_1.out); rintro e w49 ⟨rfl, hb⟩; refine ⟨_, rfl, ?_⟩; replace BK126 := bb_ BK126 hb; replace HB := bst_ HB hb; clear hb))
     go_ret
     exact ⟨rt_, hB HB⟩
    subst c39
    rw [if_pos rfl] at H
    replace H := Option.bind_eq_some_iff.mp H
    obtain ⟨t132, A400, H⟩ := H
    replace H : (if t132 = true then (some (decide ((l0_3.length : Int) ≤ 12))) else (some false)) = some r := H
    have A40 := Aside0.mk A400
    clear A400
    by_cases c41 : t132 = true
    ·subst c41
     rw [if_pos rfl] at H
     obtain rfl := Option.some.inj H
     have hcz42_0 : wr.cell? ⟨gb126, 0, none⟩ = some (.int .i64 a0_0) := bc_ BK126 0
     have hcz42_1 : wr.cell? ⟨gb126, 1, none⟩ = some (.slice A0_1 l0_1.length c0_1) := bc_ BK126 1
     have hcz42_2 : wr.cell? ⟨gb126, 2, none⟩ = some (.slice A0_2 l0_2.length c0_2) := bc_ BK126 2
     have hcz42_3 : wr.cell? ⟨gb126, 3, none⟩ = some (.slice A0_3 l0_3.length c0_3) := bc_ BK126 3
     have hfz42_0 := blk_frozen BK126.out 0
     have hfz42_1 := blk_frozen BK126.out 1
     have hfz42_2 := blk_frozen BK126.out 2
     have hfz42_3 := blk_frozen BK126.out 3
     go_wp2_with (first | (refine goesL_ (some 38) rfl rfl Try.func68 (by kernel_rfl) rfl #[.int .i64 a0_0, .slice A0_1 l0_1.length c0_1] rfl tm_ ?_; (with_reducible refine (spec_GoodEdges.calls k1 a0_0 _ _ l0_1 true _ ?side1 ?side2 A38.out).mono ?_); (case side1 => exact cb_ HR0_1 HB); (case side2 => exact HC0_1.out); rintro e w43 ⟨rfl, hb⟩; refine ⟨_, rfl, ?_⟩; replace BK126 := bb_ BK126 hb; replace HB := bst_ HB hb; clear hb; obtain ⟨hcz44_0, hcz44_1, hcz44_2, hcz44_3⟩ := bcs4_ BK126) | (go_at_call 91; (with_reducible refine (spec_l1Rising.calls k1 _ _ l0_2 0 (wrap64 ((l0_1.length : Int) - 1)) true _ ?side1 ?side2 A40.out).mono ?_); (case side1 => exact cb_ HR0_2 HB); (case side2 => exact HC0_2.out); rintro e w' ⟨rfl, ⟨nd, rfl⟩⟩))
     go_ret
     exact ⟨rt_, hB HB⟩
    replace c41 := Bool.eq_false_iff.mpr c41
    subst c41
    rw [if_neg (show ¬ (false = true) by decide)] at H
    obtain rfl := Option.some.inj H
    have hcz45_0 : wr.cell? ⟨gb126, 0, none⟩ = some (.int .i64 a0_0) := bc_ BK126 0
    have hcz45_1 : wr.cell? ⟨gb126, 1, none⟩ = some (.slice A0_1 l0_1.length c0_1) := bc_ BK126 1
    have hcz45_2 : wr.cell? ⟨gb126, 2, none⟩ = some (.slice A0_2 l0_2.length c0_2) := bc_ BK126 2
    have hcz45_3 : wr.cell? ⟨gb126, 3, none⟩ = some (.slice A0_3 l0_3.length c0_3) := bc_ BK126 3
    have hfz45_0 := blk_frozen BK126.out 0
    have hfz45_1 := blk_frozen BK126.out 1
    have hfz45_2 := blk_frozen BK126.out 2
    have hfz45_3 := blk_frozen BK126.out 3
    go_wp2_with (first | (refine goesL_ (some 38) rfl rfl Try.func68 (by kernel_rfl) rfl #[.int .i64 a0_0, .slice A0_1 l0_1.length c0_1] rfl tm_ ?_; (with_reducible refine (spec_GoodEdges.calls k1 a0_0 _ _ l0_1 true _ ?side1 ?side2 A38.out).mono ?_); (case side1 => exact cb_ HR0_1 HB); (case side2 => exact HC0_1.out); rintro e w46 ⟨rfl, hb⟩; refine ⟨_, rfl, ?_⟩; replace BK126 := bb_ BK126 hb; replace HB := bst_ HB hb; clear hb; obtain ⟨hcz47_0, hcz47_1, hcz47_2, hcz47_3⟩ := bcs4_ BK126) | (go_at_call 91; (with_reducible refine (spec_l1Rising.calls k1 _ _ l0_2 0 (wrap64 ((l0_1.length : Int) - 1)) false _ ?side1 ?side2 A40.out).mono ?_); (case side1 => exact cb_ HR0_2 HB); (case side2 => exact HC0_2.out); rintro e w' ⟨rfl, ⟨nd, rfl⟩⟩))
    go_ret
    exact ⟨rt_, hB HB⟩
   rw [if_pos c4] at H
   have c4b0 : decide (x8_1 < (l0_3.length : Int)) = true := decide_eq_true c4
   clear c4
   by_cases c5 : 0 ≤ x8_1
   rotate_left
   ·rw [if_neg c5] at H
    exact absurd H (by simp)
   rw [if_pos c5] at H
   have c5b0 : decide (0 ≤ x8_1) = true := decide_eq_true c5
   clear c5
   by_cases c6 : x8_1 < (l0_3.length : Int)
   rotate_left
   ·rw [if_neg c6] at H
    exact absurd H (by simp)
   rw [if_pos c6] at H
   have c6b0 : decide (x8_1 < (l0_3.length : Int)) = true := decide_eq_true c6
   clear c6
   replace H := Option.bind_eq_some_iff.mp H
   obtain ⟨t129, A70, H⟩ := H
   replace H : (if t129 = true then (if x8_1 > 0 then (if 0 ≤ (wrap64 (x8_1 - 1)) then (if (wrap64 (x8_1 - 1)) < (l0_3.length : Int) then (if ((rd_T130 l0_3 (wrap64 (x8_1 - 1))).f0) ≥ ((rd_T130 l0_3 x8_1).f0) then (some false) else (spec_GoodCampus.l0 k1 l0_3 (l0_3.length : Int) (wrap64 (x8_1 + 1)) a0_0 l0_1 l0_2 l0_3)) else (none)) else (none)) else (spec_GoodCampus.l0 k1 l0_3 (l0_3.length : Int) (wrap64 (x8_1 + 1)) a0_0 l0_1 l0_2 l0_3)) else (some false)) = some r := H
   have A7 := Aside0.mk A70
   clear A70
   by_cases c8 : t129 = true
   rotate_left
   ·replace c8 := Bool.eq_false_iff.mpr c8
    subst c8
    rw [if_neg (show ¬ (false = true) by decide)] at H
    obtain rfl := Option.some.inj H
    have p127 : 0 ≤ (x8_1 : Int) := od_
    have q127 : x8_1 < (l0_3.length : Int) := od_
    obtain ⟨ad127, A127_2, c127_2, e127, hx127_0, hx127_1, hx127_2, hl127_2, hi127_2⟩ := at_T130 HR0_3.out x8_1 p127 q127
    cases e127
    replace hx127_0 := hc_ HB hx127_0
    replace hx127_1 := hc_ HB hx127_1
    replace hx127_2 := hc_ HB hx127_2
    have HR127_2 := Aside0.mk hi127_2
    have HC127_2 := Aside0.mk hl127_2
    clear hi127_2 hl127_2
    replace p127 := eq_true p127
    replace q127 := eq_true q127
    try go_wp2_with (first | ((with_reducible refine gate_dst (N := 4) rfl ?_); (try (refine gate_guard (by rfl) ?_; dsimp only)); refine box_event ?hg (N := 4) ?hd (cs := #[.int .i64 0, .int .i64 0, .slice none 0 0]) (t := 130) ?hr ?_; (case hd => rfl); (case hg => rfl); (case hr => first | (go_simp; done) | (go_simp; rfl)); intro gb128 hg w32 hbox hb; have BK128 := Aside0.mk (hbox); have GW128 := gw_ hg HB; have GE128 := gw_ hg HB; have NB126_128 := nl_ hg BK126; have NB128_126 := ng_ hg BK126; replace BK126 := bb_ BK126 hb; replace HB := bst_ HB hb; clear hb hbox hg; have hnb33 := NB128_126.out; have hnc33 := NB126_128.out; obtain ⟨hcz34_0, hcz34_1, hcz34_2⟩ := bcs3_ BK128; have hfz34_0 := blk_frozen BK128.out 0; have hfz34_1 := blk_frozen BK128.out 1; have hfz34_2 := blk_frozen BK128.out 2))
    have n0_ : Aside0 ((((w32.setCell ⟨gb128, 0, none⟩ (.int .i64 ((rd_T130 l0_3 x8_1).f0))).setCell ⟨gb128, 1, none⟩ (.int .i64 ((rd_T130 l0_3 x8_1).f1))).setCell ⟨gb128, 2, none⟩ (.slice A127_2 ((rd_T130 l0_3 x8_1).f2).length c127_2)).heap[gb126]? = some (.cells #[.int .i64 a0_0, .slice A0_1 l0_1.length c0_1, .slice A0_2 l0_2.length c0_2, .slice (some ad127) l0_3.length c0_3] 33 (0, 0))) := ⟨by (with_reducible repeat (first | refine blk_drewN ?_ _ | refine blk_drew ?_ | refine blk_alloc ?_ _)); refine blk_far ?_ NB126_128.out _; (with_reducible repeat (first | refine blk_drewN ?_ _ | refine blk_drew ?_ | refine blk_alloc ?_ _)); refine blk_far ?_ NB126_128.out _; (with_reducible repeat (first | refine blk_drewN ?_ _ | refine blk_drew ?_ | refine blk_alloc ?_ _)); refine blk_far ?_ NB126_128.out _; (with_reducible repeat (first | refine blk_drewN ?_ _ | refine blk_drew ?_ | refine blk_alloc ?_ _)); exact BK126.out⟩
    have n1_ : Aside0 ((((w32.setCell ⟨gb128, 0, none⟩ (.int .i64 ((rd_T130 l0_3 x8_1).f0))).setCell ⟨gb128, 1, none⟩ (.int .i64 ((rd_T130 l0_3 x8_1).f1))).setCell ⟨gb128, 2, none⟩ (.slice A127_2 ((rd_T130 l0_3 x8_1).f2).length c127_2)).heap[gb128]? = some (.cells #[.int .i64 ((rd_T130 l0_3 x8_1).f0), .int .i64 ((rd_T130 l0_3 x8_1).f1), .slice A127_2 ((rd_T130 l0_3 x8_1).f2).length c127_2] 130 (0, 0))) := ⟨by (with_reducible repeat (first | refine blk_drewN ?_ _ | refine blk_drew ?_ | refine blk_alloc ?_ _)); refine blk_put (cs := #[.int .i64 ((rd_T130 l0_3 x8_1).f0), .int .i64 ((rd_T130 l0_3 x8_1).f1), .slice none 0 0]) ?_ 2 _ rfl; (with_reducible repeat (first | refine blk_drewN ?_ _ | refine blk_drew ?_ | refine blk_alloc ?_ _)); refine blk_put (cs := #[.int .i64 ((rd_T130 l0_3 x8_1).f0), .int .i64 0, .slice none 0 0]) ?_ 1 _ rfl; (with_reducible repeat (first | refine blk_drewN ?_ _ | refine blk_drew ?_ | refine blk_alloc ?_ _)); refine blk_put (cs := #[.int .i64 0, .int .i64 0, .slice none 0 0]) ?_ 0 _ rfl; (with_reducible repeat (first | refine blk_drewN ?_ _ | refine blk_drew ?_ | refine blk_alloc ?_ _)); exact BK128.out⟩
    have n2_ : Aside0 (Below w.heap.size w (((w32.setCell ⟨gb128, 0, none⟩ (.int .i64 ((rd_T130 l0_3 x8_1).f0))).setCell ⟨gb128, 1, none⟩ (.int .i64 ((rd_T130 l0_3 x8_1).f1))).setCell ⟨gb128, 2, none⟩ (.slice A127_2 ((rd_T130 l0_3 x8_1).f2).length c127_2))) := ⟨hB HB⟩
    (try clear BK126)
    (try clear BK128)
    (try clear HB)
    generalize (((w32.setCell ⟨gb128, 0, none⟩ (.int .i64 ((rd_T130 l0_3 x8_1).f0))).setCell ⟨gb128, 1, none⟩ (.int .i64 ((rd_T130 l0_3 x8_1).f1))).setCell ⟨gb128, 2, none⟩ (.slice A127_2 ((rd_T130 l0_3 x8_1).f2).length c127_2)) = w35 at n0_ n1_ n2_ ⊢
    have BK126 := n0_
    have BK128 := n1_
    have HB := n2_
    clear n0_ n1_ n2_
    replace BK126 := bd_ BK126
    replace BK128 := bd_ BK128
    replace HB := Aside0.mk (below_drew1 HB.out)
    refine start_ (n := 20) (S := fun w' => w'.cell? ⟨gb126, 0, none⟩ = some (.int .i64 a0_0) ∧ w'.cell? ⟨gb126, 1, none⟩ = some (.slice A0_1 l0_1.length c0_1) ∧ w'.cell? ⟨gb126, 2, none⟩ = some (.slice A0_2 l0_2.length c0_2) ∧ w'.cell? ⟨gb126, 3, none⟩ = some (.slice (some ad127) l0_3.length c0_3) ∧ w'.cell? ⟨gb128, 0, none⟩ = some (.int .i64 ((rd_T130 l0_3 x8_1).f0)) ∧ w'.cell? ⟨gb128, 1, none⟩ = some (.int .i64 ((rd_T130 l0_3 x8_1).f1)) ∧ w'.cell? ⟨gb128, 2, none⟩ = some (.slice A127_2 ((rd_T130 l0_3 x8_1).f2).length c127_2)) (ds := []) (bs 20 0) (by kernel_rfl) rfl rfl ⟨bc_ BK126 0, bc_ BK126 1, bc_ BK126 2, bc_ BK126 3, bc_ BK128 0, bc_ BK128 1, bc_ BK128 2⟩ (fun hHeld => ?_); refine with_tabW spec_GoodCampus.tab4 spec_GoodCampus.bits4 (fun HT_ HW_ => ?_)
    generalize w35.drew = w36 at BK126 BK128 HB hHeld ⊢
    refine tk_ 0 13 (bs 20 1) HT_ HW_ hHeld ?_
    refine tk_ 1 14 (bs 20 3) HT_ HW_ hHeld ?_
    refine on_ 2 (some 15) (bs 20 7) HT_ (fun K hK => ?_)
    refine goes_ Try.func90 (by kernel_rfl) rfl #[.agg #[.int .i64 a0_0, .slice A0_1 l0_1.length c0_1, .slice A0_2 l0_2.length c0_2, .slice (some ad127) l0_3.length c0_3], .agg #[.int .i64 ((rd_T130 l0_3 x8_1).f0), .int .i64 ((rd_T130 l0_3 x8_1).f1), .slice A127_2 ((rd_T130 l0_3 x8_1).f2).length c127_2]] (by rfl) rfl rfl tm_ ?_
    with_reducible refine (spec_l17Place.calls k1 a0_0 _ _ l0_1 _ _ l0_2 _ _ l0_3 ((rd_T130 l0_3 x8_1).f0) ((rd_T130 l0_3 x8_1).f1) _ _ ((rd_T130 l0_3 x8_1).f2) false _ ?side1 ?side2 ?side3 ?side4 ?side5 ?side6 ?side7 ?side8 A7.out).mono ?_
    (case side1 => exact cb_ HR0_1 HB)
    (case side2 => exact HC0_1.out)
    (case side3 => exact cb_ HR0_2 HB)
    (case side4 => exact HC0_2.out)
    (case side5 => exact cb_ HR0_3 HB)
    (case side6 => exact HC0_3.out)
    (case side7 => exact cb_ HR127_2 HB)
    (case side8 => exact HC127_2.out)
    rintro e w37 ⟨rfl, hb⟩
    refine ⟨_, rfl, ?_⟩
    replace BK126 := bb_ BK126 hb
    replace BK128 := bb_ BK128 hb
    replace HB := bst_ HB hb
    clear hb
    refine hK.out _ _ ⟨bc_ BK126 0, bc_ BK126 1, bc_ BK126 2, bc_ BK126 3, bc_ BK128 0, bc_ BK128 1, bc_ BK128 2⟩ (fun hHeld => ?_)
    clear hK K
    refine nm_ 15 ?_
    refine pu_ 3 16 (bs 20 15) HT_ ?_
    refine pu_ 4 17 (bs 20 31) HT_ ?_
    refine pn_ 5 18 (bs 20 63) HT_ ?_
    refine pn_ 6 19 (bs 20 127) HT_ ?_
    refine pn_ 7 20 (bs 20 255) HT_ ?_
    refine pn_ 8 21 (bs 20 511) HT_ ?_
    refine pn_ 9 22 (bs 20 1023) HT_ ?_
    refine pn_ 10 23 (bs 20 2047) HT_ ?_
    refine pn_ 11 24 (bs 20 4095) HT_ ?_
    refine pn_ 12 25 (bs 20 8191) HT_ ?_
    refine pn_ 13 26 (bs 20 16383) HT_ ?_
    refine pn_ 14 27 (bs 20 32767) HT_ ?_
    refine pn_ 15 28 (bs 20 65535) HT_ ?_
    refine pn_ 16 29 (bs 20 131071) HT_ ?_
    refine pn_ 17 30 (bs 20 262143) HT_ ?_
    refine pn_ 18 31 (bs 20 524287) HT_ ?_
    refine pu_ 19 32 (bs 20 1048575) HT_ ?_
    refine done_ (done_of HT_.out (by kernel_rfl)) ?_
    try go_wp2
    go_ret
    exact ⟨rt_, hB HB⟩
   subst c8
   rw [if_pos rfl] at H
   by_cases c9 : x8_1 > 0
   rotate_left
   ·rw [if_neg c9] at H
    have c9b0 : decide (0 < x8_1) = false := decide_eq_false c9
    clear c9
    have H' := Aside0.mk H
    clear H
    have p127 : 0 ≤ (x8_1 : Int) := od_
    have q127 : x8_1 < (l0_3.length : Int) := od_
    obtain ⟨ad127, A127_2, c127_2, e127, hx127_0, hx127_1, hx127_2, hl127_2, hi127_2⟩ := at_T130 HR0_3.out x8_1 p127 q127
    cases e127
    replace hx127_0 := hc_ HB hx127_0
    replace hx127_1 := hc_ HB hx127_1
    replace hx127_2 := hc_ HB hx127_2
    have HR127_2 := Aside0.mk hi127_2
    have HC127_2 := Aside0.mk hl127_2
    clear hi127_2 hl127_2
    replace p127 := eq_true p127
    replace q127 := eq_true q127
    try go_wp2_with (first | ((with_reducible refine gate_dst (N := 4) rfl ?_); (try (refine gate_guard (by rfl) ?_; dsimp only)); refine box_event ?hg (N := 4) ?hd (cs := #[.int .i64 0, .int .i64 0, .slice none 0 0]) (t := 130) ?hr ?_; (case hd => rfl); (case hg => rfl); (case hr => first | (go_simp; done) | (go_simp; rfl)); intro gb128 hg w26 hbox hb; have BK128 := Aside0.mk (hbox); have GW128 := gw_ hg HB; have GE128 := gw_ hg HB; have NB126_128 := nl_ hg BK126; have NB128_126 := ng_ hg BK126; replace BK126 := bb_ BK126 hb; replace HB := bst_ HB hb; clear hb hbox hg; have hnb27 := NB128_126.out; have hnc27 := NB126_128.out; obtain ⟨hcz28_0, hcz28_1, hcz28_2⟩ := bcs3_ BK128; have hfz28_0 := blk_frozen BK128.out 0; have hfz28_1 := blk_frozen BK128.out 1; have hfz28_2 := blk_frozen BK128.out 2))
    have n0_ : Aside0 ((((w26.setCell ⟨gb128, 0, none⟩ (.int .i64 ((rd_T130 l0_3 x8_1).f0))).setCell ⟨gb128, 1, none⟩ (.int .i64 ((rd_T130 l0_3 x8_1).f1))).setCell ⟨gb128, 2, none⟩ (.slice A127_2 ((rd_T130 l0_3 x8_1).f2).length c127_2)).heap[gb126]? = some (.cells #[.int .i64 a0_0, .slice A0_1 l0_1.length c0_1, .slice A0_2 l0_2.length c0_2, .slice (some ad127) l0_3.length c0_3] 33 (0, 0))) := ⟨by (with_reducible repeat (first | refine blk_drewN ?_ _ | refine blk_drew ?_ | refine blk_alloc ?_ _)); refine blk_far ?_ NB126_128.out _; (with_reducible repeat (first | refine blk_drewN ?_ _ | refine blk_drew ?_ | refine blk_alloc ?_ _)); refine blk_far ?_ NB126_128.out _; (with_reducible repeat (first | refine blk_drewN ?_ _ | refine blk_drew ?_ | refine blk_alloc ?_ _)); refine blk_far ?_ NB126_128.out _; (with_reducible repeat (first | refine blk_drewN ?_ _ | refine blk_drew ?_ | refine blk_alloc ?_ _)); exact BK126.out⟩
    have n1_ : Aside0 ((((w26.setCell ⟨gb128, 0, none⟩ (.int .i64 ((rd_T130 l0_3 x8_1).f0))).setCell ⟨gb128, 1, none⟩ (.int .i64 ((rd_T130 l0_3 x8_1).f1))).setCell ⟨gb128, 2, none⟩ (.slice A127_2 ((rd_T130 l0_3 x8_1).f2).length c127_2)).heap[gb128]? = some (.cells #[.int .i64 ((rd_T130 l0_3 x8_1).f0), .int .i64 ((rd_T130 l0_3 x8_1).f1), .slice A127_2 ((rd_T130 l0_3 x8_1).f2).length c127_2] 130 (0, 0))) := ⟨by (with_reducible repeat (first | refine blk_drewN ?_ _ | refine blk_drew ?_ | refine blk_alloc ?_ _)); refine blk_put (cs := #[.int .i64 ((rd_T130 l0_3 x8_1).f0), .int .i64 ((rd_T130 l0_3 x8_1).f1), .slice none 0 0]) ?_ 2 _ rfl; (with_reducible repeat (first | refine blk_drewN ?_ _ | refine blk_drew ?_ | refine blk_alloc ?_ _)); refine blk_put (cs := #[.int .i64 ((rd_T130 l0_3 x8_1).f0), .int .i64 0, .slice none 0 0]) ?_ 1 _ rfl; (with_reducible repeat (first | refine blk_drewN ?_ _ | refine blk_drew ?_ | refine blk_alloc ?_ _)); refine blk_put (cs := #[.int .i64 0, .int .i64 0, .slice none 0 0]) ?_ 0 _ rfl; (with_reducible repeat (first | refine blk_drewN ?_ _ | refine blk_drew ?_ | refine blk_alloc ?_ _)); exact BK128.out⟩
    have n2_ : Aside0 (Below w.heap.size w (((w26.setCell ⟨gb128, 0, none⟩ (.int .i64 ((rd_T130 l0_3 x8_1).f0))).setCell ⟨gb128, 1, none⟩ (.int .i64 ((rd_T130 l0_3 x8_1).f1))).setCell ⟨gb128, 2, none⟩ (.slice A127_2 ((rd_T130 l0_3 x8_1).f2).length c127_2))) := ⟨hB HB⟩
    (try clear BK126)
    (try clear BK128)
    (try clear HB)
    generalize (((w26.setCell ⟨gb128, 0, none⟩ (.int .i64 ((rd_T130 l0_3 x8_1).f0))).setCell ⟨gb128, 1, none⟩ (.int .i64 ((rd_T130 l0_3 x8_1).f1))).setCell ⟨gb128, 2, none⟩ (.slice A127_2 ((rd_T130 l0_3 x8_1).f2).length c127_2)) = w29 at n0_ n1_ n2_ ⊢
    have BK126 := n0_
    have BK128 := n1_
    have HB := n2_
    clear n0_ n1_ n2_
    replace BK126 := bd_ BK126
    replace BK128 := bd_ BK128
    replace HB := Aside0.mk (below_drew1 HB.out)
    refine start_ (n := 20) (S := fun w' => w'.cell? ⟨gb126, 0, none⟩ = some (.int .i64 a0_0) ∧ w'.cell? ⟨gb126, 1, none⟩ = some (.slice A0_1 l0_1.length c0_1) ∧ w'.cell? ⟨gb126, 2, none⟩ = some (.slice A0_2 l0_2.length c0_2) ∧ w'.cell? ⟨gb126, 3, none⟩ = some (.slice (some ad127) l0_3.length c0_3) ∧ w'.cell? ⟨gb128, 0, none⟩ = some (.int .i64 ((rd_T130 l0_3 x8_1).f0)) ∧ w'.cell? ⟨gb128, 1, none⟩ = some (.int .i64 ((rd_T130 l0_3 x8_1).f1)) ∧ w'.cell? ⟨gb128, 2, none⟩ = some (.slice A127_2 ((rd_T130 l0_3 x8_1).f2).length c127_2)) (ds := []) (bs 20 0) (by kernel_rfl) rfl rfl ⟨bc_ BK126 0, bc_ BK126 1, bc_ BK126 2, bc_ BK126 3, bc_ BK128 0, bc_ BK128 1, bc_ BK128 2⟩ (fun hHeld => ?_); refine with_tabW spec_GoodCampus.tab4 spec_GoodCampus.bits4 (fun HT_ HW_ => ?_)
    generalize w29.drew = w30 at BK126 BK128 HB hHeld ⊢
    refine tk_ 0 13 (bs 20 1) HT_ HW_ hHeld ?_
    refine tk_ 1 14 (bs 20 3) HT_ HW_ hHeld ?_
    refine on_ 2 (some 15) (bs 20 7) HT_ (fun K hK => ?_)
    refine goes_ Try.func90 (by kernel_rfl) rfl #[.agg #[.int .i64 a0_0, .slice A0_1 l0_1.length c0_1, .slice A0_2 l0_2.length c0_2, .slice (some ad127) l0_3.length c0_3], .agg #[.int .i64 ((rd_T130 l0_3 x8_1).f0), .int .i64 ((rd_T130 l0_3 x8_1).f1), .slice A127_2 ((rd_T130 l0_3 x8_1).f2).length c127_2]] (by rfl) rfl rfl tm_ ?_
    with_reducible refine (spec_l17Place.calls k1 a0_0 _ _ l0_1 _ _ l0_2 _ _ l0_3 ((rd_T130 l0_3 x8_1).f0) ((rd_T130 l0_3 x8_1).f1) _ _ ((rd_T130 l0_3 x8_1).f2) true _ ?side1 ?side2 ?side3 ?side4 ?side5 ?side6 ?side7 ?side8 A7.out).mono ?_
    (case side1 => exact cb_ HR0_1 HB)
    (case side2 => exact HC0_1.out)
    (case side3 => exact cb_ HR0_2 HB)
    (case side4 => exact HC0_2.out)
    (case side5 => exact cb_ HR0_3 HB)
    (case side6 => exact HC0_3.out)
    (case side7 => exact cb_ HR127_2 HB)
    (case side8 => exact HC127_2.out)
    rintro e w31 ⟨rfl, hb⟩
    refine ⟨_, rfl, ?_⟩
    replace BK126 := bb_ BK126 hb
    replace BK128 := bb_ BK128 hb
    replace HB := bst_ HB hb
    clear hb
    refine hK.out _ _ ⟨bc_ BK126 0, bc_ BK126 1, bc_ BK126 2, bc_ BK126 3, bc_ BK128 0, bc_ BK128 1, bc_ BK128 2⟩ (fun hHeld => ?_)
    clear hK K
    refine nm_ 15 ?_
    refine pu_ 3 16 (bs 20 15) HT_ ?_
    refine pu_ 4 17 (bs 20 31) HT_ ?_
    refine pu_ 5 18 (bs 20 63) HT_ ?_
    refine pu_ 6 19 (bs 20 127) HT_ ?_
    refine pu_ 7 20 (bs 20 255) HT_ ?_
    refine pn_ 8 21 (bs 20 511) HT_ ?_
    refine pn_ 9 22 (bs 20 1023) HT_ ?_
    refine pn_ 10 23 (bs 20 2047) HT_ ?_
    refine pn_ 11 24 (bs 20 4095) HT_ ?_
    refine pn_ 12 25 (bs 20 8191) HT_ ?_
    refine pn_ 13 26 (bs 20 16383) HT_ ?_
    refine pn_ 14 27 (bs 20 32767) HT_ ?_
    refine pn_ 15 28 (bs 20 65535) HT_ ?_
    refine pn_ 16 29 (bs 20 131071) HT_ ?_
    refine pn_ 17 30 (bs 20 262143) HT_ ?_
    refine pu_ 18 31 (bs 20 524287) HT_ ?_
    refine pu_ 19 32 (bs 20 1048575) HT_ ?_
    refine done_ (done_of HT_.out (by kernel_rfl)) ?_
    try go_wp2
    go_roundg k1
    case measure => have := HK1.out; omega
    case rel => exact ⟨(wrap64 (x8_1 + 1)), (by first | rfl | (simp; done) | (simp [*]; done)), H', ⟨by have := HK1.out; omega⟩, ⟨by (with_reducible repeat (first | refine blk_drewN ?_ _ | refine blk_drew ?_ | refine blk_alloc ?_ _)); exact BK126.out⟩, ⟨hB HB⟩⟩
   rw [if_pos c9] at H
   have c9b0 : decide (0 < x8_1) = true := decide_eq_true c9
   clear c9
   obtain ⟨ji10, hji10⟩ : ∃ j_ : Int, (wrap64 (x8_1 - 1)) = j_ := ⟨_, rfl⟩
   replace H : (if 0 ≤ (ji10) then (if (ji10) < (l0_3.length : Int) then (if ((rd_T130 l0_3 (ji10)).f0) ≥ ((rd_T130 l0_3 x8_1).f0) then (some false) else (spec_GoodCampus.l0 k1 l0_3 (l0_3.length : Int) (wrap64 (x8_1 + 1)) a0_0 l0_1 l0_2 l0_3)) else (none)) else (none)) = some r := by first | (rw [hji10] at H; exact H) | (simp only [hji10] at H ⊢; exact H)
   (try rw [hji10] at A7)
   have hji10w : (IntKind.i64.wrap (x8_1 - 1)) = ji10 := (i64_w _).trans hji10
   by_cases c11 : 0 ≤ (ji10)
   rotate_left
   ·rw [if_neg c11] at H
    exact absurd H (by simp)
   rw [if_pos c11] at H
   have c11b0 : decide (0 ≤ (ji10)) = true := decide_eq_true c11
   clear c11
   by_cases c12 : (ji10) < (l0_3.length : Int)
   rotate_left
   ·rw [if_neg c12] at H
    exact absurd H (by simp)
   rw [if_pos c12] at H
   have c12b0 : decide ((ji10) < (l0_3.length : Int)) = true := decide_eq_true c12
   clear c12
   by_cases c13 : ((rd_T130 l0_3 (ji10)).f0) ≥ ((rd_T130 l0_3 x8_1).f0)
   rotate_left
   ·rw [if_neg c13] at H
    have c13b0 : decide (((rd_T130 l0_3 x8_1).f0) ≤ ((rd_T130 l0_3 (ji10)).f0)) = false := decide_eq_false c13
    clear c13
    have H' := Aside0.mk H
    clear H
    have p127 : 0 ≤ (x8_1 : Int) := od_
    have q127 : x8_1 < (l0_3.length : Int) := od_
    obtain ⟨ad127, A127_2, c127_2, e127, hx127_0, hx127_1, hx127_2, hl127_2, hi127_2⟩ := at_T130 HR0_3.out x8_1 p127 q127
    cases e127
    replace hx127_0 := hc_ HB hx127_0
    replace hx127_1 := hc_ HB hx127_1
    replace hx127_2 := hc_ HB hx127_2
    have HR127_2 := Aside0.mk hi127_2
    have HC127_2 := Aside0.mk hl127_2
    clear hi127_2 hl127_2
    replace p127 := eq_true p127
    replace q127 := eq_true q127
    try go_wp2_with (first | ((with_reducible refine gate_dst (N := 4) rfl ?_); (try (refine gate_guard (by rfl) ?_; dsimp only)); refine box_event ?hg (N := 4) ?hd (cs := #[.int .i64 0, .int .i64 0, .slice none 0 0]) (t := 130) ?hr ?_; (case hd => rfl); (case hg => rfl); (case hr => first | (go_simp; done) | (go_simp; rfl)); intro gb128 hg w20 hbox hb; have BK128 := Aside0.mk (hbox); have GW128 := gw_ hg HB; have GE128 := gw_ hg HB; have NB126_128 := nl_ hg BK126; have NB128_126 := ng_ hg BK126; replace BK126 := bb_ BK126 hb; replace HB := bst_ HB hb; clear hb hbox hg; have hnb21 := NB128_126.out; have hnc21 := NB126_128.out; obtain ⟨hcz22_0, hcz22_1, hcz22_2⟩ := bcs3_ BK128; have hfz22_0 := blk_frozen BK128.out 0; have hfz22_1 := blk_frozen BK128.out 1; have hfz22_2 := blk_frozen BK128.out 2))
    have n0_ : Aside0 ((((w20.setCell ⟨gb128, 0, none⟩ (.int .i64 ((rd_T130 l0_3 x8_1).f0))).setCell ⟨gb128, 1, none⟩ (.int .i64 ((rd_T130 l0_3 x8_1).f1))).setCell ⟨gb128, 2, none⟩ (.slice A127_2 ((rd_T130 l0_3 x8_1).f2).length c127_2)).heap[gb126]? = some (.cells #[.int .i64 a0_0, .slice A0_1 l0_1.length c0_1, .slice A0_2 l0_2.length c0_2, .slice (some ad127) l0_3.length c0_3] 33 (0, 0))) := ⟨by (with_reducible repeat (first | refine blk_drewN ?_ _ | refine blk_drew ?_ | refine blk_alloc ?_ _)); refine blk_far ?_ NB126_128.out _; (with_reducible repeat (first | refine blk_drewN ?_ _ | refine blk_drew ?_ | refine blk_alloc ?_ _)); refine blk_far ?_ NB126_128.out _; (with_reducible repeat (first | refine blk_drewN ?_ _ | refine blk_drew ?_ | refine blk_alloc ?_ _)); refine blk_far ?_ NB126_128.out _; (with_reducible repeat (first | refine blk_drewN ?_ _ | refine blk_drew ?_ | refine blk_alloc ?_ _)); exact BK126.out⟩
    have n1_ : Aside0 ((((w20.setCell ⟨gb128, 0, none⟩ (.int .i64 ((rd_T130 l0_3 x8_1).f0))).setCell ⟨gb128, 1, none⟩ (.int .i64 ((rd_T130 l0_3 x8_1).f1))).setCell ⟨gb128, 2, none⟩ (.slice A127_2 ((rd_T130 l0_3 x8_1).f2).length c127_2)).heap[gb128]? = some (.cells #[.int .i64 ((rd_T130 l0_3 x8_1).f0), .int .i64 ((rd_T130 l0_3 x8_1).f1), .slice A127_2 ((rd_T130 l0_3 x8_1).f2).length c127_2] 130 (0, 0))) := ⟨by (with_reducible repeat (first | refine blk_drewN ?_ _ | refine blk_drew ?_ | refine blk_alloc ?_ _)); refine blk_put (cs := #[.int .i64 ((rd_T130 l0_3 x8_1).f0), .int .i64 ((rd_T130 l0_3 x8_1).f1), .slice none 0 0]) ?_ 2 _ rfl; (with_reducible repeat (first | refine blk_drewN ?_ _ | refine blk_drew ?_ | refine blk_alloc ?_ _)); refine blk_put (cs := #[.int .i64 ((rd_T130 l0_3 x8_1).f0), .int .i64 0, .slice none 0 0]) ?_ 1 _ rfl; (with_reducible repeat (first | refine blk_drewN ?_ _ | refine blk_drew ?_ | refine blk_alloc ?_ _)); refine blk_put (cs := #[.int .i64 0, .int .i64 0, .slice none 0 0]) ?_ 0 _ rfl; (with_reducible repeat (first | refine blk_drewN ?_ _ | refine blk_drew ?_ | refine blk_alloc ?_ _)); exact BK128.out⟩
    have n2_ : Aside0 (Below w.heap.size w (((w20.setCell ⟨gb128, 0, none⟩ (.int .i64 ((rd_T130 l0_3 x8_1).f0))).setCell ⟨gb128, 1, none⟩ (.int .i64 ((rd_T130 l0_3 x8_1).f1))).setCell ⟨gb128, 2, none⟩ (.slice A127_2 ((rd_T130 l0_3 x8_1).f2).length c127_2))) := ⟨hB HB⟩
    (try clear BK126)
    (try clear BK128)
    (try clear HB)
    generalize (((w20.setCell ⟨gb128, 0, none⟩ (.int .i64 ((rd_T130 l0_3 x8_1).f0))).setCell ⟨gb128, 1, none⟩ (.int .i64 ((rd_T130 l0_3 x8_1).f1))).setCell ⟨gb128, 2, none⟩ (.slice A127_2 ((rd_T130 l0_3 x8_1).f2).length c127_2)) = w23 at n0_ n1_ n2_ ⊢
    have BK126 := n0_
    have BK128 := n1_
    have HB := n2_
    clear n0_ n1_ n2_
    replace BK126 := bd_ BK126
    replace BK128 := bd_ BK128
    replace HB := Aside0.mk (below_drew1 HB.out)
    have p130 : 0 ≤ ((ji10) : Int) := od_
    have q130 : (ji10) < (l0_3.length : Int) := od_
    obtain ⟨ad130, A130_2, c130_2, e130, hx130_0, hx130_1, hx130_2, hl130_2, hi130_2⟩ := at_T130 HR0_3.out (ji10) p130 q130
    have hw130_2 := hx130_2
    have hw130_1 := hx130_1
    have hw130_0 := hx130_0
    obtain rfl : ad127 = ad130 := (by injection e130)
    replace hx130_0 := hc_ HB hx130_0
    replace hx130_1 := hc_ HB hx130_1
    replace hx130_2 := hc_ HB hx130_2
    have HR130_2 := Aside0.mk hi130_2
    have HC130_2 := Aside0.mk hl130_2
    clear hi130_2 hl130_2
    replace p130 := eq_true p130
    replace q130 := eq_true q130
    refine start_ (n := 20) (S := fun w' => w'.cell? ⟨gb126, 0, none⟩ = some (.int .i64 a0_0) ∧ w'.cell? ⟨gb126, 1, none⟩ = some (.slice A0_1 l0_1.length c0_1) ∧ w'.cell? ⟨gb126, 2, none⟩ = some (.slice A0_2 l0_2.length c0_2) ∧ w'.cell? ⟨gb126, 3, none⟩ = some (.slice (some ad127) l0_3.length c0_3) ∧ w'.cell? ⟨gb128, 0, none⟩ = some (.int .i64 ((rd_T130 l0_3 x8_1).f0)) ∧ w'.cell? ⟨gb128, 1, none⟩ = some (.int .i64 ((rd_T130 l0_3 x8_1).f1)) ∧ w'.cell? ⟨gb128, 2, none⟩ = some (.slice A127_2 ((rd_T130 l0_3 x8_1).f2).length c127_2) ∧ w'.cell? (ad127.add (((ji10)).toNat * 3)) = some (.int .i64 ((rd_T130 l0_3 (ji10)).f0)) ∧ w'.cell? ⟨(ad127.add (((ji10)).toNat * 3)).block, (ad127.add (((ji10)).toNat * 3)).off + 1, none⟩ = some (.int .i64 ((rd_T130 l0_3 (ji10)).f1)) ∧ w'.cell? ⟨(ad127.add (((ji10)).toNat * 3)).block, (ad127.add (((ji10)).toNat * 3)).off + 2, none⟩ = some (.slice A130_2 ((rd_T130 l0_3 (ji10)).f2).length c130_2)) (ds := []) (bs 20 0) (by kernel_rfl) rfl rfl ⟨bc_ BK126 0, bc_ BK126 1, bc_ BK126 2, bc_ BK126 3, bc_ BK128 0, bc_ BK128 1, bc_ BK128 2, ((HB.out.cell (World.block_lt_of_cell? w _ hw130_0)).trans hw130_0), ((HB.out.cell (World.block_lt_of_cell? w _ hw130_1)).trans hw130_1), ((HB.out.cell (World.block_lt_of_cell? w _ hw130_2)).trans hw130_2)⟩ (fun hHeld => ?_); refine with_tabW spec_GoodCampus.tab4 spec_GoodCampus.bits4 (fun HT_ HW_ => ?_)
    generalize w23.drew = w24 at BK126 BK128 HB HR130_2 hx130_0 hx130_1 hx130_2 hHeld ⊢
    refine tk_ 0 13 (bs 20 1) HT_ HW_ hHeld ?_
    refine tk_ 1 14 (bs 20 3) HT_ HW_ hHeld ?_
    refine on_ 2 (some 15) (bs 20 7) HT_ (fun K hK => ?_)
    refine goes_ Try.func90 (by kernel_rfl) rfl #[.agg #[.int .i64 a0_0, .slice A0_1 l0_1.length c0_1, .slice A0_2 l0_2.length c0_2, .slice (some ad127) l0_3.length c0_3], .agg #[.int .i64 ((rd_T130 l0_3 x8_1).f0), .int .i64 ((rd_T130 l0_3 x8_1).f1), .slice A127_2 ((rd_T130 l0_3 x8_1).f2).length c127_2]] (by rfl) rfl rfl tm_ ?_
    with_reducible refine (spec_l17Place.calls k1 a0_0 _ _ l0_1 _ _ l0_2 _ _ l0_3 ((rd_T130 l0_3 x8_1).f0) ((rd_T130 l0_3 x8_1).f1) _ _ ((rd_T130 l0_3 x8_1).f2) true _ ?side1 ?side2 ?side3 ?side4 ?side5 ?side6 ?side7 ?side8 A7.out).mono ?_
    (case side1 => exact cb_ HR0_1 HB)
    (case side2 => exact HC0_1.out)
    (case side3 => exact cb_ HR0_2 HB)
    (case side4 => exact HC0_2.out)
    (case side5 => exact cb_ HR0_3 HB)
    (case side6 => exact HC0_3.out)
    (case side7 => exact cb_ HR127_2 HB)
    (case side8 => exact HC127_2.out)
    rintro e w25 ⟨rfl, hb⟩
    refine ⟨_, rfl, ?_⟩
    replace BK126 := bb_ BK126 hb
    replace BK128 := bb_ BK128 hb
    replace HB := bst_ HB hb
    clear hb
    refine hK.out _ _ ⟨bc_ BK126 0, bc_ BK126 1, bc_ BK126 2, bc_ BK126 3, bc_ BK128 0, bc_ BK128 1, bc_ BK128 2, ((HB.out.cell (World.block_lt_of_cell? w _ hw130_0)).trans hw130_0), ((HB.out.cell (World.block_lt_of_cell? w _ hw130_1)).trans hw130_1), ((HB.out.cell (World.block_lt_of_cell? w _ hw130_2)).trans hw130_2)⟩ (fun hHeld => ?_)
    clear hK K
    refine nm_ 15 ?_
    refine pu_ 3 16 (bs 20 15) HT_ ?_
    refine pu_ 4 17 (bs 20 31) HT_ ?_
    refine pu_ 5 18 (bs 20 63) HT_ ?_
    refine pu_ 6 19 (bs 20 127) HT_ ?_
    refine pu_ 7 20 (bs 20 255) HT_ ?_
    refine pu_ 8 21 (bs 20 511) HT_ ?_
    refine pu_ 10 23 (bs 20 1535) HT_ ?_
    refine pu_ 11 24 (bs 20 3583) HT_ ?_
    refine pu_ 15 28 (bs 20 36351) HT_ ?_
    refine tk_ 9 22 (bs 20 36863) HT_ HW_ hHeld ?_
    refine pu_ 12 25 (bs 20 40959) HT_ ?_
    refine pu_ 13 26 (bs 20 49151) HT_ ?_
    refine tk_ 14 27 (bs 20 65535) HT_ HW_ hHeld ?_
    refine tk_ 16 29 (bs 20 131071) HT_ HW_ hHeld ?_
    refine pu_ 17 30 (bs 20 262143) HT_ ?_
    refine pu_ 18 31 (bs 20 524287) HT_ ?_
    refine pu_ 19 32 (bs 20 1048575) HT_ ?_
    refine done_ (done_of HT_.out (by kernel_rfl)) ?_
    try go_wp2
    go_roundg k1
    case measure => have := HK1.out; omega
    case rel => exact ⟨(wrap64 (x8_1 + 1)), (by first | rfl | (simp; done) | (simp [*]; done)), H', ⟨by have := HK1.out; omega⟩, ⟨by (with_reducible repeat (first | refine blk_drewN ?_ _ | refine blk_drew ?_ | refine blk_alloc ?_ _)); exact BK126.out⟩, ⟨hB HB⟩⟩
   rw [if_pos c13] at H
   have c13b0 : decide (((rd_T130 l0_3 x8_1).f0) ≤ ((rd_T130 l0_3 (ji10)).f0)) = true := decide_eq_true c13
   clear c13
   obtain rfl := Option.some.inj H
   have p127 : 0 ≤ (x8_1 : Int) := od_
   have q127 : x8_1 < (l0_3.length : Int) := od_
   obtain ⟨ad127, A127_2, c127_2, e127, hx127_0, hx127_1, hx127_2, hl127_2, hi127_2⟩ := at_T130 HR0_3.out x8_1 p127 q127
   cases e127
   replace hx127_0 := hc_ HB hx127_0
   replace hx127_1 := hc_ HB hx127_1
   replace hx127_2 := hc_ HB hx127_2
   have HR127_2 := Aside0.mk hi127_2
   have HC127_2 := Aside0.mk hl127_2
   clear hi127_2 hl127_2
   replace p127 := eq_true p127
   replace q127 := eq_true q127
   try go_wp2_with (first | ((with_reducible refine gate_dst (N := 4) rfl ?_); (try (refine gate_guard (by rfl) ?_; dsimp only)); refine box_event ?hg (N := 4) ?hd (cs := #[.int .i64 0, .int .i64 0, .slice none 0 0]) (t := 130) ?hr ?_; (case hd => rfl); (case hg => rfl); (case hr => first | (go_simp; done) | (go_simp; rfl)); intro gb128 hg w14 hbox hb; have BK128 := Aside0.mk (hbox); have GW128 := gw_ hg HB; have GE128 := gw_ hg HB; have NB126_128 := nl_ hg BK126; have NB128_126 := ng_ hg BK126; replace BK126 := bb_ BK126 hb; replace HB := bst_ HB hb; clear hb hbox hg; have hnb15 := NB128_126.out; have hnc15 := NB126_128.out; obtain ⟨hcz16_0, hcz16_1, hcz16_2⟩ := bcs3_ BK128; have hfz16_0 := blk_frozen BK128.out 0; have hfz16_1 := blk_frozen BK128.out 1; have hfz16_2 := blk_frozen BK128.out 2))
   have n0_ : Aside0 ((((w14.setCell ⟨gb128, 0, none⟩ (.int .i64 ((rd_T130 l0_3 x8_1).f0))).setCell ⟨gb128, 1, none⟩ (.int .i64 ((rd_T130 l0_3 x8_1).f1))).setCell ⟨gb128, 2, none⟩ (.slice A127_2 ((rd_T130 l0_3 x8_1).f2).length c127_2)).heap[gb126]? = some (.cells #[.int .i64 a0_0, .slice A0_1 l0_1.length c0_1, .slice A0_2 l0_2.length c0_2, .slice (some ad127) l0_3.length c0_3] 33 (0, 0))) := ⟨by (with_reducible repeat (first | refine blk_drewN ?_ _ | refine blk_drew ?_ | refine blk_alloc ?_ _)); refine blk_far ?_ NB126_128.out _; (with_reducible repeat (first | refine blk_drewN ?_ _ | refine blk_drew ?_ | refine blk_alloc ?_ _)); refine blk_far ?_ NB126_128.out _; (with_reducible repeat (first | refine blk_drewN ?_ _ | refine blk_drew ?_ | refine blk_alloc ?_ _)); refine blk_far ?_ NB126_128.out _; (with_reducible repeat (first | refine blk_drewN ?_ _ | refine blk_drew ?_ | refine blk_alloc ?_ _)); exact BK126.out⟩
   have n1_ : Aside0 ((((w14.setCell ⟨gb128, 0, none⟩ (.int .i64 ((rd_T130 l0_3 x8_1).f0))).setCell ⟨gb128, 1, none⟩ (.int .i64 ((rd_T130 l0_3 x8_1).f1))).setCell ⟨gb128, 2, none⟩ (.slice A127_2 ((rd_T130 l0_3 x8_1).f2).length c127_2)).heap[gb128]? = some (.cells #[.int .i64 ((rd_T130 l0_3 x8_1).f0), .int .i64 ((rd_T130 l0_3 x8_1).f1), .slice A127_2 ((rd_T130 l0_3 x8_1).f2).length c127_2] 130 (0, 0))) := ⟨by (with_reducible repeat (first | refine blk_drewN ?_ _ | refine blk_drew ?_ | refine blk_alloc ?_ _)); refine blk_put (cs := #[.int .i64 ((rd_T130 l0_3 x8_1).f0), .int .i64 ((rd_T130 l0_3 x8_1).f1), .slice none 0 0]) ?_ 2 _ rfl; (with_reducible repeat (first | refine blk_drewN ?_ _ | refine blk_drew ?_ | refine blk_alloc ?_ _)); refine blk_put (cs := #[.int .i64 ((rd_T130 l0_3 x8_1).f0), .int .i64 0, .slice none 0 0]) ?_ 1 _ rfl; (with_reducible repeat (first | refine blk_drewN ?_ _ | refine blk_drew ?_ | refine blk_alloc ?_ _)); refine blk_put (cs := #[.int .i64 0, .int .i64 0, .slice none 0 0]) ?_ 0 _ rfl; (with_reducible repeat (first | refine blk_drewN ?_ _ | refine blk_drew ?_ | refine blk_alloc ?_ _)); exact BK128.out⟩
   have n2_ : Aside0 (Below w.heap.size w (((w14.setCell ⟨gb128, 0, none⟩ (.int .i64 ((rd_T130 l0_3 x8_1).f0))).setCell ⟨gb128, 1, none⟩ (.int .i64 ((rd_T130 l0_3 x8_1).f1))).setCell ⟨gb128, 2, none⟩ (.slice A127_2 ((rd_T130 l0_3 x8_1).f2).length c127_2))) := ⟨hB HB⟩
   (try clear BK126)
   (try clear BK128)
   (try clear HB)
   generalize (((w14.setCell ⟨gb128, 0, none⟩ (.int .i64 ((rd_T130 l0_3 x8_1).f0))).setCell ⟨gb128, 1, none⟩ (.int .i64 ((rd_T130 l0_3 x8_1).f1))).setCell ⟨gb128, 2, none⟩ (.slice A127_2 ((rd_T130 l0_3 x8_1).f2).length c127_2)) = w17 at n0_ n1_ n2_ ⊢
   have BK126 := n0_
   have BK128 := n1_
   have HB := n2_
   clear n0_ n1_ n2_
   replace BK126 := bd_ BK126
   replace BK128 := bd_ BK128
   replace HB := Aside0.mk (below_drew1 HB.out)
   have p130 : 0 ≤ ((ji10) : Int) := od_
   have q130 : (ji10) < (l0_3.length : Int) := od_
   obtain ⟨ad130, A130_2, c130_2, e130, hx130_0, hx130_1, hx130_2, hl130_2, hi130_2⟩ := at_T130 HR0_3.out (ji10) p130 q130
   have hw130_2 := hx130_2
   have hw130_1 := hx130_1
   have hw130_0 := hx130_0
   obtain rfl : ad127 = ad130 := (by injection e130)
   replace hx130_0 := hc_ HB hx130_0
   replace hx130_1 := hc_ HB hx130_1
   replace hx130_2 := hc_ HB hx130_2
   have HR130_2 := Aside0.mk hi130_2
   have HC130_2 := Aside0.mk hl130_2
   clear hi130_2 hl130_2
   replace p130 := eq_true p130
   replace q130 := eq_true q130
   refine start_ (n := 20) (S := fun w' => w'.cell? ⟨gb126, 0, none⟩ = some (.int .i64 a0_0) ∧ w'.cell? ⟨gb126, 1, none⟩ = some (.slice A0_1 l0_1.length c0_1) ∧ w'.cell? ⟨gb126, 2, none⟩ = some (.slice A0_2 l0_2.length c0_2) ∧ w'.cell? ⟨gb126, 3, none⟩ = some (.slice (some ad127) l0_3.length c0_3) ∧ w'.cell? ⟨gb128, 0, none⟩ = some (.int .i64 ((rd_T130 l0_3 x8_1).f0)) ∧ w'.cell? ⟨gb128, 1, none⟩ = some (.int .i64 ((rd_T130 l0_3 x8_1).f1)) ∧ w'.cell? ⟨gb128, 2, none⟩ = some (.slice A127_2 ((rd_T130 l0_3 x8_1).f2).length c127_2) ∧ w'.cell? (ad127.add (((ji10)).toNat * 3)) = some (.int .i64 ((rd_T130 l0_3 (ji10)).f0)) ∧ w'.cell? ⟨(ad127.add (((ji10)).toNat * 3)).block, (ad127.add (((ji10)).toNat * 3)).off + 1, none⟩ = some (.int .i64 ((rd_T130 l0_3 (ji10)).f1)) ∧ w'.cell? ⟨(ad127.add (((ji10)).toNat * 3)).block, (ad127.add (((ji10)).toNat * 3)).off + 2, none⟩ = some (.slice A130_2 ((rd_T130 l0_3 (ji10)).f2).length c130_2)) (ds := []) (bs 20 0) (by kernel_rfl) rfl rfl ⟨bc_ BK126 0, bc_ BK126 1, bc_ BK126 2, bc_ BK126 3, bc_ BK128 0, bc_ BK128 1, bc_ BK128 2, ((HB.out.cell (World.block_lt_of_cell? w _ hw130_0)).trans hw130_0), ((HB.out.cell (World.block_lt_of_cell? w _ hw130_1)).trans hw130_1), ((HB.out.cell (World.block_lt_of_cell? w _ hw130_2)).trans hw130_2)⟩ (fun hHeld => ?_); refine with_tabW spec_GoodCampus.tab4 spec_GoodCampus.bits4 (fun HT_ HW_ => ?_)
   generalize w17.drew = w18 at BK126 BK128 HB HR130_2 hx130_0 hx130_1 hx130_2 hHeld ⊢
   refine tk_ 0 13 (bs 20 1) HT_ HW_ hHeld ?_
   refine tk_ 1 14 (bs 20 3) HT_ HW_ hHeld ?_
   refine on_ 2 (some 15) (bs 20 7) HT_ (fun K hK => ?_)
   refine goes_ Try.func90 (by kernel_rfl) rfl #[.agg #[.int .i64 a0_0, .slice A0_1 l0_1.length c0_1, .slice A0_2 l0_2.length c0_2, .slice (some ad127) l0_3.length c0_3], .agg #[.int .i64 ((rd_T130 l0_3 x8_1).f0), .int .i64 ((rd_T130 l0_3 x8_1).f1), .slice A127_2 ((rd_T130 l0_3 x8_1).f2).length c127_2]] (by rfl) rfl rfl tm_ ?_
   with_reducible refine (spec_l17Place.calls k1 a0_0 _ _ l0_1 _ _ l0_2 _ _ l0_3 ((rd_T130 l0_3 x8_1).f0) ((rd_T130 l0_3 x8_1).f1) _ _ ((rd_T130 l0_3 x8_1).f2) true _ ?side1 ?side2 ?side3 ?side4 ?side5 ?side6 ?side7 ?side8 A7.out).mono ?_
   (case side1 => exact cb_ HR0_1 HB)
   (case side2 => exact HC0_1.out)
   (case side3 => exact cb_ HR0_2 HB)
   (case side4 => exact HC0_2.out)
   (case side5 => exact cb_ HR0_3 HB)
   (case side6 => exact HC0_3.out)
   (case side7 => exact cb_ HR127_2 HB)
   (case side8 => exact HC127_2.out)
   rintro e w19 ⟨rfl, hb⟩
   refine ⟨_, rfl, ?_⟩
   replace BK126 := bb_ BK126 hb
   replace BK128 := bb_ BK128 hb
   replace HB := bst_ HB hb
   clear hb
   refine hK.out _ _ ⟨bc_ BK126 0, bc_ BK126 1, bc_ BK126 2, bc_ BK126 3, bc_ BK128 0, bc_ BK128 1, bc_ BK128 2, ((HB.out.cell (World.block_lt_of_cell? w _ hw130_0)).trans hw130_0), ((HB.out.cell (World.block_lt_of_cell? w _ hw130_1)).trans hw130_1), ((HB.out.cell (World.block_lt_of_cell? w _ hw130_2)).trans hw130_2)⟩ (fun hHeld => ?_)
   clear hK K
   refine nm_ 15 ?_
   refine pu_ 3 16 (bs 20 15) HT_ ?_
   refine pu_ 4 17 (bs 20 31) HT_ ?_
   refine pu_ 5 18 (bs 20 63) HT_ ?_
   refine pu_ 6 19 (bs 20 127) HT_ ?_
   refine pu_ 7 20 (bs 20 255) HT_ ?_
   refine pu_ 8 21 (bs 20 511) HT_ ?_
   refine pu_ 10 23 (bs 20 1535) HT_ ?_
   refine pu_ 11 24 (bs 20 3583) HT_ ?_
   refine pu_ 15 28 (bs 20 36351) HT_ ?_
   refine tk_ 9 22 (bs 20 36863) HT_ HW_ hHeld ?_
   refine pu_ 12 25 (bs 20 40959) HT_ ?_
   refine pu_ 13 26 (bs 20 49151) HT_ ?_
   refine tk_ 14 27 (bs 20 65535) HT_ HW_ hHeld ?_
   refine tk_ 16 29 (bs 20 131071) HT_ HW_ hHeld ?_
   refine pu_ 17 30 (bs 20 262143) HT_ ?_
   refine pu_ 18 31 (bs 20 524287) HT_ ?_
   refine pu_ 19 32 (bs 20 1048575) HT_ ?_
   refine done_ (done_of HT_.out (by kernel_rfl)) ?_
   try go_wp2
   go_ret
   exact ⟨by first | rfl | (simp [errW_none, errW_some] <;> rfl) | (simp only [← hji10]; first | rfl | (simp [errW_none, errW_some] <;> rfl)) | (simp [*, errW_none, errW_some] <;> rfl), hB HB⟩

def spec_l1Has.l0 : Nat → Int → List Int → Int → Int → Option (Bool)
 | 0, _, _, _, _ => none
 | k + 1, x1, x7, x8, x9 => if x9 < x8 then (if 0 ≤ x9 then (if x9 < (x7.length : Int) then (if (rd x7 x9) = x1 then (some true) else (spec_l1Has.l0 k x1 x7 x8 (wrap64 (x9 + 1)))) else (none)) else (none)) else (some false)
def spec_l1Has.f (k : Nat) (l0 : List Int) (a1 : Int) : Option (Bool) := spec_l1Has.l0 k a1 l0 (l0.length : Int) 0
theorem spec_l1Has.mono_l : ∀ k, (∀ y0 y1 y2 y3, LeO (spec_l1Has.l0 k y0 y1 y2 y3) (spec_l1Has.l0 (k + 1) y0 y1 y2 y3))
 | 0 => fun _ _ _ _ r h => by simp [spec_l1Has.l0] at h
 | k + 1 => by
  have ih0 := spec_l1Has.mono_l k
  ·intro y0 y1 y2 y3
   unfold spec_l1Has.l0
   repeat' first
   | (with_reducible exact ih0 _ _ _ _)
   | with_reducible first | exact LeO.refl _ | exact LeO.none _ | refine LeO.ite ?_ ?_ | refine LeO.bind ?_ fun _ => ?_
theorem spec_l1Has.mono : ∀ a0 a1 k, LeO (spec_l1Has.f k a0 a1) (spec_l1Has.f (k + 1) a0 a1) := by
 intro a0 a1 k
 have ih0 := spec_l1Has.mono_l k
 unfold spec_l1Has.f
 repeat' first
   | (with_reducible exact ih0 _ _ _ _)
   | with_reducible first | exact LeO.refl _ | exact LeO.none _ | refine LeO.ite ?_ ?_ | refine LeO.bind ?_ fun _ => ?_
set_option maxHeartbeats 8000000 in
set_option maxRecDepth 100000 in
theorem spec_l1Has.calls (k : Nat) (A0 : Option Addr) (c0 : Nat) (l0 : List Int) (a1 : Int) (r : Bool) (w : World) (hr0 : Kd.C (Kd.int .i64) w A0 l0.length l0) (hc0 : l0.length ≤ c0) (h : spec_l1Has.f k l0 a1 = some r) :
  Calls Try.prog 119 #[.slice A0 l0.length c0, .int .i64 a1] w fun e w' => e = .returned (.bool r) ∧ Drawn0 w w' := by
 have HR0 := Aside0.mk hr0
 have HC0 := Aside0.mk hc0
 clear hr0 hc0
 have H : (spec_l1Has.l0 k a1 l0 (l0.length : Int) 0) = some r := h
 clear h
 have H' := Aside0.mk H
 clear H
 go_enter Try.func119, Try.ntmps119
 go_wp2
 go_loopg [9] k (fun kq v9 w' => ∃ (x9_1 : Int), v9 = .int .i64 x9_1 ∧ Aside0 (spec_l1Has.l0 kq a1 l0 (l0.length : Int) x9_1 = some r) ∧ Aside0 (kq ≤ k) ∧ Drawn0 w w')
 case atStart => exact ⟨(0), (by first | rfl | (simp; done) | (simp [*]; done)), H', ⟨Nat.le_refl _⟩, by repeat (first | exact Drawn0.refl _ | apply Drawn0.step)⟩
 case round =>
  clear H'
  obtain ⟨x9_1, rfl, HA, HK1, ⟨m1, rfl⟩⟩ := hrel
  cases gk with
  | zero => exact absurd HA.out (by simp [spec_l1Has.l0])
  | succ k1 =>
   have H := HA.out
   clear HA
   simp only [spec_l1Has.l0] at H
   by_cases c3 : x9_1 < (l0.length : Int)
   rotate_left
   ·rw [if_neg c3] at H
    have c3b0 : decide (x9_1 < (l0.length : Int)) = false := decide_eq_false c3
    clear c3
    obtain rfl := Option.some.inj H
    go_wp2
    go_ret
    exact ⟨by first | rfl | (simp; done) | (simp [*]; done), by repeat (first | exact Drawn0.refl _ | apply Drawn0.step)⟩
   rw [if_pos c3] at H
   have c3b0 : decide (x9_1 < (l0.length : Int)) = true := decide_eq_true c3
   clear c3
   by_cases c4 : 0 ≤ x9_1
   rotate_left
   ·rw [if_neg c4] at H
    exact absurd H (by simp)
   rw [if_pos c4] at H
   have c4b0 : decide (0 ≤ x9_1) = true := decide_eq_true c4
   clear c4
   by_cases c5 : x9_1 < (l0.length : Int)
   rotate_left
   ·rw [if_neg c5] at H
    exact absurd H (by simp)
   rw [if_pos c5] at H
   have c5b0 : decide (x9_1 < (l0.length : Int)) = true := decide_eq_true c5
   clear c5
   by_cases c6 : (rd l0 x9_1) = a1
   ·rw [if_pos c6] at H
    have c6b0 : ((rd l0 x9_1) == a1) = true := beq_iff_eq.mpr c6
    have c6b1 : ((rd l0 x9_1) != a1) = false := bne_eq_false_iff_eq.mpr c6
    clear c6
    obtain rfl := Option.some.inj H
    have p133 : 0 ≤ (x9_1 : Int) := od_
    have q133 : x9_1 < (l0.length : Int) := od_
    obtain ⟨ad133, e133, hx133_0⟩ := Kd.at_int HR0.out x9_1 p133 q133
    cases e133
    replace p133 := eq_true p133
    replace q133 := eq_true q133
    go_wp2
    go_ret
    exact ⟨by first | rfl | (simp; done) | (simp [*]; done), by repeat (first | exact Drawn0.refl _ | apply Drawn0.step)⟩
   rw [if_neg c6] at H
   have c6b0 : ((rd l0 x9_1) == a1) = false := beq_eq_false_iff_ne.mpr c6
   have c6b1 : ((rd l0 x9_1) != a1) = true := bne_iff_ne.mpr c6
   have H' := Aside0.mk H
   clear H
   have p133 : 0 ≤ (x9_1 : Int) := od_
   have q133 : x9_1 < (l0.length : Int) := od_
   obtain ⟨ad133, e133, hx133_0⟩ := Kd.at_int HR0.out x9_1 p133 q133
   cases e133
   replace p133 := eq_true p133
   replace q133 := eq_true q133
   go_wp2
   go_roundg k1
   case measure => have := HK1.out; omega
   case rel => exact ⟨(wrap64 (x9_1 + 1)), (by first | rfl | (simp; done) | (simp [*]; done)), H', ⟨by have := HK1.out; omega⟩, by repeat (first | exact Drawn0.refl _ | apply Drawn0.step)⟩

def spec_l15Without.l0 : Nat → List Int → List (S86) → List (S86) → Int → Int → Option ((List (S86)))
 | 0, _, _, _, _, _ => none
 | k + 1, x1, x5, x8, x9, x10 => if x10 < x9 then (if 0 ≤ x10 then (if x10 < (x8.length : Int) then ((spec_l1Has.f k x1 x10).bind fun t136 => (if t136 = true then (spec_l15Without.l0 k x1 x5 x8 x9 (wrap64 (x10 + 1))) else (if x5.length < 5864062014805 then (spec_l15Without.l0 k x1 (x5 ++ [(⟨(rd_T86 x8 x10).f0, (rd_T86 x8 x10).f1, (rd_T86 x8 x10).f2⟩ : S86)]) x8 x9 (wrap64 (x10 + 1))) else (none)))) else (none)) else (none)) else (some x5)
def spec_l15Without.f (k : Nat) (l0 : List (S86)) (l1 : List Int) : Option ((List (S86))) := spec_l15Without.l0 k l1 ([] : List (S86)) l0 (l0.length : Int) 0
theorem spec_l15Without.mono_l : ∀ k, (∀ y0 y1 y2 y3 y4, LeO (spec_l15Without.l0 k y0 y1 y2 y3 y4) (spec_l15Without.l0 (k + 1) y0 y1 y2 y3 y4))
 | 0 => fun _ _ _ _ _ r h => by simp [spec_l15Without.l0] at h
 | k + 1 => by
  have ih0 := spec_l15Without.mono_l k
  ·intro y0 y1 y2 y3 y4
   unfold spec_l15Without.l0
   repeat' first
   | (with_reducible exact ih0 _ _ _ _ _)
   | (with_reducible exact spec_l1Has.mono _ _ _)
   | with_reducible first | exact LeO.refl _ | exact LeO.none _ | refine LeO.ite ?_ ?_ | refine LeO.bind ?_ fun _ => ?_
theorem spec_l15Without.mono : ∀ a0 a1 k, LeO (spec_l15Without.f k a0 a1) (spec_l15Without.f (k + 1) a0 a1) := by
 intro a0 a1 k
 have ih0 := spec_l15Without.mono_l k
 unfold spec_l15Without.f
 repeat' first
   | (with_reducible exact ih0 _ _ _ _ _)
   | (with_reducible exact spec_l1Has.mono _ _ _)
   | with_reducible first | exact LeO.refl _ | exact LeO.none _ | refine LeO.ite ?_ ?_ | refine LeO.bind ?_ fun _ => ?_
set_option maxHeartbeats 8000000 in
set_option maxRecDepth 100000 in
theorem spec_l15Without.calls (k : Nat) (A0 : Option Addr) (c0 : Nat) (l0 : List (S86)) (A1 : Option Addr) (c1 : Nat) (l1 : List Int) (r : List (S86)) (w : World) (hr0 : Kd.C k86 w A0 l0.length l0) (hc0 : l0.length ≤ c0) (hr1 : Kd.C (Kd.int .i64) w A1 l1.length l1) (hc1 : l1.length ≤ c1) (h : spec_l15Without.f k l0 l1 = some r) :
  Calls Try.prog 92 #[.slice A0 l0.length c0, .slice A1 l1.length c1] w fun e w' => ∃ v0_ : Value, e = .returned (v0_) ∧ Kd.R k86 86 w' w.heap.size (fun _ => True) v0_ r ∧ Below w.heap.size w w' := by
 have hu86 := Try.underlying86
 have HR0 := Aside0.mk hr0
 have HC0 := Aside0.mk hc0
 clear hr0 hc0
 have HR1 := Aside0.mk hr1
 have HC1 := Aside0.mk hc1
 clear hr1 hc1
 have HB := Aside0.mk (Below.refl w.heap.size w)
 have H : (spec_l15Without.l0 k l1 ([] : List (S86)) l0 (l0.length : Int) 0) = some r := h
 clear h
 have H' := Aside0.mk H
 clear H
 go_enter Try.func92, Try.ntmps92
 go_wp2
 go_loopg [5, 10] k (fun kq v5 v10 w' => ∃ (x5_1 : List (S86)) (x10_1 : Int), v10 = .int .i64 x10_1 ∧ Aside0 (spec_l15Without.l0 kq l1 x5_1 l0 (l0.length : Int) x10_1 = some r) ∧ Aside0 (kq ≤ k) ∧ Aside0 (Kd.R k86 86 w' w.heap.size (fun _ => True) v5 x5_1) ∧ Aside0 (Below w.heap.size w w'))
 case atStart => exact ⟨(([] : List (S86))), (0), (by first | rfl | (simp; done) | (simp [*]; done)), H', ⟨Nat.le_refl _⟩, ⟨by first | exact Kd.R_nil _ _ _ _ _ | exact Kd.N_nil _ _ _ _ _ | exact Kd.V_nil _ _ _ _ _ | exact Kd.Q_nil _ _ _ _ _ | exact Kd.S_nil _ _ _ _ _⟩, ⟨hB HB⟩⟩
 case round =>
  clear H'
  try clear c1
  obtain ⟨x5_1, x10_1, rfl, HA, HK1, HO_5, HB⟩ := hrel
  cases gk with
  | zero => exact absurd HA.out (by simp [spec_l15Without.l0])
  | succ k1 =>
   have H := HA.out
   clear HA
   simp only [spec_l15Without.l0] at H
   by_cases c3 : x10_1 < (l0.length : Int)
   rotate_left
   ·rw [if_neg c3] at H
    have c3b0 : decide (x10_1 < (l0.length : Int)) = false := decide_eq_false c3
    clear c3
    obtain rfl := Option.some.inj H
    go_wp2
    go_ret
    exact ⟨_, rt_, ra HO_5.out, hB HB⟩
   rw [if_pos c3] at H
   have c3b0 : decide (x10_1 < (l0.length : Int)) = true := decide_eq_true c3
   clear c3
   by_cases c4 : 0 ≤ x10_1
   rotate_left
   ·rw [if_neg c4] at H
    exact absurd H (by simp)
   rw [if_pos c4] at H
   have c4b0 : decide (0 ≤ x10_1) = true := decide_eq_true c4
   clear c4
   by_cases c5 : x10_1 < (l0.length : Int)
   rotate_left
   ·rw [if_neg c5] at H
    exact absurd H (by simp)
   rw [if_pos c5] at H
   have c5b0 : decide (x10_1 < (l0.length : Int)) = true := decide_eq_true c5
   clear c5
   replace H := Option.bind_eq_some_iff.mp H
   obtain ⟨t136, A60, H⟩ := H
   replace H : (if t136 = true then (spec_l15Without.l0 k1 l1 x5_1 l0 (l0.length : Int) (wrap64 (x10_1 + 1))) else (if x5_1.length < 5864062014805 then (spec_l15Without.l0 k1 l1 (x5_1 ++ [(⟨(rd_T86 l0 x10_1).f0, (rd_T86 l0 x10_1).f1, (rd_T86 l0 x10_1).f2⟩ : S86)]) l0 (l0.length : Int) (wrap64 (x10_1 + 1))) else (none))) = some r := H
   have A6 := Aside0.mk A60
   clear A60
   by_cases c7 : t136 = true
   ·subst c7
    rw [if_pos rfl] at H
    have H' := Aside0.mk H
    clear H
    have p134 : 0 ≤ (x10_1 : Int) := od_
    have q134 : x10_1 < (l0.length : Int) := od_
    obtain ⟨ad134, e134, hx134_0, hx134_1, hx134_2⟩ := at_T86 HR0.out x10_1 p134 q134
    cases e134
    replace hx134_0 := hc_ HB hx134_0
    replace hx134_1 := hc_ HB hx134_1
    replace hx134_2 := hc_ HB hx134_2
    replace p134 := eq_true p134
    replace q134 := eq_true q134
    go_wp2_with (first | ((with_reducible refine gate_dst (N := 7) rfl ?_); refine box_event ?hg (N := 7) ?hd (cs := #[.int .i64 0, .int .i64 0, .int .i64 0]) (t := 86) ?hr ?_; (case hd => rfl); (case hg => rfl); (case hr => first | (go_simp; done) | (go_simp; rfl)); intro gb135 hg w8 hbox hb; have BK135 := Aside0.mk (hbox); have GW135 := gw_ hg HB; have GE135 := gw_ hg HB; replace HO_5 := Aside0.mk (Kd.R_below (Kd.R_elderB (ra HO_5.out) gb135 (Nat.le_of_eq hg.symm)) hb); replace HB := bst_ HB hb; clear hb hbox hg; obtain ⟨hcz9_0, hcz9_1, hcz9_2⟩ := bcs3_ BK135; have hfz9_0 := blk_frozen BK135.out 0; have hfz9_1 := blk_frozen BK135.out 1; have hfz9_2 := blk_frozen BK135.out 2) | (refine goesL_ (some 17) rfl rfl Try.func119 (by kernel_rfl) rfl #[.slice A1 l1.length c1, .int .i64 x10_1] rfl tm_ ?_; (with_reducible refine (spec_l1Has.calls k1 _ _ l1 x10_1 true _ ?side1 ?side2 A6.out).mono ?_); (case side1 => exact Kd.C_below HR1.out (hB HB)); (case side2 => exact HC1.out); rintro e w' ⟨rfl, ⟨nd, rfl⟩⟩; refine ⟨_, rfl, ?_⟩))
    go_roundg k1
    case measure => have := HK1.out; omega
    case rel => exact ⟨(x5_1), (wrap64 (x10_1 + 1)), (by first | rfl | (simp; done) | (simp [*]; done)), H', ⟨by have := HK1.out; omega⟩, ⟨by (with_reducible repeat (first | apply Kd.R_alloc | apply Kd.R_drewN | apply Kd.R_drew)); exact Kd.R_mono (Kd.R_far (p := ⟨gb135, 2, none⟩) (Kd.R_far (p := ⟨gb135, 1, none⟩) (Kd.R_far (p := ⟨gb135, 0, none⟩) (Kd.R_mono HO_5.out (fun k_ hk => (⟨hk, hk.2⟩ : _ ∧ k_ ≠ gb135))) (fun _ hk => hk.2) (.int .i64 ((rd_T86 l0 x10_1).f0))) (fun _ hk => hk.2) (.int .i64 ((rd_T86 l0 x10_1).f1))) (fun _ hk => hk.2) (.int .i64 ((rd_T86 l0 x10_1).f2))) (fun _ hk => trivial)⟩, ⟨hB HB⟩⟩
   replace c7 := Bool.eq_false_iff.mpr c7
   subst c7
   rw [if_neg (show ¬ (false = true) by decide)] at H
   by_cases c10 : x5_1.length < 5864062014805
   rotate_left
   ·rw [if_neg c10] at H
    exact absurd H (by simp)
   rw [if_pos c10] at H
   have LMc10 := Aside0.mk c10
   clear c10
   obtain ⟨y137, hy137⟩ : ∃ y_ : List (S86), y_ = (x5_1 ++ [(⟨(rd_T86 l0 x10_1).f0, (rd_T86 l0 x10_1).f1, (rd_T86 l0 x10_1).f2⟩ : S86)]) := ⟨_, rfl⟩
   replace H : (spec_l15Without.l0 k1 l1 y137 l0 (l0.length : Int) (wrap64 (x10_1 + 1))) = some r := by first | (rw [hy137]; with_reducible exact H) | (rw [hy137]; with_reducible exact (Option.bind_some _ _).symm.trans H) | (with_reducible exact (Option.bind_some _ _).symm.trans H) | exact H
   have Ny137 := Aside0.mk hy137
   clear hy137
   have H' := Aside0.mk H
   clear H
   have p134 : 0 ≤ (x10_1 : Int) := od_
   have q134 : x10_1 < (l0.length : Int) := od_
   obtain ⟨ad134, e134, hx134_0, hx134_1, hx134_2⟩ := at_T86 HR0.out x10_1 p134 q134
   cases e134
   replace hx134_0 := hc_ HB hx134_0
   replace hx134_1 := hc_ HB hx134_1
   replace hx134_2 := hc_ HB hx134_2
   replace p134 := eq_true p134
   replace q134 := eq_true q134
   go_wp2_with (first | ((with_reducible refine gate_dst (N := 7) rfl ?_); refine box_event ?hg (N := 7) ?hd (cs := #[.int .i64 0, .int .i64 0, .int .i64 0]) (t := 86) ?hr ?_; (case hd => rfl); (case hg => rfl); (case hr => first | (go_simp; done) | (go_simp; rfl)); intro gb135 hg w11 hbox hb; have BK135 := Aside0.mk (hbox); have GW135 := gw_ hg HB; have GE135 := gw_ hg HB; replace HO_5 := Aside0.mk (Kd.R_below (Kd.R_elderB (ra HO_5.out) gb135 (Nat.le_of_eq hg.symm)) hb); replace HB := bst_ HB hb; clear hb hbox hg; obtain ⟨hcz12_0, hcz12_1, hcz12_2⟩ := bcs3_ BK135; have hfz12_0 := blk_frozen BK135.out 0; have hfz12_1 := blk_frozen BK135.out 1; have hfz12_2 := blk_frozen BK135.out 2) | (refine goesL_ (some 17) rfl rfl Try.func119 (by kernel_rfl) rfl #[.slice A1 l1.length c1, .int .i64 x10_1] rfl tm_ ?_; (with_reducible refine (spec_l1Has.calls k1 _ _ l1 x10_1 false _ ?side1 ?side2 A6.out).mono ?_); (case side1 => exact Kd.C_below HR1.out (hB HB)); (case side2 => exact HC1.out); rintro e w' ⟨rfl, ⟨nd, rfl⟩⟩; refine ⟨_, rfl, ?_⟩) | ((with_reducible refine gate_builtin (b := .append) (xs := #[.tmp 19, .tmp 21]) rfl ?_); at_builtin; refine Kd.R_append k86 (w0 := w) w.heap.size rfl (.tmp 19) (.tmp 21) 28 86 (.agg #[(.int .i64 0), (.int .i64 0), (.int .i64 0)]) 24 rfl Try.underlying28 info86 rfl (by decide) (by omega) u5 x5_1 (⟨(rd_T86 l0 x10_1).f0, (rd_T86 l0 x10_1).f1, (rd_T86 l0 x10_1).f2⟩ : S86) [.int .i64 ((rd_T86 l0 x10_1).f0), .int .i64 ((rd_T86 l0 x10_1).f1), .int .i64 ((rd_T86 l0 x10_1).f2)] (fun k_ => k_ ≠ gb135) (fun _ => False) rfl (by first | (go_simp; done) | (go_simp; rfl)) ?aP (fun _ hk => hk.elim) ?aF ?aO ?aB ?aS ?aL ?_; (case aP => exact k86_mkM _ _ _ (⟨(rd_T86 l0 x10_1).f0, (rd_T86 l0 x10_1).f1, (rd_T86 l0 x10_1).f2⟩ : S86)); (case aB => exact (hB HB)); (case aF => exact (fun k_ hk => Kd.freshB (g := gb135) (o := .cells #[.int .i64 ((rd_T86 l0 x10_1).f0), .int .i64 ((rd_T86 l0 x10_1).f1), .int .i64 ((rd_T86 l0 x10_1).f2)] 86 (0, 0)) (by (with_reducible repeat (first | refine blk_drewN ?_ _ | refine blk_drew ?_ | refine blk_alloc ?_ _)); refine blk_put (cs := #[.int .i64 ((rd_T86 l0 x10_1).f0), .int .i64 ((rd_T86 l0 x10_1).f1), .int .i64 0]) ?_ 2 _ rfl; (with_reducible repeat (first | refine blk_drewN ?_ _ | refine blk_drew ?_ | refine blk_alloc ?_ _)); refine blk_put (cs := #[.int .i64 ((rd_T86 l0 x10_1).f0), .int .i64 0, .int .i64 0]) ?_ 1 _ rfl; (with_reducible repeat (first | refine blk_drewN ?_ _ | refine blk_drew ?_ | refine blk_alloc ?_ _)); refine blk_put (cs := #[.int .i64 0, .int .i64 0, .int .i64 0]) ?_ 0 _ rfl; (with_reducible repeat (first | refine blk_drewN ?_ _ | refine blk_drew ?_ | refine blk_alloc ?_ _)); exact BK135.out) k_ hk)); (case aO => exact (ra (Kd.R_mono (Kd.R_far (p := ⟨gb135, 2, none⟩) (Kd.R_far (p := ⟨gb135, 1, none⟩) (Kd.R_far (p := ⟨gb135, 0, none⟩) (Kd.R_mono HO_5.out (fun k_ hk => (⟨hk, hk.2⟩ : _ ∧ k_ ≠ gb135))) (fun _ hk => hk.2) (.int .i64 ((rd_T86 l0 x10_1).f0))) (fun _ hk => hk.2) (.int .i64 ((rd_T86 l0 x10_1).f1))) (fun _ hk => hk.2) (.int .i64 ((rd_T86 l0 x10_1).f2))) (fun _ hk => hk.1.2)))); (case aS => exact (below_size (hB HB))); (case aL => have := LMc10.out; omega); intro v138 w13 ho hb hg hat; rw [← Ny137.out] at ho; have HO139 := Aside0.mk (ho); replace BK135 := Aside0.mk (blk_grown (g := gb135) (o := .cells #[.int .i64 ((rd_T86 l0 x10_1).f0), .int .i64 ((rd_T86 l0 x10_1).f1), .int .i64 ((rd_T86 l0 x10_1).f2)] 86 (0, 0)) (by (with_reducible repeat (first | refine blk_drewN ?_ _ | refine blk_drew ?_ | refine blk_alloc ?_ _)); refine blk_put (cs := #[.int .i64 ((rd_T86 l0 x10_1).f0), .int .i64 ((rd_T86 l0 x10_1).f1), .int .i64 0]) ?_ 2 _ rfl; (with_reducible repeat (first | refine blk_drewN ?_ _ | refine blk_drew ?_ | refine blk_alloc ?_ _)); refine blk_put (cs := #[.int .i64 ((rd_T86 l0 x10_1).f0), .int .i64 0, .int .i64 0]) ?_ 1 _ rfl; (with_reducible repeat (first | refine blk_drewN ?_ _ | refine blk_drew ?_ | refine blk_alloc ?_ _)); refine blk_put (cs := #[.int .i64 0, .int .i64 0, .int .i64 0]) ?_ 0 _ rfl; (with_reducible repeat (first | refine blk_drewN ?_ _ | refine blk_drew ?_ | refine blk_alloc ?_ _)); exact BK135.out) hg (Kd.R_away HO_5.out (fun _ hk => hk.2))); replace HB := Aside0.mk (hb); clear HO_5; clear ho hb hg hat))
   go_roundg k1
   case measure => have := HK1.out; omega
   case rel => exact ⟨(y137), (wrap64 (x10_1 + 1)), (by first | rfl | (simp; done) | (simp [*]; done)), H', ⟨by have := HK1.out; omega⟩, rm_ HO139 (fun _ hk => trivial), ⟨hB HB⟩⟩

def spec_l17Up.f (k : Nat) (a0_0 : Int) (l0_1 : List (S86)) (l0_2 : List Int) (l0_3 : List (S130)) : Option ((List (S86))) := (spec_l15Without.f k l0_1 l0_2).bind fun t141 => (some t141)
theorem spec_l17Up.mono : ∀ a0 a1 a2 a3 k, LeO (spec_l17Up.f k a0 a1 a2 a3) (spec_l17Up.f (k + 1) a0 a1 a2 a3) := by
 intro a0 a1 a2 a3 k
 unfold spec_l17Up.f
 repeat' first
   | (with_reducible exact spec_l15Without.mono _ _ _)
   | with_reducible first | exact LeO.refl _ | exact LeO.none _ | refine LeO.ite ?_ ?_ | refine LeO.bind ?_ fun _ => ?_
set_option maxHeartbeats 8000000 in
set_option maxRecDepth 100000 in
theorem spec_l17Up.calls (k : Nat) (a0_0 : Int) (A0_1 : Option Addr) (c0_1 : Nat) (l0_1 : List (S86)) (A0_2 : Option Addr) (c0_2 : Nat) (l0_2 : List Int) (A0_3 : Option Addr) (c0_3 : Nat) (l0_3 : List (S130)) (r : List (S86)) (w : World) (hr0_1 : Kd.C k86 w A0_1 l0_1.length l0_1) (hc0_1 : l0_1.length ≤ c0_1) (hr0_2 : Kd.C (Kd.int .i64) w A0_2 l0_2.length l0_2) (hc0_2 : l0_2.length ≤ c0_2) (hr0_3 : Kd.C k130 w A0_3 l0_3.length l0_3) (hc0_3 : l0_3.length ≤ c0_3) (h : spec_l17Up.f k a0_0 l0_1 l0_2 l0_3 = some r) :
  Calls Try.prog 54 #[.agg #[.int .i64 a0_0, .slice A0_1 l0_1.length c0_1, .slice A0_2 l0_2.length c0_2, .slice A0_3 l0_3.length c0_3]] w fun e w' => ∃ v0_ : Value, e = .returned (v0_) ∧ Kd.R k86 86 w' w.heap.size (fun _ => True) v0_ r ∧ Below w.heap.size w w' := by
 have hu33 := Try.underlying33
 have HR0_1 := Aside0.mk hr0_1
 have HC0_1 := Aside0.mk hc0_1
 clear hr0_1 hc0_1
 have HR0_2 := Aside0.mk hr0_2
 have HC0_2 := Aside0.mk hc0_2
 clear hr0_2 hc0_2
 have HR0_3 := Aside0.mk hr0_3
 have HC0_3 := Aside0.mk hc0_3
 clear hr0_3 hc0_3
 have HB := Aside0.mk (Below.refl w.heap.size w)
 have H : ((spec_l15Without.f k l0_1 l0_2).bind fun t141 => (some t141)) = some r := h
 clear h
 replace H := Option.bind_eq_some_iff.mp H
 obtain ⟨t141, A20, H⟩ := H
 replace H : (some t141) = some r := H
 have A2 := Aside0.mk A20
 clear A20
 obtain rfl := Option.some.inj H
 go_enter Try.func54, Try.ntmps54
 go_wp2_with (first | ((with_reducible refine gate_dst (N := 1) rfl ?_); refine box_event ?hg (N := 1) ?hd (cs := #[.int .i64 a0_0, .slice A0_1 l0_1.length c0_1, .slice A0_2 l0_2.length c0_2, .slice A0_3 l0_3.length c0_3]) (t := 33) ?hr ?_; (case hd => rfl); (case hg => rfl); (case hr => first | (go_simp; done) | (go_simp; rfl)); intro gb140 hg w3 hbox hb; have BK140 := Aside0.mk (hbox); have GW140 := gw_ hg HB; have GE140 := gw_ hg HB; replace HB := bst_ HB hb; clear hb hbox hg; obtain ⟨hcz4_0, hcz4_1, hcz4_2, hcz4_3⟩ := bcs4_ BK140) | (refine goesL_ (some 7) rfl rfl Try.func92 (by kernel_rfl) rfl #[.slice A0_1 l0_1.length c0_1, .slice A0_2 l0_2.length c0_2] rfl tm_ ?_; (with_reducible refine (spec_l15Without.calls k _ _ l0_1 _ _ l0_2 t141 _ ?side1 ?side2 ?side3 ?side4 A2.out).mono ?_); (case side1 => exact cb_ HR0_1 HB); (case side2 => exact HC0_1.out); (case side3 => exact cb_ HR0_2 HB); (case side4 => exact HC0_2.out); rintro e w5 ⟨v142, rfl, ho0, hb⟩; refine ⟨_, rfl, ?_⟩; have HO143 := Aside0.mk (Kd.R_lower ho0 (below_size (hB HB))); replace BK140 := bb_ BK140 hb; replace HB := bst_ HB hb; clear hb ho0))
 go_ret
 exact ⟨_, rt_, ra HO143.out, hB HB⟩

def laws_toEdge.f (a0_0 : Int) (a0_1 : Int) (a0_2 : Int) : Option (Int × Int × Int) := some (a0_0, a0_1, a0_2)
set_option maxHeartbeats 8000000 in
set_option maxRecDepth 100000 in
theorem laws_toEdge.calls (a0_0 : Int) (a0_1 : Int) (a0_2 : Int) (r1 : Int) (r2 : Int) (r3 : Int) (w : World) (h : laws_toEdge.f a0_0 a0_1 a0_2 = some (r1, r2, r3)) :
  Calls Try.prog 70 #[.agg #[.int .i64 a0_0, .int .i64 a0_1, .int .i64 a0_2]] w fun e w' => e = .returned (.agg #[.int .i64 r1, .int .i64 r2, .int .i64 r3]) ∧ Below w.heap.size w w' := by
 have hu105 := Try.underlying105
 have hu86 := Try.underlying86
 have HB := Aside0.mk (Below.refl w.heap.size w)
 have H : (some (a0_0, a0_1, a0_2)) = some (r1, r2, r3) := h
 clear h
 simp only [Option.some.injEq, Prod.mk.injEq] at H
 obtain ⟨rfl, rfl, rfl⟩ := H
 go_enter Try.func70, Try.ntmps70
 go_wp2_with (first | ((with_reducible refine gate_dst (N := 1) rfl ?_); refine box_event ?hg (N := 1) ?hd (cs := #[.int .i64 a0_0, .int .i64 a0_1, .int .i64 a0_2]) (t := 105) ?hr ?_; (case hd => rfl); (case hg => rfl); (case hr => first | (go_simp; done) | (go_simp; rfl)); intro gb149 hg w2 hbox hb; have BK149 := Aside0.mk (hbox); have GW149 := gw_ hg HB; have GE149 := gw_ hg HB; replace HB := bst_ HB hb; clear hb hbox hg) | ((with_reducible refine gate_dst (N := 2) rfl ?_); refine box_event ?hg (N := 2) ?hd (cs := #[.int .i64 0, .int .i64 0, .int .i64 0]) (t := 86) ?hr ?_; (case hd => rfl); (case hg => rfl); (case hr => first | (go_simp; done) | (go_simp; rfl)); intro gb150 hg w3 hbox hb; have BK150 := Aside0.mk (hbox); have GW150 := gw_ hg HB; have GE150 := gw_ hg HB; have NB149_150 := nl_ hg BK149; have NB150_149 := ng_ hg BK149; replace BK149 := bb_ BK149 hb; replace HB := bst_ HB hb; clear hb hbox hg) | ((with_reducible refine gate_dst (N := 3) rfl ?_); refine box_event ?hg (N := 3) ?hd (cs := #[.int .i64 0, .int .i64 0, .int .i64 0]) (t := 86) ?hr ?_; (case hd => rfl); (case hg => rfl); (case hr => first | (go_simp; done) | (go_simp; rfl)); intro gb151 hg w4 hbox hb; have BK151 := Aside0.mk (hbox); have GW151 := gw_ hg HB; have GE151 := gw_ hg HB; have NB149_151 := nl_ hg BK149; have NB151_149 := ng_ hg BK149; have NB150_151 := nl_ hg BK150; have NB151_150 := ng_ hg BK150; replace BK149 := bb_ BK149 hb; replace BK150 := bb_ BK150 hb; replace HB := bst_ HB hb; clear hb hbox hg; have hnb5 := NB149_150.out; have hnc5 := NB150_149.out; have hnb6 := NB149_151.out; have hnc6 := NB151_149.out; obtain ⟨hcz7_0, hcz7_1, hcz7_2⟩ := bcs3_ BK149; have hnb8 := NB151_150.out; have hnc8 := NB150_151.out; obtain ⟨hcz9_0, hcz9_1, hcz9_2⟩ := bcs3_ BK151; have hfz9_0 := blk_frozen BK151.out 0; have hfz9_1 := blk_frozen BK151.out 1; have hfz9_2 := blk_frozen BK151.out 2; obtain ⟨hcz10_0, hcz10_1, hcz10_2⟩ := bcs3_ BK150; have hfz10_0 := blk_frozen BK150.out 0; have hfz10_1 := blk_frozen BK150.out 1; have hfz10_2 := blk_frozen BK150.out 2))
 refine bodyPost_ret (results_cell_row rfl _ _ gb150 86 #[.int .i64 a0_0, .int .i64 a0_1, .int .i64 a0_2] (0, 0) _ rfl (by (with_reducible repeat (first | refine blk_drewN ?_ _ | refine blk_drew ?_ | refine blk_alloc ?_ _)); refine blk_put (cs := #[.int .i64 a0_0, .int .i64 a0_1, .int .i64 0]) ?_ 2 _ rfl; (with_reducible repeat (first | refine blk_drewN ?_ _ | refine blk_drew ?_ | refine blk_alloc ?_ _)); refine blk_put (cs := #[.int .i64 a0_0, .int .i64 0, .int .i64 0]) ?_ 1 _ rfl; (with_reducible repeat (first | refine blk_drewN ?_ _ | refine blk_drew ?_ | refine blk_alloc ?_ _)); refine blk_put (cs := #[.int .i64 0, .int .i64 0, .int .i64 0]) ?_ 0 _ rfl; (with_reducible repeat (first | refine blk_drewN ?_ _ | refine blk_drew ?_ | refine blk_alloc ?_ _)); refine blk_far ?_ NB150_151.out _; (with_reducible repeat (first | refine blk_drewN ?_ _ | refine blk_drew ?_ | refine blk_alloc ?_ _)); refine blk_far ?_ NB150_151.out _; (with_reducible repeat (first | refine blk_drewN ?_ _ | refine blk_drew ?_ | refine blk_alloc ?_ _)); refine blk_far ?_ NB150_151.out _; (with_reducible repeat (first | refine blk_drewN ?_ _ | refine blk_drew ?_ | refine blk_alloc ?_ _)); exact BK150.out) Try.underlying86 rfl (by kernel_rfl)) rfl ?_
 exact ⟨rt_, hB HB⟩

def laws_toEdgeS.l0 : Nat → List (S105) → List (S86) → Int → Option ((List (S86)))
 | 0, _, _, _ => none
 | k + 1, x0, x3, x4 => if x4 < (x0.length : Int) then (if 0 ≤ x4 then ((laws_toEdge.f ((rd_T105 x0 x4).f0) ((rd_T105 x0 x4).f1) ((rd_T105 x0 x4).f2)).bind fun bt156 => (if x4 < (x3.length : Int) then (laws_toEdgeS.l0 k x0 (x3.set (x4 : Int).toNat (⟨bt156.1, bt156.2.1, bt156.2.2⟩ : S86)) (wrap64 (x4 + 1))) else (none))) else (none)) else (some x3)
def laws_toEdgeS.f (k : Nat) (l0 : List (S105)) : Option ((List (S86))) := if 0 ≤ (l0.length : Int) then (if ((l0.length : Int) : Int).toNat ≤ 11728124029610 then (laws_toEdgeS.l0 k l0 (List.replicate ((l0.length : Int) : Int).toNat z86) 0) else (none)) else (none)
theorem laws_toEdgeS.mono_l : ∀ k, (∀ y0 y1 y2, LeO (laws_toEdgeS.l0 k y0 y1 y2) (laws_toEdgeS.l0 (k + 1) y0 y1 y2))
 | 0 => fun _ _ _ r h => by simp [laws_toEdgeS.l0] at h
 | k + 1 => by
  have ih0 := laws_toEdgeS.mono_l k
  ·intro y0 y1 y2
   unfold laws_toEdgeS.l0
   repeat' first
   | (with_reducible exact ih0 _ _ _)
   | with_reducible first | exact LeO.refl _ | exact LeO.none _ | refine LeO.ite ?_ ?_ | refine LeO.bind ?_ fun _ => ?_
theorem laws_toEdgeS.mono : ∀ a0 k, LeO (laws_toEdgeS.f k a0) (laws_toEdgeS.f (k + 1) a0) := by
 intro a0 k
 have ih0 := laws_toEdgeS.mono_l k
 unfold laws_toEdgeS.f
 repeat' first
   | (with_reducible exact ih0 _ _ _)
   | with_reducible first | exact LeO.refl _ | exact LeO.none _ | refine LeO.ite ?_ ?_ | refine LeO.bind ?_ fun _ => ?_
set_option maxHeartbeats 8000000 in
set_option maxRecDepth 100000 in
theorem laws_toEdgeS.calls (k : Nat) (A0 : Option Addr) (c0 : Nat) (l0 : List (S105)) (r : List (S86)) (w : World) (hr0 : Kd.C k105 w A0 l0.length l0) (hc0 : l0.length ≤ c0) (h : laws_toEdgeS.f k l0 = some r) :
  Calls Try.prog 29 #[.slice A0 l0.length c0] w fun e w' => ∃ v0_ : Value, e = .returned (v0_) ∧ Kd.R k86 86 w' w.heap.size (fun _ => True) v0_ r ∧ Below w.heap.size w w' := by
 have hu105 := Try.underlying105
 have hu86 := Try.underlying86
 have HR0 := Aside0.mk hr0
 have HC0 := Aside0.mk hc0
 clear hr0 hc0
 have HB := Aside0.mk (Below.refl w.heap.size w)
 have H : (if 0 ≤ (l0.length : Int) then (if ((l0.length : Int) : Int).toNat ≤ 11728124029610 then (laws_toEdgeS.l0 k l0 (List.replicate ((l0.length : Int) : Int).toNat z86) 0) else (none)) else (none)) = some r := h
 clear h
 by_cases c2 : 0 ≤ (l0.length : Int)
 rotate_left
 ·rw [if_neg c2] at H
  exact absurd H (by simp)
 rw [if_pos c2] at H
 have c2b0 := eq_true c2
 have c2b1 : decide (0 ≤ (l0.length : Int)) = true := decide_eq_true c2
 clear c2
 by_cases c3 : ((l0.length : Int) : Int).toNat ≤ 11728124029610
 rotate_left
 ·rw [if_neg c3] at H
  exact absurd H (by simp)
 rw [if_pos c3] at H
 have c3b0 := eq_true c3
 have c3b1 : decide (((l0.length : Int) : Int).toNat ≤ 11728124029610) = true := decide_eq_true c3
 clear c3
 obtain ⟨y152, hy152⟩ : ∃ y_ : List (S86), y_ = (List.replicate ((l0.length : Int) : Int).toNat z86) := ⟨_, rfl⟩
 replace H : (laws_toEdgeS.l0 k l0 y152 0) = some r := by first | (rw [hy152]; with_reducible exact H) | (rw [hy152]; with_reducible exact (Option.bind_some _ _).symm.trans H) | (with_reducible exact (Option.bind_some _ _).symm.trans H) | exact H
 have Ny152 := Aside0.mk hy152
 clear hy152
 have H' := Aside0.mk H
 clear H
 go_enter Try.func29, Try.ntmps29
 go_wp2_with (first | ((with_reducible refine gate_dst (N := 7) rfl ?_); refine Kd.R_make k86 _ 86 rfl (N := 7) rfl 28 _ _ rfl (l0.length : Int) rfl rfl Try.underlying28 (.agg #[(.int .i64 0), (.int .i64 0), (.int .i64 0)]) 24 info86 rfl (by decide) (by omega) z86 (ok := fun _ => True) (okp := fun _ => True) (k86_mkM _ _ _ z86 ) (fun _ hk => hk) trivial (od_) (Nat.le_trans (Nat.mul_le_mul_right _ (od_ : (l0.length : Int).toNat ≤ 11728124029610)) (by omega)) (Below.refl _ _) (Nat.le_refl _) ?_; intro v153 w4 ho5 hb hg_ hnew_; clear hg_ hnew_; (first | rw [← Ny152.out] at ho5 | (simp only [Int.reduceToNat] at ho5; rw [← Ny152.out] at ho5)); have HO154 := Aside0.mk (Kd.R_lower ho5 (below_size (hB HB))); replace HB := bst_ HB hb; clear hb ho5))
 go_loopg [4] k (fun kq v4 w' => ∃ (x3_1 : List (S86)) (x4_1 : Int), v4 = .int .i64 x4_1 ∧ Aside0 (laws_toEdgeS.l0 kq l0 x3_1 x4_1 = some r) ∧ Aside0 (kq ≤ k) ∧ Aside0 (Kd.R k86 86 w' w.heap.size (fun _ => True) v153 x3_1) ∧ Aside0 (Below w.heap.size w w'))
 case atStart => exact ⟨(y152), (0), (by first | rfl | (simp; done) | (simp [*]; done)), H', ⟨Nat.le_refl _⟩, ⟨ra HO154.out⟩, ⟨hB HB⟩⟩
 case round =>
  clear H'
  try clear c2
  try clear c2b0
  try clear c2b1
  try clear c3
  try clear c3b0
  try clear c3b1
  obtain ⟨x3_1, x4_1, rfl, HA, HK1, HO_3, HB⟩ := hrel
  cases gk with
  | zero => exact absurd HA.out (by simp [laws_toEdgeS.l0])
  | succ k1 =>
   have H := HA.out
   clear HA
   simp only [laws_toEdgeS.l0] at H
   by_cases c6 : x4_1 < (l0.length : Int)
   rotate_left
   ·rw [if_neg c6] at H
    have c6b0 : decide (x4_1 < (l0.length : Int)) = false := decide_eq_false c6
    clear c6
    obtain rfl := Option.some.inj H
    go_wp2
    go_ret
    exact ⟨_, rt_, ra HO_3.out, hB HB⟩
   rw [if_pos c6] at H
   have c6b0 : decide (x4_1 < (l0.length : Int)) = true := decide_eq_true c6
   clear c6
   by_cases c7 : 0 ≤ x4_1
   rotate_left
   ·rw [if_neg c7] at H
    exact absurd H (by simp)
   rw [if_pos c7] at H
   have c7b0 : decide (0 ≤ x4_1) = true := decide_eq_true c7
   clear c7
   replace H := Option.bind_eq_some_iff.mp H
   obtain ⟨⟨t156, t157, t158⟩, A80, H⟩ := H
   replace H : (if x4_1 < (x3_1.length : Int) then (laws_toEdgeS.l0 k1 l0 (x3_1.set (x4_1 : Int).toNat (⟨t156, t157, t158⟩ : S86)) (wrap64 (x4_1 + 1))) else (none)) = some r := H
   have A8 := Aside0.mk A80
   clear A80
   by_cases c9 : x4_1 < (x3_1.length : Int)
   rotate_left
   ·rw [if_neg c9] at H
    exact absurd H (by simp)
   rw [if_pos c9] at H
   have c9b0 : decide (x4_1 < (x3_1.length : Int)) = true := decide_eq_true c9
   clear c9
   obtain ⟨y159, hy159⟩ : ∃ y_ : List (S86), y_ = (x3_1.set (x4_1 : Int).toNat (⟨t156, t157, t158⟩ : S86)) := ⟨_, rfl⟩
   replace H : (laws_toEdgeS.l0 k1 l0 y159 (wrap64 (x4_1 + 1))) = some r := by first | (rw [hy159]; with_reducible exact H) | (rw [hy159]; with_reducible exact (Option.bind_some _ _).symm.trans H) | (with_reducible exact (Option.bind_some _ _).symm.trans H) | exact H
   have Ny159 := Aside0.mk hy159
   clear hy159
   have H' := Aside0.mk H
   clear H
   have p155 : 0 ≤ (x4_1 : Int) := od_
   have q155 : x4_1 < (l0.length : Int) := od_
   obtain ⟨ad155, e155, hx155_0, hx155_1, hx155_2⟩ := at_T105 HR0.out x4_1 p155 q155
   cases e155
   replace hx155_0 := hc_ HB hx155_0
   replace hx155_1 := hc_ HB hx155_1
   replace hx155_2 := hc_ HB hx155_2
   replace p155 := eq_true p155
   replace q155 := eq_true q155
   go_wp2_with (first | (refine goesL_ (some 20) rfl rfl Try.func70 (by kernel_rfl) rfl #[.agg #[.int .i64 ((rd_T105 l0 x4_1).f0), .int .i64 ((rd_T105 l0 x4_1).f1), .int .i64 ((rd_T105 l0 x4_1).f2)]] rfl tm_ ?_; (with_reducible refine (laws_toEdge.calls ((rd_T105 l0 x4_1).f0) ((rd_T105 l0 x4_1).f1) ((rd_T105 l0 x4_1).f2) t156 t157 t158 _ A8.out).mono ?_); rintro e w11 ⟨rfl, hb⟩; refine ⟨_, rfl, ?_⟩; replace HO_3 := rb_ HO_3 hb; replace HB := bst_ HB hb; clear hb; have p10 : 0 ≤ (x4_1 : Int) := od_; have q10 : (x4_1 : Int) < ((x3_1.length : Int) : Int) := od_; obtain ⟨go10, co10, eo10, gb10, gl10, cl10, HG10⟩ := Kd.R_form HO_3.out (by omega); (first | cases eo10 | (injection eo10 with ea_ en_ ec_; (first | subst ea_ | (injection ea_ with ea_; subst ea_)); subst ec_; clear en_)); have GB10 := Aside0.mk gb10; have GG10 := Aside0.mk HG10; clear gb10 gl10 HG10; obtain ⟨ce10, hcl10, hM10, hcc10, hfr10⟩ := Kd.R_elem HO_3.out z86 (x4_1 : Int) p10 q10; obtain rfl := k86_openM hM10; have hx10_0 : w11.cell? ⟨go10, (x4_1 : Int).toNat * 3, none⟩ = some (.int .i64 ((rd_T86 x3_1 x4_1).f0)) := hcc10 0 _ rfl; have hx10_1 : w11.cell? ⟨go10, (x4_1 : Int).toNat * 3 + 1, none⟩ = some (.int .i64 ((rd_T86 x3_1 x4_1).f1)) := hcc10 1 _ rfl; have hx10_2 : w11.cell? ⟨go10, (x4_1 : Int).toNat * 3 + 2, none⟩ = some (.int .i64 ((rd_T86 x3_1 x4_1).f2)) := hcc10 2 _ rfl; have hf10_0 : w11.frozen? ⟨go10, (x4_1 : Int).toNat * 3, none⟩ = false := hfr10 0; have hf10_1 : w11.frozen? ⟨go10, (x4_1 : Int).toNat * 3 + 1, none⟩ = false := hfr10 1; have hf10_2 : w11.frozen? ⟨go10, (x4_1 : Int).toNat * 3 + 2, none⟩ = false := hfr10 2; clear hcl10 hcc10 hfr10 hM10; replace p10 := eq_true p10; replace q10 := eq_true q10; have HX12 := Aside0.mk (show Kd.R k86 86 w11 w.heap.size (fun _ => True) (.slice (some ⟨go10, 0, none⟩) x3_1.length co10) x3_1 from (ra HO_3.out)); obtain ⟨ce12, hcl12, hM12, hcc12, hfr12⟩ := Kd.R_elem HX12.out z86 (x4_1 : Int) (od_) (by have h_ : (x4_1 : Int) < ((x3_1.length : Int) : Int) := od_; first | exact h_ | (have e_ := (Kd.R_reads' HO_3.out).1; omega) | simpa using h_); obtain rfl := k86_openM hM12; have HP12 := Kd.R_seg HX12.out (x4_1 : Int) (od_) (by have h_ : (x4_1 : Int) < ((x3_1.length : Int) : Int) := od_; first | exact h_ | (have e_ := (Kd.R_reads' HO_3.out).1; omega) | simpa using h_) (seg := [.int .i64 t156, .int .i64 t157, .int .i64 t158]) (j := 0) hcl12 hcc12 (show 3 ≤ 3 from by decide) (x' := (⟨t156, t157, t158⟩ : S86)) (k86_mkM _ _ _ (⟨t156, t157, t158⟩ : S86) ) (fun _ hk => hk); have hx12_0 := hcc12 0 _ rfl; (try simp only [show (k86).sz = 3 from rfl, Nat.mul_one, Nat.add_zero] at hx12_0); have hf12_0 := hfr12 0; (try simp only [show (k86).sz = 3 from rfl, Nat.mul_one, Nat.add_zero] at hf12_0); have hx12_1 := hcc12 1 _ rfl; (try simp only [show (k86).sz = 3 from rfl, Nat.mul_one, Nat.add_zero] at hx12_1); have hf12_1 := hfr12 1; (try simp only [show (k86).sz = 3 from rfl, Nat.mul_one, Nat.add_zero] at hf12_1); have hx12_2 := hcc12 2 _ rfl; (try simp only [show (k86).sz = 3 from rfl, Nat.mul_one, Nat.add_zero] at hx12_2); have hf12_2 := hfr12 2; (try simp only [show (k86).sz = 3 from rfl, Nat.mul_one, Nat.add_zero] at hf12_2); clear hcl12 hcc12 hfr12 hM12) | ((with_reducible refine gate_store (t := 86) (p := 21) rfl ?_); refine store_event (t := 86) (p := 21) (v := ?vo_w13) (w1 := (((w11.setCell ⟨go10, (x4_1 : Int).toNat * 3, none⟩ (.int .i64 t156)).setCell ⟨go10, (x4_1 : Int).toNat * 3 + 1, none⟩ (.int .i64 t157)).setCell ⟨go10, (x4_1 : Int).toNat * 3 + 2, none⟩ (.int .i64 t158))) ?hg ?ho ?hn ?hr ?_; (case ho => rfl); (case hg => rfl); (case hn => rfl); (case hr => first | (go_simp; done) | (go_simp; rfl)); intro w13 hw; have hg : w11.grownBy w13 (some go10) := (by rw [hw]; exact HP12.2); have hp_ : Kd.R k86 86 w13 w.heap.size (fun _ => True) (.slice (some ⟨go10, 0, none⟩) x3_1.length co10) y159 := (by rw [hw, Ny159.out]; exact HP12.1); clear HP12; replace HO_3 := Aside0.mk (hp_); replace HB := Aside0.mk ((by rw [hw]; exact below_set (below_set (below_set (HB.out) GB10.out) GB10.out) GB10.out : Below w.heap.size w w13)); clear hg hw hp_))
   go_roundg k1
   case measure => have := HK1.out; omega
   case rel => exact ⟨(y159), (wrap64 (x4_1 + 1)), (by first | rfl | (simp; done) | (simp [*]; done)), H', ⟨by have := HK1.out; omega⟩, ⟨ra HO_3.out⟩, ⟨hB HB⟩⟩

def laws_toIntS.l0 : Nat → List Int → List Int → Int → Option (List Int)
 | 0, _, _, _ => none
 | k + 1, x0, x3, x4 => if x4 < (x0.length : Int) then (if 0 ≤ x4 then (if x4 < (x3.length : Int) then (laws_toIntS.l0 k x0 (x3.set (x4 : Int).toNat (rd x0 x4)) (wrap64 (x4 + 1))) else (none)) else (none)) else (some x3)
def laws_toIntS.f (k : Nat) (l0 : List Int) : Option (List Int) := if 0 ≤ (l0.length : Int) then (if ((l0.length : Int) : Int).toNat ≤ 35184372088832 then (laws_toIntS.l0 k l0 (List.replicate ((l0.length : Int) : Int).toNat 0) 0) else (none)) else (none)
theorem laws_toIntS.mono_l : ∀ k, (∀ y0 y1 y2, LeO (laws_toIntS.l0 k y0 y1 y2) (laws_toIntS.l0 (k + 1) y0 y1 y2))
 | 0 => fun _ _ _ r h => by simp [laws_toIntS.l0] at h
 | k + 1 => by
  have ih0 := laws_toIntS.mono_l k
  ·intro y0 y1 y2
   unfold laws_toIntS.l0
   repeat' first
   | (with_reducible exact ih0 _ _ _)
   | with_reducible first | exact LeO.refl _ | exact LeO.none _ | refine LeO.ite ?_ ?_ | refine LeO.bind ?_ fun _ => ?_
theorem laws_toIntS.mono : ∀ a0 k, LeO (laws_toIntS.f k a0) (laws_toIntS.f (k + 1) a0) := by
 intro a0 k
 have ih0 := laws_toIntS.mono_l k
 unfold laws_toIntS.f
 repeat' first
   | (with_reducible exact ih0 _ _ _)
   | with_reducible first | exact LeO.refl _ | exact LeO.none _ | refine LeO.ite ?_ ?_ | refine LeO.bind ?_ fun _ => ?_
set_option maxHeartbeats 8000000 in
set_option maxRecDepth 100000 in
theorem laws_toIntS.calls (k : Nat) (A0 : Option Addr) (c0 : Nat) (l0 : List Int) (r : List Int) (w : World) (hr0 : Kd.C (Kd.int .i64) w A0 l0.length l0) (hc0 : l0.length ≤ c0) (h : laws_toIntS.f k l0 = some r) :
  Calls Try.prog 55 #[.slice A0 l0.length c0] w fun e w' => ∃ v0_ : Value, e = .returned (v0_) ∧ Kd.R (Kd.int .i64) 3 w' w.heap.size (fun _ => True) v0_ r ∧ Below w.heap.size w w' := by
 have HR0 := Aside0.mk hr0
 have HC0 := Aside0.mk hc0
 clear hr0 hc0
 have HB := Aside0.mk (Below.refl w.heap.size w)
 have H : (if 0 ≤ (l0.length : Int) then (if ((l0.length : Int) : Int).toNat ≤ 35184372088832 then (laws_toIntS.l0 k l0 (List.replicate ((l0.length : Int) : Int).toNat 0) 0) else (none)) else (none)) = some r := h
 clear h
 by_cases c2 : 0 ≤ (l0.length : Int)
 rotate_left
 ·rw [if_neg c2] at H
  exact absurd H (by simp)
 rw [if_pos c2] at H
 have c2b0 := eq_true c2
 have c2b1 : decide (0 ≤ (l0.length : Int)) = true := decide_eq_true c2
 clear c2
 by_cases c3 : ((l0.length : Int) : Int).toNat ≤ 35184372088832
 rotate_left
 ·rw [if_neg c3] at H
  exact absurd H (by simp)
 rw [if_pos c3] at H
 have c3b0 := eq_true c3
 have c3b1 : decide (((l0.length : Int) : Int).toNat ≤ 35184372088832) = true := decide_eq_true c3
 clear c3
 obtain ⟨y160, hy160⟩ : ∃ y_ : List Int, y_ = (List.replicate ((l0.length : Int) : Int).toNat 0) := ⟨_, rfl⟩
 replace H : (laws_toIntS.l0 k l0 y160 0) = some r := by first | (rw [hy160]; with_reducible exact H) | (rw [hy160]; with_reducible exact (Option.bind_some _ _).symm.trans H) | (with_reducible exact (Option.bind_some _ _).symm.trans H) | exact H
 have Ny160 := Aside0.mk hy160
 clear hy160
 have H' := Aside0.mk H
 clear H
 go_enter Try.func55, Try.ntmps55
 go_wp2_with (first | ((with_reducible refine gate_dst (N := 7) rfl ?_); refine Kd.R_make (Kd.int .i64) _ 3 rfl (N := 7) rfl 23 _ _ rfl (l0.length : Int) rfl rfl Try.underlying23 (.int .i64 0) 8 info3 rfl (by decide) (by omega) 0 (ok := fun _ => True) (okp := fun _ => True) rfl (fun _ hk => hk) trivial (od_) (Nat.le_trans (Nat.mul_le_mul_right _ (od_ : (l0.length : Int).toNat ≤ 35184372088832)) (by omega)) (Below.refl _ _) (Nat.le_refl _) ?_; intro v161 w4 ho5 hb hg_ hnew_; clear hg_ hnew_; (first | rw [← Ny160.out] at ho5 | (simp only [Int.reduceToNat] at ho5; rw [← Ny160.out] at ho5)); have HO162 := Aside0.mk (Kd.R_lower ho5 (below_size (hB HB))); replace HB := bst_ HB hb; clear hb ho5))
 go_loopg [4] k (fun kq v4 w' => ∃ (x3_1 : List Int) (x4_1 : Int), v4 = .int .i64 x4_1 ∧ Aside0 (laws_toIntS.l0 kq l0 x3_1 x4_1 = some r) ∧ Aside0 (kq ≤ k) ∧ Aside0 (Kd.R (Kd.int .i64) 3 w' w.heap.size (fun _ => True) v161 x3_1) ∧ Aside0 (Below w.heap.size w w'))
 case atStart => exact ⟨(y160), (0), (by first | rfl | (simp; done) | (simp [*]; done)), H', ⟨Nat.le_refl _⟩, ⟨ra HO162.out⟩, ⟨hB HB⟩⟩
 case round =>
  clear H'
  try clear c2
  try clear c2b0
  try clear c2b1
  try clear c3
  try clear c3b0
  try clear c3b1
  obtain ⟨x3_1, x4_1, rfl, HA, HK1, HO_3, HB⟩ := hrel
  cases gk with
  | zero => exact absurd HA.out (by simp [laws_toIntS.l0])
  | succ k1 =>
   have H := HA.out
   clear HA
   simp only [laws_toIntS.l0] at H
   by_cases c6 : x4_1 < (l0.length : Int)
   rotate_left
   ·rw [if_neg c6] at H
    have c6b0 : decide (x4_1 < (l0.length : Int)) = false := decide_eq_false c6
    clear c6
    obtain rfl := Option.some.inj H
    go_wp2
    go_ret
    exact ⟨_, rt_, ra HO_3.out, hB HB⟩
   rw [if_pos c6] at H
   have c6b0 : decide (x4_1 < (l0.length : Int)) = true := decide_eq_true c6
   clear c6
   by_cases c7 : 0 ≤ x4_1
   rotate_left
   ·rw [if_neg c7] at H
    exact absurd H (by simp)
   rw [if_pos c7] at H
   have c7b0 : decide (0 ≤ x4_1) = true := decide_eq_true c7
   clear c7
   by_cases c8 : x4_1 < (x3_1.length : Int)
   rotate_left
   ·rw [if_neg c8] at H
    exact absurd H (by simp)
   rw [if_pos c8] at H
   have c8b0 : decide (x4_1 < (x3_1.length : Int)) = true := decide_eq_true c8
   clear c8
   obtain ⟨y164, hy164⟩ : ∃ y_ : List Int, y_ = (x3_1.set (x4_1 : Int).toNat (rd l0 x4_1)) := ⟨_, rfl⟩
   replace H : (laws_toIntS.l0 k1 l0 y164 (wrap64 (x4_1 + 1))) = some r := by first | (rw [hy164]; with_reducible exact H) | (rw [hy164]; with_reducible exact (Option.bind_some _ _).symm.trans H) | (with_reducible exact (Option.bind_some _ _).symm.trans H) | exact H
   have Ny164 := Aside0.mk hy164
   clear hy164
   have H' := Aside0.mk H
   clear H
   have p163 : 0 ≤ (x4_1 : Int) := od_
   have q163 : x4_1 < (l0.length : Int) := od_
   obtain ⟨ad163, e163, hx163_0⟩ := Kd.at_int HR0.out x4_1 p163 q163
   cases e163
   replace hx163_0 := hc_ HB hx163_0
   replace p163 := eq_true p163
   replace q163 := eq_true q163
   have p9 : 0 ≤ (x4_1 : Int) := od_
   have q9 : (x4_1 : Int) < ((x3_1.length : Int) : Int) := od_
   obtain ⟨go9, co9, eo9, gb9, gl9, cl9, HG9⟩ := Kd.R_form HO_3.out (by omega)
   (first | cases eo9 | (injection eo9 with ea_ en_ ec_; (first | subst ea_ | (injection ea_ with ea_; subst ea_)); subst ec_; clear en_))
   have GB9 := Aside0.mk gb9
   have GG9 := Aside0.mk HG9
   clear gb9 gl9 HG9
   obtain ⟨hx9_0, hf9_0⟩ := Kd.R_celln 0 HO_3.out (x4_1 : Int) p9 q9
   replace p9 := eq_true p9
   replace q9 := eq_true q9
   have HP10 := Kd.R_putg HO_3.out (x4_1 : Int) (rd l0 x4_1)
   go_wp2_with (first | ((with_reducible refine gate_store (t := 3) (p := 20) rfl ?_); refine store_event (t := 3) (p := 20) (v := ?vo_w11) (w1 := (wr.setCell ⟨go9, (x4_1 : Int).toNat, none⟩ (.int .i64 (rd l0 x4_1)))) ?hg ?ho ?hn ?hr ?_; (case ho => rfl); (case hg => rfl); (case hn => rfl); (case hr => first | (go_simp; done) | (go_simp; rfl)); intro w11 hw; have hg : wr.grownBy w11 (some go9) := (by rw [hw]; exact HP10.2); have hp_ : Kd.R (Kd.int .i64) 3 w11 w.heap.size (fun _ => True) (.slice (some ⟨go9, 0, none⟩) x3_1.length co9) y164 := (by rw [hw, Ny164.out]; exact HP10.1); clear HP10; replace HO_3 := Aside0.mk (hp_); replace HB := Aside0.mk ((by rw [hw]; exact below_set (HB.out) GB9.out : Below w.heap.size w w11)); clear hg hw hp_))
   go_roundg k1
   case measure => have := HK1.out; omega
   case rel => exact ⟨(y164), (wrap64 (x4_1 + 1)), (by first | rfl | (simp; done) | (simp [*]; done)), H', ⟨by have := HK1.out; omega⟩, ⟨ra HO_3.out⟩, ⟨hB HB⟩⟩

def laws_toPlace.f (k : Nat) (a0_0 : Int) (a0_1 : Int) (l0_2 : List Int) : Option (Int × Int × List Int) := (laws_toIntS.f k l0_2).bind fun t168 => (some (a0_0, a0_1, t168))
theorem laws_toPlace.mono : ∀ a0 a1 a2 k, LeO (laws_toPlace.f k a0 a1 a2) (laws_toPlace.f (k + 1) a0 a1 a2) := by
 intro a0 a1 a2 k
 unfold laws_toPlace.f
 repeat' first
   | (with_reducible exact laws_toIntS.mono _ _)
   | with_reducible first | exact LeO.refl _ | exact LeO.none _ | refine LeO.ite ?_ ?_ | refine LeO.bind ?_ fun _ => ?_
set_option maxHeartbeats 8000000 in
set_option maxRecDepth 100000 in
theorem laws_toPlace.calls (k : Nat) (a0_0 : Int) (a0_1 : Int) (A0_2 : Option Addr) (c0_2 : Nat) (l0_2 : List Int) (r1 : Int) (r2 : Int) (r3 : List Int) (w : World) (hr0_2 : Kd.C (Kd.int .i64) w A0_2 l0_2.length l0_2) (hc0_2 : l0_2.length ≤ c0_2) (h : laws_toPlace.f k a0_0 a0_1 l0_2 = some (r1, r2, r3)) :
  Calls Try.prog 93 #[.agg #[.int .i64 a0_0, .int .i64 a0_1, .slice A0_2 l0_2.length c0_2]] w fun e w' => ∃ v2_ : Value, e = .returned (.agg #[.int .i64 r1, .int .i64 r2, v2_]) ∧ Kd.R (Kd.int .i64) 3 w' w.heap.size (fun _ => True) v2_ r3 ∧ Below w.heap.size w w' := by
 have hu129 := Try.underlying129
 have hu130 := Try.underlying130
 have HR0_2 := Aside0.mk hr0_2
 have HC0_2 := Aside0.mk hc0_2
 clear hr0_2 hc0_2
 have HB := Aside0.mk (Below.refl w.heap.size w)
 have H : ((laws_toIntS.f k l0_2).bind fun t168 => (some (a0_0, a0_1, t168))) = some (r1, r2, r3) := h
 clear h
 replace H := Option.bind_eq_some_iff.mp H
 obtain ⟨t168, A20, H⟩ := H
 replace H : (some (a0_0, a0_1, t168)) = some (r1, r2, r3) := H
 have A2 := Aside0.mk A20
 clear A20
 simp only [Option.some.injEq, Prod.mk.injEq] at H
 obtain ⟨rfl, rfl, rfl⟩ := H
 go_enter Try.func93, Try.ntmps93
 go_wp2_with (first | ((with_reducible refine gate_dst (N := 1) rfl ?_); refine box_event ?hg (N := 1) ?hd (cs := #[.int .i64 a0_0, .int .i64 a0_1, .slice A0_2 l0_2.length c0_2]) (t := 129) ?hr ?_; (case hd => rfl); (case hg => rfl); (case hr => first | (go_simp; done) | (go_simp; rfl)); intro gb165 hg w3 hbox hb; have BK165 := Aside0.mk (hbox); have GW165 := gw_ hg HB; have GE165 := gw_ hg HB; replace HB := bst_ HB hb; clear hb hbox hg) | ((with_reducible refine gate_dst (N := 2) rfl ?_); refine box_event ?hg (N := 2) ?hd (cs := #[.int .i64 0, .int .i64 0, .slice none 0 0]) (t := 130) ?hr ?_; (case hd => rfl); (case hg => rfl); (case hr => first | (go_simp; done) | (go_simp; rfl)); intro gb166 hg w4 hbox hb; have BK166 := Aside0.mk (hbox); have GW166 := gw_ hg HB; have GE166 := gw_ hg HB; have NB165_166 := nl_ hg BK165; have NB166_165 := ng_ hg BK165; replace BK165 := bb_ BK165 hb; replace HB := bst_ HB hb; clear hb hbox hg) | ((with_reducible refine gate_dst (N := 3) rfl ?_); refine box_event ?hg (N := 3) ?hd (cs := #[.int .i64 0, .int .i64 0, .slice none 0 0]) (t := 130) ?hr ?_; (case hd => rfl); (case hg => rfl); (case hr => first | (go_simp; done) | (go_simp; rfl)); intro gb167 hg w5 hbox hb; have BK167 := Aside0.mk (hbox); have GW167 := gw_ hg HB; have GE167 := gw_ hg HB; have NB165_167 := nl_ hg BK165; have NB167_165 := ng_ hg BK165; have NB166_167 := nl_ hg BK166; have NB167_166 := ng_ hg BK166; replace BK165 := bb_ BK165 hb; replace BK166 := bb_ BK166 hb; replace HB := bst_ HB hb; clear hb hbox hg; have hnb6 := NB165_166.out; have hnc6 := NB166_165.out; have hnb7 := NB165_167.out; have hnc7 := NB167_165.out; obtain ⟨hcz8_0, hcz8_1, hcz8_2⟩ := bcs3_ BK165; have hnb9 := NB167_166.out; have hnc9 := NB166_167.out; obtain ⟨hcz10_0, hcz10_1, hcz10_2⟩ := bcs3_ BK167; have hfz10_0 := blk_frozen BK167.out 0; have hfz10_1 := blk_frozen BK167.out 1; have hfz10_2 := blk_frozen BK167.out 2) | (refine goesL_ (some 12) rfl rfl Try.func55 (by kernel_rfl) rfl #[.slice A0_2 l0_2.length c0_2] rfl tm_ ?_; (with_reducible refine (laws_toIntS.calls k _ _ l0_2 t168 _ ?side1 ?side2 A2.out).mono ?_); (case side1 => exact Kd.C_below HR0_2.out (hB HB)); (case side2 => exact HC0_2.out); rintro e w11 ⟨v169, rfl, ho0, hb⟩; refine ⟨_, rfl, ?_⟩; have HO170 := Aside0.mk (Kd.R_lower ho0 (below_size (hB HB))); replace BK165 := Aside0.mk (blk_below (bx BK165) hb); replace BK166 := Aside0.mk (blk_below (bx BK166) hb); replace BK167 := Aside0.mk (blk_below (g := gb167) (o := .cells #[.int .i64 a0_0, .int .i64 a0_1, .slice none 0 0] 130 (0, 0)) (by (with_reducible repeat (first | refine blk_drewN ?_ _ | refine blk_drew ?_ | refine blk_alloc ?_ _)); refine blk_put (cs := #[.int .i64 a0_0, .int .i64 0, .slice none 0 0]) ?_ 1 _ rfl; (with_reducible repeat (first | refine blk_drewN ?_ _ | refine blk_drew ?_ | refine blk_alloc ?_ _)); refine blk_put (cs := #[.int .i64 0, .int .i64 0, .slice none 0 0]) ?_ 0 _ rfl; (with_reducible repeat (first | refine blk_drewN ?_ _ | refine blk_drew ?_ | refine blk_alloc ?_ _)); exact BK167.out) hb); replace HB := bst_ HB hb; clear hb ho0; obtain ⟨Ao12, co12, eo12⟩ := Kd.R_slice HO170.out; subst eo12; obtain ⟨hcz13_0, hcz13_1, hcz13_2⟩ := bcs3_ BK167; have hfz13_0 := blk_frozen BK167.out 0; have hfz13_1 := blk_frozen BK167.out 1; have hfz13_2 := blk_frozen BK167.out 2; obtain ⟨hcz14_0, hcz14_1, hcz14_2⟩ := bcs3_ BK166; have hfz14_0 := blk_frozen BK166.out 0; have hfz14_1 := blk_frozen BK166.out 1; have hfz14_2 := blk_frozen BK166.out 2))
 refine bodyPost_ret (results_cell_row rfl _ _ gb166 130 #[.int .i64 a0_0, .int .i64 a0_1, .slice Ao12 t168.length co12] (0, 0) _ rfl (by (with_reducible repeat (first | refine blk_drewN ?_ _ | refine blk_drew ?_ | refine blk_alloc ?_ _)); refine blk_put (cs := #[.int .i64 a0_0, .int .i64 a0_1, .slice none 0 0]) ?_ 2 _ rfl; (with_reducible repeat (first | refine blk_drewN ?_ _ | refine blk_drew ?_ | refine blk_alloc ?_ _)); refine blk_put (cs := #[.int .i64 a0_0, .int .i64 0, .slice none 0 0]) ?_ 1 _ rfl; (with_reducible repeat (first | refine blk_drewN ?_ _ | refine blk_drew ?_ | refine blk_alloc ?_ _)); refine blk_put (cs := #[.int .i64 0, .int .i64 0, .slice none 0 0]) ?_ 0 _ rfl; (with_reducible repeat (first | refine blk_drewN ?_ _ | refine blk_drew ?_ | refine blk_alloc ?_ _)); refine blk_far ?_ NB166_167.out _; (with_reducible repeat (first | refine blk_drewN ?_ _ | refine blk_drew ?_ | refine blk_alloc ?_ _)); exact BK166.out) Try.underlying130 rfl (by kernel_rfl)) rfl ?_
 exact ⟨_, rt_, by (with_reducible repeat (first | apply Kd.R_alloc | apply Kd.R_drewN | apply Kd.R_drew)); exact Kd.R_mono (Kd.R_far (p := ⟨gb166, 2, none⟩) (Kd.R_far (p := ⟨gb166, 1, none⟩) (Kd.R_far (p := ⟨gb166, 0, none⟩) (Kd.R_far (p := ⟨gb167, 2, none⟩) (Kd.R_types (Kd.R_types HO170.out BK167.out (by decide)) BK166.out (by decide)) (fun _ hk => hk.1.2) (.slice Ao12 t168.length co12)) (fun _ hk => hk.2) (.int .i64 a0_0)) (fun _ hk => hk.2) (.int .i64 a0_1)) (fun _ hk => hk.2) (.slice Ao12 t168.length co12)) (fun _ hk => trivial), hB HB⟩

def laws_toPlaceS.l0 : Nat → List (S129) → List (S130) → Int → Option ((List (S130)))
 | 0, _, _, _ => none
 | k + 1, x0, x3, x4 => if x4 < (x0.length : Int) then (if 0 ≤ x4 then ((laws_toPlace.f k ((rd_T129 x0 x4).f0) ((rd_T129 x0 x4).f1) ((rd_T129 x0 x4).f2)).bind fun bt175 => (if x4 < (x3.length : Int) then (laws_toPlaceS.l0 k x0 (x3.set (x4 : Int).toNat (⟨bt175.1, bt175.2.1, bt175.2.2⟩ : S130)) (wrap64 (x4 + 1))) else (none))) else (none)) else (some x3)
def laws_toPlaceS.f (k : Nat) (l0 : List (S129)) : Option ((List (S130))) := if 0 ≤ (l0.length : Int) then (if ((l0.length : Int) : Int).toNat ≤ 7036874417766 then (laws_toPlaceS.l0 k l0 (List.replicate ((l0.length : Int) : Int).toNat z130) 0) else (none)) else (none)
theorem laws_toPlaceS.mono_l : ∀ k, (∀ y0 y1 y2, LeO (laws_toPlaceS.l0 k y0 y1 y2) (laws_toPlaceS.l0 (k + 1) y0 y1 y2))
 | 0 => fun _ _ _ r h => by simp [laws_toPlaceS.l0] at h
 | k + 1 => by
  have ih0 := laws_toPlaceS.mono_l k
  ·intro y0 y1 y2
   unfold laws_toPlaceS.l0
   repeat' first
   | (with_reducible exact ih0 _ _ _)
   | (with_reducible exact laws_toPlace.mono _ _ _ _)
   | with_reducible first | exact LeO.refl _ | exact LeO.none _ | refine LeO.ite ?_ ?_ | refine LeO.bind ?_ fun _ => ?_
theorem laws_toPlaceS.mono : ∀ a0 k, LeO (laws_toPlaceS.f k a0) (laws_toPlaceS.f (k + 1) a0) := by
 intro a0 k
 have ih0 := laws_toPlaceS.mono_l k
 unfold laws_toPlaceS.f
 repeat' first
   | (with_reducible exact ih0 _ _ _)
   | (with_reducible exact laws_toPlace.mono _ _ _ _)
   | with_reducible first | exact LeO.refl _ | exact LeO.none _ | refine LeO.ite ?_ ?_ | refine LeO.bind ?_ fun _ => ?_
set_option maxHeartbeats 8000000 in
set_option maxRecDepth 100000 in
theorem laws_toPlaceS.calls (k : Nat) (A0 : Option Addr) (c0 : Nat) (l0 : List (S129)) (r : List (S130)) (w : World) (hr0 : Kd.C k129 w A0 l0.length l0) (hc0 : l0.length ≤ c0) (h : laws_toPlaceS.f k l0 = some r) :
  Calls Try.prog 56 #[.slice A0 l0.length c0] w fun e w' => ∃ v0_ : Value, e = .returned (v0_) ∧ Kd.S k130 130 w' w.heap.size (fun _ => True) v0_ r ∧ Below w.heap.size w w' := by
 have hu129 := Try.underlying129
 have hu130 := Try.underlying130
 have HR0 := Aside0.mk hr0
 have HC0 := Aside0.mk hc0
 clear hr0 hc0
 have HB := Aside0.mk (Below.refl w.heap.size w)
 have H : (if 0 ≤ (l0.length : Int) then (if ((l0.length : Int) : Int).toNat ≤ 7036874417766 then (laws_toPlaceS.l0 k l0 (List.replicate ((l0.length : Int) : Int).toNat z130) 0) else (none)) else (none)) = some r := h
 clear h
 by_cases c2 : 0 ≤ (l0.length : Int)
 rotate_left
 ·rw [if_neg c2] at H
  exact absurd H (by simp)
 rw [if_pos c2] at H
 have c2b0 := eq_true c2
 have c2b1 : decide (0 ≤ (l0.length : Int)) = true := decide_eq_true c2
 clear c2
 by_cases c3 : ((l0.length : Int) : Int).toNat ≤ 7036874417766
 rotate_left
 ·rw [if_neg c3] at H
  exact absurd H (by simp)
 rw [if_pos c3] at H
 have c3b0 := eq_true c3
 have c3b1 : decide (((l0.length : Int) : Int).toNat ≤ 7036874417766) = true := decide_eq_true c3
 clear c3
 obtain ⟨y171, hy171⟩ : ∃ y_ : List (S130), y_ = (List.replicate ((l0.length : Int) : Int).toNat z130) := ⟨_, rfl⟩
 replace H : (laws_toPlaceS.l0 k l0 y171 0) = some r := by first | (rw [hy171]; with_reducible exact H) | (rw [hy171]; with_reducible exact (Option.bind_some _ _).symm.trans H) | (with_reducible exact (Option.bind_some _ _).symm.trans H) | exact H
 have Ny171 := Aside0.mk hy171
 clear hy171
 have H' := Aside0.mk H
 clear H
 go_enter Try.func56, Try.ntmps56
 go_wp2_with (first | ((with_reducible refine gate_dst (N := 7) rfl ?_); refine Kd.S_make k130 _ 130 rfl (N := 7) rfl 31 _ _ rfl (l0.length : Int) rfl rfl Try.underlying31 (.agg #[(.int .i64 0), (.int .i64 0), (.slice none 0 0)]) 40 info130 rfl (by decide) (by omega) z130 (ok := fun _ => True) (okp := fun _ => True) (k130_mkM _ _ _ z130 (Kd.R_nil _ _ _ _ _)) (fun _ hk => hk) trivial (od_) (Nat.le_trans (Nat.mul_le_mul_right _ (od_ : (l0.length : Int).toNat ≤ 7036874417766)) (by omega)) (Below.refl _ _) (Nat.le_refl _) ?_; intro v172 w4 ho5 hb hg_ hnew_; clear hg_ hnew_; (first | rw [← Ny171.out] at ho5 | (simp only [Int.reduceToNat] at ho5; rw [← Ny171.out] at ho5)); have HO173 := Aside0.mk (Kd.S_lower ho5 (below_size (hB HB))); replace HB := bst_ HB hb; clear hb ho5))
 go_loopg [4] k (fun kq v4 w' => ∃ (x3_1 : List (S130)) (x4_1 : Int), v4 = .int .i64 x4_1 ∧ Aside0 (laws_toPlaceS.l0 kq l0 x3_1 x4_1 = some r) ∧ Aside0 (kq ≤ k) ∧ Aside0 (Kd.S k130 130 w' w.heap.size (fun _ => True) v172 x3_1) ∧ Aside0 (Below w.heap.size w w'))
 case atStart => exact ⟨(y171), (0), (by first | rfl | (simp; done) | (simp [*]; done)), H', ⟨Nat.le_refl _⟩, ⟨by (with_reducible repeat (first | apply Kd.S_alloc | apply Kd.S_drewN | apply Kd.S_drew)); exact HO173.out⟩, ⟨hB HB⟩⟩
 case round =>
  clear H'
  try clear c2
  try clear c2b0
  try clear c2b1
  try clear c3
  try clear c3b0
  try clear c3b1
  obtain ⟨x3_1, x4_1, rfl, HA, HK1, HO_3, HB⟩ := hrel
  cases gk with
  | zero => exact absurd HA.out (by simp [laws_toPlaceS.l0])
  | succ k1 =>
   have H := HA.out
   clear HA
   simp only [laws_toPlaceS.l0] at H
   by_cases c6 : x4_1 < (l0.length : Int)
   rotate_left
   ·rw [if_neg c6] at H
    have c6b0 : decide (x4_1 < (l0.length : Int)) = false := decide_eq_false c6
    clear c6
    obtain rfl := Option.some.inj H
    go_wp2
    go_ret
    exact ⟨_, rt_, by (with_reducible repeat (first | apply Kd.S_alloc | apply Kd.S_drewN | apply Kd.S_drew)); exact HO_3.out, hB HB⟩
   rw [if_pos c6] at H
   have c6b0 : decide (x4_1 < (l0.length : Int)) = true := decide_eq_true c6
   clear c6
   by_cases c7 : 0 ≤ x4_1
   rotate_left
   ·rw [if_neg c7] at H
    exact absurd H (by simp)
   rw [if_pos c7] at H
   have c7b0 : decide (0 ≤ x4_1) = true := decide_eq_true c7
   clear c7
   replace H := Option.bind_eq_some_iff.mp H
   obtain ⟨⟨t175, t176, t177⟩, A80, H⟩ := H
   replace H : (if x4_1 < (x3_1.length : Int) then (laws_toPlaceS.l0 k1 l0 (x3_1.set (x4_1 : Int).toNat (⟨t175, t176, t177⟩ : S130)) (wrap64 (x4_1 + 1))) else (none)) = some r := H
   have A8 := Aside0.mk A80
   clear A80
   by_cases c9 : x4_1 < (x3_1.length : Int)
   rotate_left
   ·rw [if_neg c9] at H
    exact absurd H (by simp)
   rw [if_pos c9] at H
   have c9b0 : decide (x4_1 < (x3_1.length : Int)) = true := decide_eq_true c9
   clear c9
   obtain ⟨y180, hy180⟩ : ∃ y_ : List (S130), y_ = (x3_1.set (x4_1 : Int).toNat (⟨t175, t176, t177⟩ : S130)) := ⟨_, rfl⟩
   replace H : (laws_toPlaceS.l0 k1 l0 y180 (wrap64 (x4_1 + 1))) = some r := by first | (rw [hy180]; with_reducible exact H) | (rw [hy180]; with_reducible exact (Option.bind_some _ _).symm.trans H) | (with_reducible exact (Option.bind_some _ _).symm.trans H) | exact H
   have Ny180 := Aside0.mk hy180
   clear hy180
   have H' := Aside0.mk H
   clear H
   have p174 : 0 ≤ (x4_1 : Int) := od_
   have q174 : x4_1 < (l0.length : Int) := od_
   obtain ⟨ad174, A174_2, c174_2, e174, hx174_0, hx174_1, hx174_2, hl174_2, hi174_2⟩ := at_T129 HR0.out x4_1 p174 q174
   cases e174
   replace hx174_0 := hc_ HB hx174_0
   replace hx174_1 := hc_ HB hx174_1
   replace hx174_2 := hc_ HB hx174_2
   have HR174_2 := Aside0.mk hi174_2
   have HC174_2 := Aside0.mk hl174_2
   clear hi174_2 hl174_2
   replace p174 := eq_true p174
   replace q174 := eq_true q174
   go_wp2_with (first | (refine goesL_ (some 20) rfl rfl Try.func93 (by kernel_rfl) rfl #[.agg #[.int .i64 ((rd_T129 l0 x4_1).f0), .int .i64 ((rd_T129 l0 x4_1).f1), .slice A174_2 ((rd_T129 l0 x4_1).f2).length c174_2]] rfl tm_ ?_; (with_reducible refine (laws_toPlace.calls k1 ((rd_T129 l0 x4_1).f0) ((rd_T129 l0 x4_1).f1) _ _ ((rd_T129 l0 x4_1).f2) t175 t176 t177 _ ?side1 ?side2 A8.out).mono ?_); (case side1 => exact cb_ HR174_2 HB); (case side2 => exact HC174_2.out); rintro e w11 ⟨v178, rfl, ho0, hb⟩; refine ⟨_, rfl, ?_⟩; have HO179 := Aside0.mk (Kd.R_lower ho0 (below_size (hB HB))); replace HO_3 := Aside0.mk (Kd.S_elder' (sa HO_3.out) (Kd.R_base ho0) hb); replace HB := bst_ HB hb; clear hb ho0; have p10 : 0 ≤ (x4_1 : Int) := od_; have q10 : (x4_1 : Int) < ((x3_1.length : Int) : Int) := od_; obtain ⟨go10, co10, eo10, gb10, gl10, cl10, HG10⟩ := Kd.S_form HO_3.out (by omega); (first | cases eo10 | (injection eo10 with ea_ en_ ec_; (first | subst ea_ | (injection ea_ with ea_; subst ea_)); subst ec_; clear en_)); have GB10 := Aside0.mk gb10; have GG10 := Aside0.mk HG10; clear gb10 gl10 HG10; obtain ⟨_, ce10, hcl10, hM10, hcc10, hfr10, _, _⟩ := Kd.S_elem HO_3.out z130 (x4_1 : Int) p10 q10; obtain ⟨ve10_2, rfl, ge10_2⟩ := k130_openM hM10; have hx10_0 : w11.cell? ⟨go10, (x4_1 : Int).toNat * 3, none⟩ = some (.int .i64 ((rd_T130 x3_1 x4_1).f0)) := hcc10 0 _ rfl; have hx10_1 : w11.cell? ⟨go10, (x4_1 : Int).toNat * 3 + 1, none⟩ = some (.int .i64 ((rd_T130 x3_1 x4_1).f1)) := hcc10 1 _ rfl; have hx10_2 : w11.cell? ⟨go10, (x4_1 : Int).toNat * 3 + 2, none⟩ = some (ve10_2) := hcc10 2 _ rfl; have hf10_0 : w11.frozen? ⟨go10, (x4_1 : Int).toNat * 3, none⟩ = false := hfr10 0; have hf10_1 : w11.frozen? ⟨go10, (x4_1 : Int).toNat * 3 + 1, none⟩ = false := hfr10 1; have hf10_2 : w11.frozen? ⟨go10, (x4_1 : Int).toNat * 3 + 2, none⟩ = false := hfr10 2; clear hcl10 hcc10 hfr10 hM10; replace p10 := eq_true p10; replace q10 := eq_true q10; have n_ := Aside0.mk (Kd.S_mono (ok' := (fun k_ => no_ v178 k_)) HO_3.out (fun k_ hk => hk.2)); clear HO_3; have HO_3 := n_; clear n_; have HX12 := Aside0.mk (show Kd.S k130 130 w11 w.heap.size (fun k_ => ((fun _ => True)) k_ ∧ ¬ ((fun k_ => some k_ = (v178 : Value).ownBlock)) k_) (.slice (some ⟨go10, 0, none⟩) x3_1.length co10) x3_1 from (by (with_reducible repeat (first | apply Kd.S_alloc | apply Kd.S_drewN | apply Kd.S_drew)); exact Kd.S_mono HO_3.out (fun k_ hk => ⟨trivial, fun e_ => hk e_⟩))); obtain ⟨oki12, ce12, hcl12, hM12, hcc12, hfr12, hoki12, hH12⟩ := Kd.S_elem HX12.out z130 (x4_1 : Int) (od_) (by have h_ : (x4_1 : Int) < ((x3_1.length : Int) : Int) := od_; first | exact h_ | (have e_ := (Kd.S_reads' HO_3.out).1; omega) | simpa using h_); obtain ⟨ve12_2, rfl, ge12_2⟩ := k130_openM hM12; have HP12 := Kd.S_seg hH12 (od_) (by have h_ : (x4_1 : Int) < ((x3_1.length : Int) : Int) := od_; first | exact h_ | (have e_ := (Kd.S_reads' HO_3.out).1; omega) | simpa using h_) (seg := [.int .i64 t175, .int .i64 t176, v178]) (j := 0) (show 3 ≤ 3 from by decide) (x' := (⟨t175, t176, t177⟩ : S130)) (k130_mkM _ _ _ (⟨t175, t176, t177⟩ : S130) (Kd.R_mono (Kd.R_tight rfl (Kd.R_mono (ok' := fun k_ => ((fun _ => True)) k_ ∧ k_ ≠ go10) (Kd.R_apart' (HO179.out) (Kd.S_typed HO_3.out) (by decide)) (fun k_ hk => ⟨trivial, fun e_ => (hk.2) (by rw [e_]; rfl)⟩))) (fun _ h_ => Or.inr (h_)))) (fun _ hk => hk) (fun k_ hk_ => ((Kd.R_mono (ok' := fun k_ => ((fun _ => True)) k_ ∧ k_ ≠ go10) (Kd.R_apart' (HO179.out) (Kd.S_typed HO_3.out) (by decide)) (fun k_ hk => ⟨trivial, fun e_ => (hk.2) (by rw [e_]; rfl)⟩))).1 k_ hk_.symm); have hx12_0 := hcc12 0 _ rfl; (try simp only [show (k130).sz = 3 from rfl, Nat.mul_one, Nat.add_zero] at hx12_0); have hf12_0 := hfr12 0; (try simp only [show (k130).sz = 3 from rfl, Nat.mul_one, Nat.add_zero] at hf12_0); have hx12_1 := hcc12 1 _ rfl; (try simp only [show (k130).sz = 3 from rfl, Nat.mul_one, Nat.add_zero] at hx12_1); have hf12_1 := hfr12 1; (try simp only [show (k130).sz = 3 from rfl, Nat.mul_one, Nat.add_zero] at hf12_1); have hx12_2 := hcc12 2 _ rfl; (try simp only [show (k130).sz = 3 from rfl, Nat.mul_one, Nat.add_zero] at hx12_2); have hf12_2 := hfr12 2; (try simp only [show (k130).sz = 3 from rfl, Nat.mul_one, Nat.add_zero] at hf12_2); clear hcl12 hcc12 hfr12 hM12 hoki12 hH12) | ((with_reducible refine gate_store (t := 130) (p := 21) rfl ?_); refine store_event (t := 130) (p := 21) (v := ?vo_w13) (w1 := (((w11.setCell ⟨go10, (x4_1 : Int).toNat * 3, none⟩ (.int .i64 t175)).setCell ⟨go10, (x4_1 : Int).toNat * 3 + 1, none⟩ (.int .i64 t176)).setCell ⟨go10, (x4_1 : Int).toNat * 3 + 2, none⟩ (v178))) ?hg ?ho ?hn ?hr ?_; (case ho => rfl); (case hg => rfl); (case hn => rfl); (case hr => first | (go_simp; done) | (go_simp; rfl) | (obtain ⟨_, _, eo_⟩ := Kd.R_slice HO179.out; rw [eo_]; go_simp; done) | (obtain ⟨_, _, eo_⟩ := Kd.R_slice HO179.out; rw [eo_]; go_simp; rfl)); intro w13 hw; have hg : w11.grownBy w13 (some go10) := (by rw [hw]; exact HP12.2); have hp_ : Kd.S k130 130 w13 w.heap.size (fun _ => True) (.slice (some ⟨go10, 0, none⟩) x3_1.length co10) y180 := (by rw [hw, Ny180.out]; exact HP12.1); clear HP12; replace HO_3 := Aside0.mk (hp_); replace HB := Aside0.mk ((by rw [hw]; exact below_set (below_set (below_set (HB.out) GB10.out) GB10.out) GB10.out : Below w.heap.size w w13)); clear HO179; clear hg hw hp_))
   go_roundg k1
   case measure => have := HK1.out; omega
   case rel => exact ⟨(y180), (wrap64 (x4_1 + 1)), (by first | rfl | (simp; done) | (simp [*]; done)), H', ⟨by have := HK1.out; omega⟩, ⟨by (with_reducible repeat (first | apply Kd.S_alloc | apply Kd.S_drewN | apply Kd.S_drew)); exact HO_3.out⟩, ⟨hB HB⟩⟩

end Go.Proofs.Ytpohlcjkabojcaa.P
