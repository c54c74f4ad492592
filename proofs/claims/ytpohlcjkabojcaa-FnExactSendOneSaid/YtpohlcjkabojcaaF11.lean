import Derived.Test.YtpohlcjkabojcaaF0
import Derived.Test.YtpohlcjkabojcaaF2
import Derived.Test.YtpohlcjkabojcaaF5
namespace Go.Proofs.Ytpohlcjkabojcaa.P
open Go.RowKit Go.Proofs.YtpohlcjkabojcaaW.PrintWords Go.Proofs.YtpohlcjkabojcaaW.PrintLast Go.Proofs.YtpohlcjkabojcaaW.PrintMore
attribute [local go_sem] max2_int min2_int max_two min_two max_three min_three max_four min_four   -- for this text's walks alone
set_option linter.unusedVariables false
set_option linter.unusedSimpArgs false

def spec_l17Find.l0 : Nat → Int → List (S130) → Int → Int → Option (Int)
 | 0, _, _, _, _ => none
 | k + 1, x1, x8, x9, x10 => if x10 < x9 then (if 0 ≤ x10 then (if x10 < (x8.length : Int) then (if ((rd_T130 x8 x10).f0) = x1 then (some x10) else (spec_l17Find.l0 k x1 x8 x9 (wrap64 (x10 + 1)))) else (none)) else (none)) else (some (-1))
def spec_l17Find.f (k : Nat) (a0_0 : Int) (l0_1 : List (S86)) (l0_2 : List Int) (l0_3 : List (S130)) (a1 : Int) : Option (Int) := spec_l17Find.l0 k a1 l0_3 (l0_3.length : Int) 0
theorem spec_l17Find.mono_l : ∀ k, (∀ y0 y1 y2 y3, LeO (spec_l17Find.l0 k y0 y1 y2 y3) (spec_l17Find.l0 (k + 1) y0 y1 y2 y3))
 | 0 => fun _ _ _ _ r h => by simp [spec_l17Find.l0] at h
 | k + 1 => by
  have ih0 := spec_l17Find.mono_l k
  ·intro y0 y1 y2 y3
   unfold spec_l17Find.l0
   repeat' first
   | (with_reducible exact ih0 _ _ _ _)
   | with_reducible first | exact LeO.refl _ | exact LeO.none _ | refine LeO.ite ?_ ?_ | refine LeO.bind ?_ fun _ => ?_
theorem spec_l17Find.mono : ∀ a0 a1 a2 a3 a4 k, LeO (spec_l17Find.f k a0 a1 a2 a3 a4) (spec_l17Find.f (k + 1) a0 a1 a2 a3 a4) := by
 intro a0 a1 a2 a3 a4 k
 have ih0 := spec_l17Find.mono_l k
 unfold spec_l17Find.f
 repeat' first
   | (with_reducible exact ih0 _ _ _ _)
   | with_reducible first | exact LeO.refl _ | exact LeO.none _ | refine LeO.ite ?_ ?_ | refine LeO.bind ?_ fun _ => ?_
set_option maxHeartbeats 8000000 in
set_option maxRecDepth 100000 in
theorem spec_l17Find.calls (k : Nat) (a0_0 : Int) (A0_1 : Option Addr) (c0_1 : Nat) (l0_1 : List (S86)) (A0_2 : Option Addr) (c0_2 : Nat) (l0_2 : List Int) (A0_3 : Option Addr) (c0_3 : Nat) (l0_3 : List (S130)) (a1 : Int) (r : Int) (w : World) (hr0_1 : Kd.C k86 w A0_1 l0_1.length l0_1) (hc0_1 : l0_1.length ≤ c0_1) (hr0_2 : Kd.C (Kd.int .i64) w A0_2 l0_2.length l0_2) (hc0_2 : l0_2.length ≤ c0_2) (hr0_3 : Kd.C k130 w A0_3 l0_3.length l0_3) (hc0_3 : l0_3.length ≤ c0_3) (h : spec_l17Find.f k a0_0 l0_1 l0_2 l0_3 a1 = some r) :
  Calls Try.prog 101 #[.agg #[.int .i64 a0_0, .slice A0_1 l0_1.length c0_1, .slice A0_2 l0_2.length c0_2, .slice A0_3 l0_3.length c0_3], .int .i64 a1] w fun e w' => e = .returned (.int .i64 r) ∧ Below w.heap.size w w' := by
 have hu33 := Try.underlying33
 have hu130 := Try.underlying130
 have HR0_1 := Aside0.mk hr0_1
 have HC0_1 := Aside0.mk hc0_1
 clear hr0_1 hc0_1
 have HR0_2 := Aside0.mk hr0_2
 have HC0_2 := Aside0.mk hc0_2
 clear hr0_2 hc0_2
 have HR0_3 := Aside0.mk hr0_3
 have HC0_3 := Aside0.mk hc0_3
 clear hr0_3 hc0_3
 have HB := Aside0.mk (Below.refl w.heap.size w)
 have H : (spec_l17Find.l0 k a1 l0_3 (l0_3.length : Int) 0) = some r := h
 clear h
 have H' := Aside0.mk H
 clear H
 go_enter Try.func101, Try.ntmps101
 go_wp2_with (first | ((with_reducible refine gate_dst (N := 2) rfl ?_); refine box_event ?hg (N := 2) ?hd (cs := #[.int .i64 a0_0, .slice A0_1 l0_1.length c0_1, .slice A0_2 l0_2.length c0_2, .slice A0_3 l0_3.length c0_3]) (t := 33) ?hr ?_; (case hd => rfl); (case hg => rfl); (case hr => first | (go_simp; done) | (go_simp; rfl)); intro gb339 hg w3 hbox hb; have BK339 := Aside0.mk (hbox); have GW339 := gw_ hg HB; have GE339 := gw_ hg HB; replace HB := bst_ HB hb; clear hb hbox hg; obtain ⟨hcz4_0, hcz4_1, hcz4_2, hcz4_3⟩ := bcs4_ BK339))
 go_loopg [10] k (fun kq v10 w' => ∃ (x10_1 : Int), v10 = .int .i64 x10_1 ∧ Aside0 (spec_l17Find.l0 kq a1 l0_3 (l0_3.length : Int) x10_1 = some r) ∧ Aside0 (kq ≤ k) ∧ Aside0 (w'.heap[gb339]? = some (.cells #[.int .i64 a0_0, (.slice A0_1 l0_1.length c0_1), (.slice A0_2 l0_2.length c0_2), (.slice A0_3 l0_3.length c0_3)] 33 (0, 0))) ∧ Aside0 (Below w.heap.size w w'))
 case atStart => exact ⟨(0), (by first | rfl | (simp; done) | (simp [*]; done)), H', ⟨Nat.le_refl _⟩, ⟨by (with_reducible repeat (first | refine blk_drewN ?_ _ | refine blk_drew ?_ | refine blk_alloc ?_ _)); exact BK339.out⟩, ⟨hB HB⟩⟩
 case round =>
  clear H'
  try clear hcz4_0
  try clear hcz4_1
  try clear hcz4_2
  try clear hcz4_3
  try clear hfz4_0
  try clear hfz4_1
  try clear hfz4_2
  try clear hfz4_3
  obtain ⟨x10_1, rfl, HA, HK1, BK339, HB⟩ := hrel
  cases gk with
  | zero => exact absurd HA.out (by simp [spec_l17Find.l0])
  | succ k1 =>
   have H := HA.out
   clear HA
   simp only [spec_l17Find.l0] at H
   by_cases c5 : x10_1 < (l0_3.length : Int)
   rotate_left
   ·rw [if_neg c5] at H
    have c5b0 : decide (x10_1 < (l0_3.length : Int)) = false := decide_eq_false c5
    clear c5
    obtain rfl := Option.some.inj H
    go_wp2
    go_ret
    exact ⟨rt_, hB HB⟩
   rw [if_pos c5] at H
   have c5b0 : decide (x10_1 < (l0_3.length : Int)) = true := decide_eq_true c5
   clear c5
   by_cases c6 : 0 ≤ x10_1
   rotate_left
   ·rw [if_neg c6] at H
    exact absurd H (by simp)
   rw [if_pos c6] at H
   have c6b0 : decide (0 ≤ x10_1) = true := decide_eq_true c6
   clear c6
   by_cases c7 : x10_1 < (l0_3.length : Int)
   rotate_left
   ·rw [if_neg c7] at H
    exact absurd H (by simp)
   rw [if_pos c7] at H
   have c7b0 : decide (x10_1 < (l0_3.length : Int)) = true := decide_eq_true c7
   clear c7
   by_cases c8 : ((rd_T130 l0_3 x10_1).f0) = a1
   ·rw [if_pos c8] at H
    have c8b0 : (((rd_T130 l0_3 x10_1).f0) == a1) = true := beq_iff_eq.mpr c8
    have c8b1 : (((rd_T130 l0_3 x10_1).f0) != a1) = false := bne_eq_false_iff_eq.mpr c8
    clear c8
    obtain rfl := Option.some.inj H
    have p340 : 0 ≤ (x10_1 : Int) := od_
    have q340 : x10_1 < (l0_3.length : Int) := od_
    obtain ⟨ad340, A340_2, c340_2, e340, hx340_0, hx340_1, hx340_2, hl340_2, hi340_2⟩ := at_T130 HR0_3.out x10_1 p340 q340
    cases e340
    replace hx340_0 := hc_ HB hx340_0
    replace hx340_1 := hc_ HB hx340_1
    replace hx340_2 := hc_ HB hx340_2
    have HR340_2 := Aside0.mk hi340_2
    have HC340_2 := Aside0.mk hl340_2
    clear hi340_2 hl340_2
    replace p340 := eq_true p340
    replace q340 := eq_true q340
    go_wp2_with (first | ((with_reducible refine gate_dst (N := 6) rfl ?_); refine box_event ?hg (N := 6) ?hd (cs := #[.int .i64 0, .int .i64 0, .slice none 0 0]) (t := 130) ?hr ?_; (case hd => rfl); (case hg => rfl); (case hr => first | (go_simp; done) | (go_simp; rfl)); intro gb341 hg w9 hbox hb; have BK341 := Aside0.mk (hbox); have GW341 := gw_ hg HB; have GE341 := gw_ hg HB; have NB339_341 := nl_ hg BK339; have NB341_339 := ng_ hg BK339; replace BK339 := bb_ BK339 hb; replace HB := bst_ HB hb; clear hb hbox hg; have hnb10 := NB341_339.out; have hnc10 := NB339_341.out; obtain ⟨hcz11_0, hcz11_1, hcz11_2⟩ := bcs3_ BK341; have hfz11_0 := blk_frozen BK341.out 0; have hfz11_1 := blk_frozen BK341.out 1; have hfz11_2 := blk_frozen BK341.out 2))
    go_ret
    exact ⟨rt_, hB HB⟩
   rw [if_neg c8] at H
   have c8b0 : (((rd_T130 l0_3 x10_1).f0) == a1) = false := beq_eq_false_iff_ne.mpr c8
   have c8b1 : (((rd_T130 l0_3 x10_1).f0) != a1) = true := bne_iff_ne.mpr c8
   have H' := Aside0.mk H
   clear H
   have p340 : 0 ≤ (x10_1 : Int) := od_
   have q340 : x10_1 < (l0_3.length : Int) := od_
   obtain ⟨ad340, A340_2, c340_2, e340, hx340_0, hx340_1, hx340_2, hl340_2, hi340_2⟩ := at_T130 HR0_3.out x10_1 p340 q340
   cases e340
   replace hx340_0 := hc_ HB hx340_0
   replace hx340_1 := hc_ HB hx340_1
   replace hx340_2 := hc_ HB hx340_2
   have HR340_2 := Aside0.mk hi340_2
   have HC340_2 := Aside0.mk hl340_2
   clear hi340_2 hl340_2
   replace p340 := eq_true p340
   replace q340 := eq_true q340
   go_wp2_with (first | ((with_reducible refine gate_dst (N := 6) rfl ?_); refine box_event ?hg (N := 6) ?hd (cs := #[.int .i64 0, .int .i64 0, .slice none 0 0]) (t := 130) ?hr ?_; (case hd => rfl); (case hg => rfl); (case hr => first | (go_simp; done) | (go_simp; rfl)); intro gb341 hg w12 hbox hb; have BK341 := Aside0.mk (hbox); have GW341 := gw_ hg HB; have GE341 := gw_ hg HB; have NB339_341 := nl_ hg BK339; have NB341_339 := ng_ hg BK339; replace BK339 := bb_ BK339 hb; replace HB := bst_ HB hb; clear hb hbox hg; have hnb13 := NB341_339.out; have hnc13 := NB339_341.out; obtain ⟨hcz14_0, hcz14_1, hcz14_2⟩ := bcs3_ BK341; have hfz14_0 := blk_frozen BK341.out 0; have hfz14_1 := blk_frozen BK341.out 1; have hfz14_2 := blk_frozen BK341.out 2))
   go_roundg k1
   case measure => have := HK1.out; omega
   case rel => exact ⟨(wrap64 (x10_1 + 1)), (by first | rfl | (simp; done) | (simp [*]; done)), H', ⟨by have := HK1.out; omega⟩, ⟨by (with_reducible repeat (first | refine blk_drewN ?_ _ | refine blk_drew ?_ | refine blk_alloc ?_ _)); refine blk_far ?_ NB339_341.out _; (with_reducible repeat (first | refine blk_drewN ?_ _ | refine blk_drew ?_ | refine blk_alloc ?_ _)); refine blk_far ?_ NB339_341.out _; (with_reducible repeat (first | refine blk_drewN ?_ _ | refine blk_drew ?_ | refine blk_alloc ?_ _)); refine blk_far ?_ NB339_341.out _; (with_reducible repeat (first | refine blk_drewN ?_ _ | refine blk_drew ?_ | refine blk_alloc ?_ _)); exact BK339.out⟩, ⟨hB HB⟩⟩

def spec_l17Spots.f (k : Nat) (a0_0 : Int) (l0_1 : List (S86)) (l0_2 : List Int) (l0_3 : List (S130)) (a1 : Int) (a2 : Int) : Option (Int × Int × Bool) := (spec_l17Find.f k a0_0 l0_1 l0_2 l0_3 a1).bind fun t343 => ((spec_l17Find.f k a0_0 l0_1 l0_2 l0_3 a2).bind fun t344 => ((spec_GoodCampus.f k a0_0 l0_1 l0_2 l0_3).bind fun t345 => (if t345 = true then (if t343 < 0 then (some (0, 0, false)) else (if t344 < 0 then (some (0, 0, false)) else (if 0 ≤ t343 then (if t343 < (l0_3.length : Int) then (if 0 ≤ t344 then (if t344 < (l0_3.length : Int) then (some ((rd_T130 l0_3 t343).f1, (rd_T130 l0_3 t344).f1, true)) else (none)) else (none)) else (none)) else (none)))) else (some (0, 0, false)))))
theorem spec_l17Spots.mono : ∀ a0 a1 a2 a3 a4 a5 k, LeO (spec_l17Spots.f k a0 a1 a2 a3 a4 a5) (spec_l17Spots.f (k + 1) a0 a1 a2 a3 a4 a5) := by
 intro a0 a1 a2 a3 a4 a5 k
 unfold spec_l17Spots.f
 repeat' first
   | (with_reducible exact spec_GoodCampus.mono _ _ _ _ _)
   | (with_reducible exact spec_l17Find.mono _ _ _ _ _ _)
   | with_reducible first | exact LeO.refl _ | exact LeO.none _ | refine LeO.ite ?_ ?_ | refine LeO.bind ?_ fun _ => ?_
set_option maxHeartbeats 8000000 in
set_option maxRecDepth 100000 in
theorem spec_l17Spots.calls (k : Nat) (a0_0 : Int) (A0_1 : Option Addr) (c0_1 : Nat) (l0_1 : List (S86)) (A0_2 : Option Addr) (c0_2 : Nat) (l0_2 : List Int) (A0_3 : Option Addr) (c0_3 : Nat) (l0_3 : List (S130)) (a1 : Int) (a2 : Int) (r1 : Int) (r2 : Int) (r3 : Bool) (w : World) (hr0_1 : Kd.C k86 w A0_1 l0_1.length l0_1) (hc0_1 : l0_1.length ≤ c0_1) (hr0_2 : Kd.C (Kd.int .i64) w A0_2 l0_2.length l0_2) (hc0_2 : l0_2.length ≤ c0_2) (hr0_3 : Kd.C k130 w A0_3 l0_3.length l0_3) (hc0_3 : l0_3.length ≤ c0_3) (h : spec_l17Spots.f k a0_0 l0_1 l0_2 l0_3 a1 a2 = some (r1, r2, r3)) :
  Calls Try.prog 62 #[.agg #[.int .i64 a0_0, .slice A0_1 l0_1.length c0_1, .slice A0_2 l0_2.length c0_2, .slice A0_3 l0_3.length c0_3], .int .i64 a1, .int .i64 a2] w fun e w' => e = .returned (.tuple #[.int .i64 r1, .int .i64 r2, .bool r3]) ∧ Below w.heap.size w w' := by
 have hu33 := Try.underlying33
 have HR0_1 := Aside0.mk hr0_1
 have HC0_1 := Aside0.mk hc0_1
 clear hr0_1 hc0_1
 have HR0_2 := Aside0.mk hr0_2
 have HC0_2 := Aside0.mk hc0_2
 clear hr0_2 hc0_2
 have HR0_3 := Aside0.mk hr0_3
 have HC0_3 := Aside0.mk hc0_3
 clear hr0_3 hc0_3
 have HB := Aside0.mk (Below.refl w.heap.size w)
 have H : ((spec_l17Find.f k a0_0 l0_1 l0_2 l0_3 a1).bind fun t343 => ((spec_l17Find.f k a0_0 l0_1 l0_2 l0_3 a2).bind fun t344 => ((spec_GoodCampus.f k a0_0 l0_1 l0_2 l0_3).bind fun t345 => (if t345 = true then (if t343 < 0 then (some (0, 0, false)) else (if t344 < 0 then (some (0, 0, false)) else (if 0 ≤ t343 then (if t343 < (l0_3.length : Int) then (if 0 ≤ t344 then (if t344 < (l0_3.length : Int) then (some ((rd_T130 l0_3 t343).f1, (rd_T130 l0_3 t344).f1, true)) else (none)) else (none)) else (none)) else (none)))) else (some (0, 0, false)))))) = some (r1, r2, r3) := h
 clear h
 replace H := Option.bind_eq_some_iff.mp H
 obtain ⟨t343, A40, H⟩ := H
 replace H : ((spec_l17Find.f k a0_0 l0_1 l0_2 l0_3 a2).bind fun t344 => ((spec_GoodCampus.f k a0_0 l0_1 l0_2 l0_3).bind fun t345 => (if t345 = true then (if t343 < 0 then (some (0, 0, false)) else (if t344 < 0 then (some (0, 0, false)) else (if 0 ≤ t343 then (if t343 < (l0_3.length : Int) then (if 0 ≤ t344 then (if t344 < (l0_3.length : Int) then (some ((rd_T130 l0_3 t343).f1, (rd_T130 l0_3 t344).f1, true)) else (none)) else (none)) else (none)) else (none)))) else (some (0, 0, false))))) = some (r1, r2, r3) := H
 have A4 := Aside0.mk A40
 clear A40
 replace H := Option.bind_eq_some_iff.mp H
 obtain ⟨t344, A50, H⟩ := H
 replace H : ((spec_GoodCampus.f k a0_0 l0_1 l0_2 l0_3).bind fun t345 => (if t345 = true then (if t343 < 0 then (some (0, 0, false)) else (if t344 < 0 then (some (0, 0, false)) else (if 0 ≤ t343 then (if t343 < (l0_3.length : Int) then (if 0 ≤ t344 then (if t344 < (l0_3.length : Int) then (some ((rd_T130 l0_3 t343).f1, (rd_T130 l0_3 t344).f1, true)) else (none)) else (none)) else (none)) else (none)))) else (some (0, 0, false)))) = some (r1, r2, r3) := H
 have A5 := Aside0.mk A50
 clear A50
 replace H := Option.bind_eq_some_iff.mp H
 obtain ⟨t345, A60, H⟩ := H
 replace H : (if t345 = true then (if t343 < 0 then (some (0, 0, false)) else (if t344 < 0 then (some (0, 0, false)) else (if 0 ≤ t343 then (if t343 < (l0_3.length : Int) then (if 0 ≤ t344 then (if t344 < (l0_3.length : Int) then (some ((rd_T130 l0_3 t343).f1, (rd_T130 l0_3 t344).f1, true)) else (none)) else (none)) else (none)) else (none)))) else (some (0, 0, false))) = some (r1, r2, r3) := H
 have A6 := Aside0.mk A60
 clear A60
 by_cases c7 : t345 = true
 rotate_left
 ·replace c7 := Bool.eq_false_iff.mpr c7
  subst c7
  rw [if_neg (show ¬ (false = true) by decide)] at H
  simp only [Option.some.injEq, Prod.mk.injEq] at H
  obtain ⟨rfl, rfl, rfl⟩ := H
  go_enter Try.func62, Try.ntmps62
  go_wp2_with (first | ((with_reducible refine gate_dst (N := 3) rfl ?_); refine box_event ?hg (N := 3) ?hd (cs := #[.int .i64 a0_0, .slice A0_1 l0_1.length c0_1, .slice A0_2 l0_2.length c0_2, .slice A0_3 l0_3.length c0_3]) (t := 33) ?hr ?_; (case hd => rfl); (case hg => rfl); (case hr => first | (go_simp; done) | (go_simp; rfl)); intro gb342 hg w36 hbox hb; have BK342 := Aside0.mk (hbox); have GW342 := gw_ hg HB; have GE342 := gw_ hg HB; replace HB := bst_ HB hb; clear hb hbox hg; obtain ⟨hcz37_0, hcz37_1, hcz37_2, hcz37_3⟩ := bcs4_ BK342) | (go_at_call 101; (with_reducible refine (spec_l17Find.calls k a0_0 _ _ l0_1 _ _ l0_2 _ _ l0_3 a1 t343 _ ?side1 ?side2 ?side3 ?side4 ?side5 ?side6 A4.out).mono ?_); (case side1 => exact cb_ HR0_1 HB); (case side2 => exact HC0_1.out); (case side3 => exact cb_ HR0_2 HB); (case side4 => exact HC0_2.out); (case side5 => exact cb_ HR0_3 HB); (case side6 => exact HC0_3.out); rintro e w38 ⟨rfl, hb⟩; replace BK342 := bb_ BK342 hb; replace HB := bst_ HB hb; clear hb; obtain ⟨hcz39_0, hcz39_1, hcz39_2, hcz39_3⟩ := bcs4_ BK342) | (go_at_call 101; (with_reducible refine (spec_l17Find.calls k a0_0 _ _ l0_1 _ _ l0_2 _ _ l0_3 a2 t344 _ ?side1 ?side2 ?side3 ?side4 ?side5 ?side6 A5.out).mono ?_); (case side1 => exact cb_ HR0_1 HB); (case side2 => exact HC0_1.out); (case side3 => exact cb_ HR0_2 HB); (case side4 => exact HC0_2.out); (case side5 => exact cb_ HR0_3 HB); (case side6 => exact HC0_3.out); rintro e w40 ⟨rfl, hb⟩; replace BK342 := bb_ BK342 hb; replace HB := bst_ HB hb; clear hb; obtain ⟨hcz41_0, hcz41_1, hcz41_2, hcz41_3⟩ := bcs4_ BK342) | (go_at_call 53; (with_reducible refine (spec_GoodCampus.calls k a0_0 _ _ l0_1 _ _ l0_2 _ _ l0_3 false _ ?side1 ?side2 ?side3 ?side4 ?side5 ?side6 A6.out).mono ?_); (case side1 => exact cb_ HR0_1 HB); (case side2 => exact HC0_1.out); (case side3 => exact cb_ HR0_2 HB); (case side4 => exact HC0_2.out); (case side5 => exact cb_ HR0_3 HB); (case side6 => exact HC0_3.out); rintro e w42 ⟨rfl, hb⟩; replace BK342 := bb_ BK342 hb; replace HB := bst_ HB hb; clear hb))
  repeat (go_quiet (first | ((with_reducible refine gate_dst (N := 3) rfl ?_); refine box_event ?hg (N := 3) ?hd (cs := #[.int .i64 a0_0, .slice A0_1 l0_1.length c0_1, .slice A0_2 l0_2.length c0_2, .slice A0_3 l0_3.length c0_3]) (t := 33) ?hr ?_; (case hd => rfl); (case hg => rfl); (case hr => first | (go_simp; done) | (go_simp; rfl)); intro gb342 hg w36 hbox hb; have BK342 := Aside0.mk (hbox); have GW342 := gw_ hg HB; have GE342 := gw_ hg HB; replace HB := bst_ HB hb; clear hb hbox hg; obtain ⟨hcz37_0, hcz37_1, hcz37_2, hcz37_3⟩ := bcs4_ BK342) | (go_at_call 101; (with_reducible refine (spec_l17Find.calls k a0_0 _ _ l0_1 _ _ l0_2 _ _ l0_3 a1 t343 _ ?side1 ?side2 ?side3 ?side4 ?side5 ?side6 A4.out).mono ?_); (case side1 => exact cb_ HR0_1 HB); (case side2 => exact HC0_1.out); (case side3 => exact cb_ HR0_2 HB); (case side4 => exact HC0_2.out); (case side5 => exact cb_ HR0_3 HB); (case side6 => exact HC0_3.out); rintro e w38 ⟨rfl, hb⟩; replace BK342 := bb_ BK342 hb; replace HB := bst_ HB hb; clear hb; obtain ⟨hcz39_0, hcz39_1, hcz39_2, hcz39_3⟩ := bcs4_ BK342) | (go_at_call 101; (with_reducible refine (spec_l17Find.calls k a0_0 _ _ l0_1 _ _ l0_2 _ _ l0_3 a2 t344 _ ?side1 ?side2 ?side3 ?side4 ?side5 ?side6 A5.out).mono ?_); (case side1 => exact cb_ HR0_1 HB); (case side2 => exact HC0_1.out); (case side3 => exact cb_ HR0_2 HB); (case side4 => exact HC0_2.out); (case side5 => exact cb_ HR0_3 HB); (case side6 => exact HC0_3.out); rintro e w40 ⟨rfl, hb⟩; replace BK342 := bb_ BK342 hb; replace HB := bst_ HB hb; clear hb; obtain ⟨hcz41_0, hcz41_1, hcz41_2, hcz41_3⟩ := bcs4_ BK342) | (go_at_call 53; (with_reducible refine (spec_GoodCampus.calls k a0_0 _ _ l0_1 _ _ l0_2 _ _ l0_3 false _ ?side1 ?side2 ?side3 ?side4 ?side5 ?side6 A6.out).mono ?_); (case side1 => exact cb_ HR0_1 HB); (case side2 => exact HC0_1.out); (case side3 => exact cb_ HR0_2 HB); (case side4 => exact HC0_2.out); (case side5 => exact cb_ HR0_3 HB); (case side6 => exact HC0_3.out); rintro e w42 ⟨rfl, hb⟩; replace BK342 := bb_ BK342 hb; replace HB := bst_ HB hb; clear hb)); try go_wp2_with (first | ((with_reducible refine gate_dst (N := 3) rfl ?_); refine box_event ?hg (N := 3) ?hd (cs := #[.int .i64 a0_0, .slice A0_1 l0_1.length c0_1, .slice A0_2 l0_2.length c0_2, .slice A0_3 l0_3.length c0_3]) (t := 33) ?hr ?_; (case hd => rfl); (case hg => rfl); (case hr => first | (go_simp; done) | (go_simp; rfl)); intro gb342 hg w36 hbox hb; have BK342 := Aside0.mk (hbox); have GW342 := gw_ hg HB; have GE342 := gw_ hg HB; replace HB := bst_ HB hb; clear hb hbox hg; obtain ⟨hcz37_0, hcz37_1, hcz37_2, hcz37_3⟩ := bcs4_ BK342) | (go_at_call 101; (with_reducible refine (spec_l17Find.calls k a0_0 _ _ l0_1 _ _ l0_2 _ _ l0_3 a1 t343 _ ?side1 ?side2 ?side3 ?side4 ?side5 ?side6 A4.out).mono ?_); (case side1 => exact cb_ HR0_1 HB); (case side2 => exact HC0_1.out); (case side3 => exact cb_ HR0_2 HB); (case side4 => exact HC0_2.out); (case side5 => exact cb_ HR0_3 HB); (case side6 => exact HC0_3.out); rintro e w38 ⟨rfl, hb⟩; replace BK342 := bb_ BK342 hb; replace HB := bst_ HB hb; clear hb; obtain ⟨hcz39_0, hcz39_1, hcz39_2, hcz39_3⟩ := bcs4_ BK342) | (go_at_call 101; (with_reducible refine (spec_l17Find.calls k a0_0 _ _ l0_1 _ _ l0_2 _ _ l0_3 a2 t344 _ ?side1 ?side2 ?side3 ?side4 ?side5 ?side6 A5.out).mono ?_); (case side1 => exact cb_ HR0_1 HB); (case side2 => exact HC0_1.out); (case side3 => exact cb_ HR0_2 HB); (case side4 => exact HC0_2.out); (case side5 => exact cb_ HR0_3 HB); (case side6 => exact HC0_3.out); rintro e w40 ⟨rfl, hb⟩; replace BK342 := bb_ BK342 hb; replace HB := bst_ HB hb; clear hb; obtain ⟨hcz41_0, hcz41_1, hcz41_2, hcz41_3⟩ := bcs4_ BK342) | (go_at_call 53; (with_reducible refine (spec_GoodCampus.calls k a0_0 _ _ l0_1 _ _ l0_2 _ _ l0_3 false _ ?side1 ?side2 ?side3 ?side4 ?side5 ?side6 A6.out).mono ?_); (case side1 => exact cb_ HR0_1 HB); (case side2 => exact HC0_1.out); (case side3 => exact cb_ HR0_2 HB); (case side4 => exact HC0_2.out); (case side5 => exact cb_ HR0_3 HB); (case side6 => exact HC0_3.out); rintro e w42 ⟨rfl, hb⟩; replace BK342 := bb_ BK342 hb; replace HB := bst_ HB hb; clear hb)))
  go_ret3
  exact ⟨rt_, hB HB⟩
 subst c7
 rw [if_pos rfl] at H
 by_cases c8 : t343 < 0
 ·rw [if_pos c8] at H
  have c8b0 : decide (t343 < 0) = true := decide_eq_true c8
  clear c8
  simp only [Option.some.injEq, Prod.mk.injEq] at H
  obtain ⟨rfl, rfl, rfl⟩ := H
  go_enter Try.func62, Try.ntmps62
  go_wp2_with (first | ((with_reducible refine gate_dst (N := 3) rfl ?_); refine box_event ?hg (N := 3) ?hd (cs := #[.int .i64 a0_0, .slice A0_1 l0_1.length c0_1, .slice A0_2 l0_2.length c0_2, .slice A0_3 l0_3.length c0_3]) (t := 33) ?hr ?_; (case hd => rfl); (case hg => rfl); (case hr => first | (go_simp; done) | (go_simp; rfl)); intro gb342 hg w9 hbox hb; have BK342 := Aside0.mk (hbox); have GW342 := gw_ hg HB; have GE342 := gw_ hg HB; replace HB := bst_ HB hb; clear hb hbox hg; obtain ⟨hcz10_0, hcz10_1, hcz10_2, hcz10_3⟩ := bcs4_ BK342) | (go_at_call 101; (with_reducible refine (spec_l17Find.calls k a0_0 _ _ l0_1 _ _ l0_2 _ _ l0_3 a1 t343 _ ?side1 ?side2 ?side3 ?side4 ?side5 ?side6 A4.out).mono ?_); (case side1 => exact cb_ HR0_1 HB); (case side2 => exact HC0_1.out); (case side3 => exact cb_ HR0_2 HB); (case side4 => exact HC0_2.out); (case side5 => exact cb_ HR0_3 HB); (case side6 => exact HC0_3.out); rintro e w11 ⟨rfl, hb⟩; replace BK342 := bb_ BK342 hb; replace HB := bst_ HB hb; clear hb; obtain ⟨hcz12_0, hcz12_1, hcz12_2, hcz12_3⟩ := bcs4_ BK342) | (go_at_call 101; (with_reducible refine (spec_l17Find.calls k a0_0 _ _ l0_1 _ _ l0_2 _ _ l0_3 a2 t344 _ ?side1 ?side2 ?side3 ?side4 ?side5 ?side6 A5.out).mono ?_); (case side1 => exact cb_ HR0_1 HB); (case side2 => exact HC0_1.out); (case side3 => exact cb_ HR0_2 HB); (case side4 => exact HC0_2.out); (case side5 => exact cb_ HR0_3 HB); (case side6 => exact HC0_3.out); rintro e w13 ⟨rfl, hb⟩; replace BK342 := bb_ BK342 hb; replace HB := bst_ HB hb; clear hb; obtain ⟨hcz14_0, hcz14_1, hcz14_2, hcz14_3⟩ := bcs4_ BK342) | (go_at_call 53; (with_reducible refine (spec_GoodCampus.calls k a0_0 _ _ l0_1 _ _ l0_2 _ _ l0_3 true _ ?side1 ?side2 ?side3 ?side4 ?side5 ?side6 A6.out).mono ?_); (case side1 => exact cb_ HR0_1 HB); (case side2 => exact HC0_1.out); (case side3 => exact cb_ HR0_2 HB); (case side4 => exact HC0_2.out); (case side5 => exact cb_ HR0_3 HB); (case side6 => exact HC0_3.out); rintro e w15 ⟨rfl, hb⟩; replace BK342 := bb_ BK342 hb; replace HB := bst_ HB hb; clear hb))
  repeat (go_quiet (first | ((with_reducible refine gate_dst (N := 3) rfl ?_); refine box_event ?hg (N := 3) ?hd (cs := #[.int .i64 a0_0, .slice A0_1 l0_1.length c0_1, .slice A0_2 l0_2.length c0_2, .slice A0_3 l0_3.length c0_3]) (t := 33) ?hr ?_; (case hd => rfl); (case hg => rfl); (case hr => first | (go_simp; done) | (go_simp; rfl)); intro gb342 hg w9 hbox hb; have BK342 := Aside0.mk (hbox); have GW342 := gw_ hg HB; have GE342 := gw_ hg HB; replace HB := bst_ HB hb; clear hb hbox hg; obtain ⟨hcz10_0, hcz10_1, hcz10_2, hcz10_3⟩ := bcs4_ BK342) | (go_at_call 101; (with_reducible refine (spec_l17Find.calls k a0_0 _ _ l0_1 _ _ l0_2 _ _ l0_3 a1 t343 _ ?side1 ?side2 ?side3 ?side4 ?side5 ?side6 A4.out).mono ?_); (case side1 => exact cb_ HR0_1 HB); (case side2 => exact HC0_1.out); (case side3 => exact cb_ HR0_2 HB); (case side4 => exact HC0_2.out); (case side5 => exact cb_ HR0_3 HB); (case side6 => exact HC0_3.out); rintro e w11 ⟨rfl, hb⟩; replace BK342 := bb_ BK342 hb; replace HB := bst_ HB hb; clear hb; obtain ⟨hcz12_0, hcz12_1, hcz12_2, hcz12_3⟩ := bcs4_ BK342) | (go_at_call 101; (with_reducible refine (spec_l17Find.calls k a0_0 _ _ l0_1 _ _ l0_2 _ _ l0_3 a2 t344 _ ?side1 ?side2 ?side3 ?side4 ?side5 ?side6 A5.out).mono ?_); (case side1 => exact cb_ HR0_1 HB); (case side2 => exact HC0_1.out); (case side3 => exact cb_ HR0_2 HB); (case side4 => exact HC0_2.out); (case side5 => exact cb_ HR0_3 HB); (case side6 => exact HC0_3.out); rintro e w13 ⟨rfl, hb⟩; replace BK342 := bb_ BK342 hb; replace HB := bst_ HB hb; clear hb; obtain ⟨hcz14_0, hcz14_1, hcz14_2, hcz14_3⟩ := bcs4_ BK342) | (go_at_call 53; (with_reducible refine (spec_GoodCampus.calls k a0_0 _ _ l0_1 _ _ l0_2 _ _ l0_3 true _ ?side1 ?side2 ?side3 ?side4 ?side5 ?side6 A6.out).mono ?_); (case side1 => exact cb_ HR0_1 HB); (case side2 => exact HC0_1.out); (case side3 => exact cb_ HR0_2 HB); (case side4 => exact HC0_2.out); (case side5 => exact cb_ HR0_3 HB); (case side6 => exact HC0_3.out); rintro e w15 ⟨rfl, hb⟩; replace BK342 := bb_ BK342 hb; replace HB := bst_ HB hb; clear hb)); try go_wp2_with (first | ((with_reducible refine gate_dst (N := 3) rfl ?_); refine box_event ?hg (N := 3) ?hd (cs := #[.int .i64 a0_0, .slice A0_1 l0_1.length c0_1, .slice A0_2 l0_2.length c0_2, .slice A0_3 l0_3.length c0_3]) (t := 33) ?hr ?_; (case hd => rfl); (case hg => rfl); (case hr => first | (go_simp; done) | (go_simp; rfl)); intro gb342 hg w9 hbox hb; have BK342 := Aside0.mk (hbox); have GW342 := gw_ hg HB; have GE342 := gw_ hg HB; replace HB := bst_ HB hb; clear hb hbox hg; obtain ⟨hcz10_0, hcz10_1, hcz10_2, hcz10_3⟩ := bcs4_ BK342) | (go_at_call 101; (with_reducible refine (spec_l17Find.calls k a0_0 _ _ l0_1 _ _ l0_2 _ _ l0_3 a1 t343 _ ?side1 ?side2 ?side3 ?side4 ?side5 ?side6 A4.out).mono ?_); (case side1 => exact cb_ HR0_1 HB); (case side2 => exact HC0_1.out); (case side3 => exact cb_ HR0_2 HB); (case side4 => exact HC0_2.out); (case side5 => exact cb_ HR0_3 HB); (case side6 => exact HC0_3.out); rintro e w11 ⟨rfl, hb⟩; replace BK342 := bb_ BK342 hb; replace HB := bst_ HB hb; clear hb; obtain ⟨hcz12_0, hcz12_1, hcz12_2, hcz12_3⟩ := bcs4_ BK342) | (go_at_call 101; (with_reducible refine (spec_l17Find.calls k a0_0 _ _ l0_1 _ _ l0_2 _ _ l0_3 a2 t344 _ ?side1 ?side2 ?side3 ?side4 ?side5 ?side6 A5.out).mono ?_); (case side1 => exact cb_ HR0_1 HB); (case side2 => exact HC0_1.out); (case side3 => exact cb_ HR0_2 HB); (case side4 => exact HC0_2.out); (case side5 => exact cb_ HR0_3 HB); (case side6 => exact HC0_3.out); rintro e w13 ⟨rfl, hb⟩; replace BK342 := bb_ BK342 hb; replace HB := bst_ HB hb; clear hb; obtain ⟨hcz14_0, hcz14_1, hcz14_2, hcz14_3⟩ := bcs4_ BK342) | (go_at_call 53; (with_reducible refine (spec_GoodCampus.calls k a0_0 _ _ l0_1 _ _ l0_2 _ _ l0_3 true _ ?side1 ?side2 ?side3 ?side4 ?side5 ?side6 A6.out).mono ?_); (case side1 => exact cb_ HR0_1 HB); (case side2 => exact HC0_1.out); (case side3 => exact cb_ HR0_2 HB); (case side4 => exact HC0_2.out); (case side5 => exact cb_ HR0_3 HB); (case side6 => exact HC0_3.out); rintro e w15 ⟨rfl, hb⟩; replace BK342 := bb_ BK342 hb; replace HB := bst_ HB hb; clear hb)))
  go_ret3
  exact ⟨rt_, hB HB⟩
 rw [if_neg c8] at H
 have c8b0 : decide (t343 < 0) = false := decide_eq_false c8
 clear c8
 by_cases c16 : t344 < 0
 ·rw [if_pos c16] at H
  have c16b0 : decide (t344 < 0) = true := decide_eq_true c16
  clear c16
  simp only [Option.some.injEq, Prod.mk.injEq] at H
  obtain ⟨rfl, rfl, rfl⟩ := H
  go_enter Try.func62, Try.ntmps62
  go_wp2_with (first | ((with_reducible refine gate_dst (N := 3) rfl ?_); refine box_event ?hg (N := 3) ?hd (cs := #[.int .i64 a0_0, .slice A0_1 l0_1.length c0_1, .slice A0_2 l0_2.length c0_2, .slice A0_3 l0_3.length c0_3]) (t := 33) ?hr ?_; (case hd => rfl); (case hg => rfl); (case hr => first | (go_simp; done) | (go_simp; rfl)); intro gb342 hg w17 hbox hb; have BK342 := Aside0.mk (hbox); have GW342 := gw_ hg HB; have GE342 := gw_ hg HB; replace HB := bst_ HB hb; clear hb hbox hg; obtain ⟨hcz18_0, hcz18_1, hcz18_2, hcz18_3⟩ := bcs4_ BK342) | (go_at_call 101; (with_reducible refine (spec_l17Find.calls k a0_0 _ _ l0_1 _ _ l0_2 _ _ l0_3 a1 t343 _ ?side1 ?side2 ?side3 ?side4 ?side5 ?side6 A4.out).mono ?_); (case side1 => exact cb_ HR0_1 HB); (case side2 => exact HC0_1.out); (case side3 => exact cb_ HR0_2 HB); (case side4 => exact HC0_2.out); (case side5 => exact cb_ HR0_3 HB); (case side6 => exact HC0_3.out); rintro e w19 ⟨rfl, hb⟩; replace BK342 := bb_ BK342 hb; replace HB := bst_ HB hb; clear hb; obtain ⟨hcz20_0, hcz20_1, hcz20_2, hcz20_3⟩ := bcs4_ BK342) | (go_at_call 101; (with_reducible refine (spec_l17Find.calls k a0_0 _ _ l0_1 _ _ l0_2 _ _ l0_3 a2 t344 _ ?side1 ?side2 ?side3 ?side4 ?side5 ?side6 A5.out).mono ?_); (case side1 => exact cb_ HR0_1 HB); (case side2 => exact HC0_1.out); (case side3 => exact cb_ HR0_2 HB); (case side4 => exact HC0_2.out); (case side5 => exact cb_ HR0_3 HB); (case side6 => exact HC0_3.out); rintro e w21 ⟨rfl, hb⟩; replace BK342 := bb_ BK342 hb; replace HB := bst_ HB hb; clear hb; obtain ⟨hcz22_0, hcz22_1, hcz22_2, hcz22_3⟩ := bcs4_ BK342) | (go_at_call 53; (with_reducible refine (spec_GoodCampus.calls k a0_0 _ _ l0_1 _ _ l0_2 _ _ l0_3 true _ ?side1 ?side2 ?side3 ?side4 ?side5 ?side6 A6.out).mono ?_); (case side1 => exact cb_ HR0_1 HB); (case side2 => exact HC0_1.out); (case side3 => exact cb_ HR0_2 HB); (case side4 => exact HC0_2.out); (case side5 => exact cb_ HR0_3 HB); (case side6 => exact HC0_3.out); rintro e w23 ⟨rfl, hb⟩; replace BK342 := bb_ BK342 hb; replace HB := bst_ HB hb; clear hb))
  repeat (go_quiet (first | ((with_reducible refine gate_dst (N := 3) rfl ?_); refine box_event ?hg (N := 3) ?hd (cs := #[.int .i64 a0_0, .slice A0_1 l0_1.length c0_1, .slice A0_2 l0_2.length c0_2, .slice A0_3 l0_3.length c0_3]) (t := 33) ?hr ?_; (case hd => rfl); (case hg => rfl); (case hr => first | (go_simp; done) | (go_simp; rfl)); intro gb342 hg w17 hbox hb; have BK342 := Aside0.mk (hbox); have GW342 := gw_ hg HB; have GE342 := gw_ hg HB; replace HB := bst_ HB hb; clear hb hbox hg; obtain ⟨hcz18_0, hcz18_1, hcz18_2, hcz18_3⟩ := bcs4_ BK342) | (go_at_call 101; (with_reducible refine (spec_l17Find.calls k a0_0 _ _ l0_1 _ _ l0_2 _ _ l0_3 a1 t343 _ ?side1 ?side2 ?side3 ?side4 ?side5 ?side6 A4.out).mono ?_); (case side1 => exact cb_ HR0_1 HB); (case side2 => exact HC0_1.out); (case side3 => exact cb_ HR0_2 HB); (case side4 => exact HC0_2.out); (case side5 => exact cb_ HR0_3 HB); (case side6 => exact HC0_3.out); rintro e w19 ⟨rfl, hb⟩; replace BK342 := bb_ BK342 hb; replace HB := bst_ HB hb; clear hb; obtain ⟨hcz20_0, hcz20_1, hcz20_2, hcz20_3⟩ := bcs4_ BK342) | (go_at_call 101; (with_reducible refine (spec_l17Find.calls k a0_0 _ _ l0_1 _ _ l0_2 _ _ l0_3 a2 t344 _ ?side1 ?side2 ?side3 ?side4 ?side5 ?side6 A5.out).mono ?_); (case side1 => exact cb_ HR0_1 HB); (case side2 => exact HC0_1.out); (case side3 => exact cb_ HR0_2 HB); (case side4 => exact HC0_2.out); (case side5 => exact cb_ HR0_3 HB); (case side6 => exact HC0_3.out); rintro e w21 ⟨rfl, hb⟩; replace BK342 := bb_ BK342 hb; replace HB := bst_ HB hb; clear hb; obtain ⟨hcz22_0, hcz22_1, hcz22_2, hcz22_3⟩ := bcs4_ BK342) | (go_at_call 53; (with_reducible refine (spec_GoodCampus.calls k a0_0 _ _ l0_1 _ _ l0_2 _ _ l0_3 true _ ?side1 ?side2 ?side3 ?side4 ?side5 ?side6 A6.out).mono ?_); (case side1 => exact cb_ HR0_1 HB); (case side2 => exact HC0_1.out); (case side3 => exact cb_ HR0_2 HB); (case side4 => exact HC0_2.out); (case side5 => exact cb_ HR0_3 HB); (case side6 => exact HC0_3.out); rintro e w23 ⟨rfl, hb⟩; replace BK342 := bb_ BK342 hb; replace HB := bst_ HB hb; clear hb)); try go_wp2_with (first | ((with_reducible refine gate_dst (N := 3) rfl ?_); refine box_event ?hg (N := 3) ?hd (cs := #[.int .i64 a0_0, .slice A0_1 l0_1.length c0_1, .slice A0_2 l0_2.length c0_2, .slice A0_3 l0_3.length c0_3]) (t := 33) ?hr ?_; (case hd => rfl); (case hg => rfl); (case hr => first | (go_simp; done) | (go_simp; rfl)); intro gb342 hg w17 hbox hb; have BK342 := Aside0.mk (hbox); have GW342 := gw_ hg HB; have GE342 := gw_ hg HB; replace HB := bst_ HB hb; clear hb hbox hg; obtain ⟨hcz18_0, hcz18_1, hcz18_2, hcz18_3⟩ := bcs4_ BK342) | (go_at_call 101; (with_reducible refine (spec_l17Find.calls k a0_0 _ _ l0_1 _ _ l0_2 _ _ l0_3 a1 t343 _ ?side1 ?side2 ?side3 ?side4 ?side5 ?side6 A4.out).mono ?_); (case side1 => exact cb_ HR0_1 HB); (case side2 => exact HC0_1.out); (case side3 => exact cb_ HR0_2 HB); (case side4 => exact HC0_2.out); (case side5 => exact cb_ HR0_3 HB); (case side6 => exact HC0_3.out); rintro e w19 ⟨rfl, hb⟩; replace BK342 := bb_ BK342 hb; replace HB := bst_ HB hb; clear hb; obtain ⟨hcz20_0, hcz20_1, hcz20_2, hcz20_3⟩ := bcs4_ BK342) | (go_at_call 101; (with_reducible refine (spec_l17Find.calls k a0_0 _ _ l0_1 _ _ l0_2 _ _ l0_3 a2 t344 _ ?side1 ?side2 ?side3 ?side4 ?side5 ?side6 A5.out).mono ?_); (case side1 => exact cb_ HR0_1 HB); (case side2 => exact HC0_1.out); (case side3 => exact cb_ HR0_2 HB); (case side4 => exact HC0_2.out); (case side5 => exact cb_ HR0_3 HB); (case side6 => exact HC0_3.out); rintro e w21 ⟨rfl, hb⟩; replace BK342 := bb_ BK342 hb; replace HB := bst_ HB hb; clear hb; obtain ⟨hcz22_0, hcz22_1, hcz22_2, hcz22_3⟩ := bcs4_ BK342) | (go_at_call 53; (with_reducible refine (spec_GoodCampus.calls k a0_0 _ _ l0_1 _ _ l0_2 _ _ l0_3 true _ ?side1 ?side2 ?side3 ?side4 ?side5 ?side6 A6.out).mono ?_); (case side1 => exact cb_ HR0_1 HB); (case side2 => exact HC0_1.out); (case side3 => exact cb_ HR0_2 HB); (case side4 => exact HC0_2.out); (case side5 => exact cb_ HR0_3 HB); (case side6 => exact HC0_3.out); rintro e w23 ⟨rfl, hb⟩; replace BK342 := bb_ BK342 hb; replace HB := bst_ HB hb; clear hb)))
  go_ret3
  exact ⟨rt_, hB HB⟩
 rw [if_neg c16] at H
 have c16b0 : decide (t344 < 0) = false := decide_eq_false c16
 clear c16
 by_cases c24 : 0 ≤ t343
 rotate_left
 ·rw [if_neg c24] at H
  exact absurd H (by simp)
 rw [if_pos c24] at H
 have c24b0 : decide (0 ≤ t343) = true := decide_eq_true c24
 clear c24
 by_cases c25 : t343 < (l0_3.length : Int)
 rotate_left
 ·rw [if_neg c25] at H
  exact absurd H (by simp)
 rw [if_pos c25] at H
 have c25b0 : decide (t343 < (l0_3.length : Int)) = true := decide_eq_true c25
 clear c25
 by_cases c26 : 0 ≤ t344
 rotate_left
 ·rw [if_neg c26] at H
  exact absurd H (by simp)
 rw [if_pos c26] at H
 have c26b0 : decide (0 ≤ t344) = true := decide_eq_true c26
 clear c26
 by_cases c27 : t344 < (l0_3.length : Int)
 rotate_left
 ·rw [if_neg c27] at H
  exact absurd H (by simp)
 rw [if_pos c27] at H
 have c27b0 : decide (t344 < (l0_3.length : Int)) = true := decide_eq_true c27
 clear c27
 simp only [Option.some.injEq, Prod.mk.injEq] at H
 obtain ⟨rfl, rfl, rfl⟩ := H
 go_enter Try.func62, Try.ntmps62
 go_wp2_with (first | ((with_reducible refine gate_dst (N := 3) rfl ?_); refine box_event ?hg (N := 3) ?hd (cs := #[.int .i64 a0_0, .slice A0_1 l0_1.length c0_1, .slice A0_2 l0_2.length c0_2, .slice A0_3 l0_3.length c0_3]) (t := 33) ?hr ?_; (case hd => rfl); (case hg => rfl); (case hr => first | (go_simp; done) | (go_simp; rfl)); intro gb342 hg w28 hbox hb; have BK342 := Aside0.mk (hbox); have GW342 := gw_ hg HB; have GE342 := gw_ hg HB; replace HB := bst_ HB hb; clear hb hbox hg; obtain ⟨hcz29_0, hcz29_1, hcz29_2, hcz29_3⟩ := bcs4_ BK342) | (go_at_call 101; (with_reducible refine (spec_l17Find.calls k a0_0 _ _ l0_1 _ _ l0_2 _ _ l0_3 a1 t343 _ ?side1 ?side2 ?side3 ?side4 ?side5 ?side6 A4.out).mono ?_); (case side1 => exact cb_ HR0_1 HB); (case side2 => exact HC0_1.out); (case side3 => exact cb_ HR0_2 HB); (case side4 => exact HC0_2.out); (case side5 => exact cb_ HR0_3 HB); (case side6 => exact HC0_3.out); rintro e w30 ⟨rfl, hb⟩; replace BK342 := bb_ BK342 hb; replace HB := bst_ HB hb; clear hb; obtain ⟨hcz31_0, hcz31_1, hcz31_2, hcz31_3⟩ := bcs4_ BK342) | (go_at_call 101; (with_reducible refine (spec_l17Find.calls k a0_0 _ _ l0_1 _ _ l0_2 _ _ l0_3 a2 t344 _ ?side1 ?side2 ?side3 ?side4 ?side5 ?side6 A5.out).mono ?_); (case side1 => exact cb_ HR0_1 HB); (case side2 => exact HC0_1.out); (case side3 => exact cb_ HR0_2 HB); (case side4 => exact HC0_2.out); (case side5 => exact cb_ HR0_3 HB); (case side6 => exact HC0_3.out); rintro e w32 ⟨rfl, hb⟩; replace BK342 := bb_ BK342 hb; replace HB := bst_ HB hb; clear hb; obtain ⟨hcz33_0, hcz33_1, hcz33_2, hcz33_3⟩ := bcs4_ BK342) | (go_at_call 53; (with_reducible refine (spec_GoodCampus.calls k a0_0 _ _ l0_1 _ _ l0_2 _ _ l0_3 true _ ?side1 ?side2 ?side3 ?side4 ?side5 ?side6 A6.out).mono ?_); (case side1 => exact cb_ HR0_1 HB); (case side2 => exact HC0_1.out); (case side3 => exact cb_ HR0_2 HB); (case side4 => exact HC0_2.out); (case side5 => exact cb_ HR0_3 HB); (case side6 => exact HC0_3.out); rintro e w34 ⟨rfl, hb⟩; replace BK342 := bb_ BK342 hb; replace HB := bst_ HB hb; clear hb; obtain ⟨hcz35_0, hcz35_1, hcz35_2, hcz35_3⟩ := bcs4_ BK342; have p346 : 0 ≤ (t343 : Int) := od_; have q346 : t343 < (l0_3.length : Int) := od_; obtain ⟨ad346, A346_2, c346_2, e346, hx346_0, hx346_1, hx346_2, hl346_2, hi346_2⟩ := at_T130 HR0_3.out t343 p346 q346; cases e346; replace hx346_0 := hc_ HB hx346_0; replace hx346_1 := hc_ HB hx346_1; replace hx346_2 := hc_ HB hx346_2; have HR346_2 := Aside0.mk hi346_2; have HC346_2 := Aside0.mk hl346_2; clear hi346_2 hl346_2; replace p346 := eq_true p346; replace q346 := eq_true q346; have p347 : 0 ≤ (t344 : Int) := od_; have q347 : t344 < (l0_3.length : Int) := od_; obtain ⟨ad347, A347_2, c347_2, e347, hx347_0, hx347_1, hx347_2, hl347_2, hi347_2⟩ := at_T130 HR0_3.out t344 p347 q347; obtain rfl : ad346 = ad347 := (by injection e347); replace hx347_0 := hc_ HB hx347_0; replace hx347_1 := hc_ HB hx347_1; replace hx347_2 := hc_ HB hx347_2; have HR347_2 := Aside0.mk hi347_2; have HC347_2 := Aside0.mk hl347_2; clear hi347_2 hl347_2; replace p347 := eq_true p347; replace q347 := eq_true q347))
 repeat (go_quiet (first | ((with_reducible refine gate_dst (N := 3) rfl ?_); refine box_event ?hg (N := 3) ?hd (cs := #[.int .i64 a0_0, .slice A0_1 l0_1.length c0_1, .slice A0_2 l0_2.length c0_2, .slice A0_3 l0_3.length c0_3]) (t := 33) ?hr ?_; (case hd => rfl); (case hg => rfl); (case hr => first | (go_simp; done) | (go_simp; rfl)); intro gb342 hg w28 hbox hb; have BK342 := Aside0.mk (hbox); have GW342 := gw_ hg HB; have GE342 := gw_ hg HB; replace HB := bst_ HB hb; clear hb hbox hg; obtain ⟨hcz29_0, hcz29_1, hcz29_2, hcz29_3⟩ := bcs4_ BK342) | (go_at_call 101; (with_reducible refine (spec_l17Find.calls k a0_0 _ _ l0_1 _ _ l0_2 _ _ l0_3 a1 t343 _ ?side1 ?side2 ?side3 ?side4 ?side5 ?side6 A4.out).mono ?_); (case side1 => exact cb_ HR0_1 HB); (case side2 => exact HC0_1.out); (case side3 => exact cb_ HR0_2 HB); (case side4 => exact HC0_2.out); (case side5 => exact cb_ HR0_3 HB); (case side6 => exact HC0_3.out); rintro e w30 ⟨rfl, hb⟩; replace BK342 := bb_ BK342 hb; replace HB := bst_ HB hb; clear hb; obtain ⟨hcz31_0, hcz31_1, hcz31_2, hcz31_3⟩ := bcs4_ BK342) | (go_at_call 101; (with_reducible refine (spec_l17Find.calls k a0_0 _ _ l0_1 _ _ l0_2 _ _ l0_3 a2 t344 _ ?side1 ?side2 ?side3 ?side4 ?side5 ?side6 A5.out).mono ?_); (case side1 => exact cb_ HR0_1 HB); (case side2 => exact HC0_1.out); (case side3 => exact cb_ HR0_2 HB); (case side4 => exact HC0_2.out); (case side5 => exact cb_ HR0_3 HB); (case side6 => exact HC0_3.out); rintro e w32 ⟨rfl, hb⟩; replace BK342 := bb_ BK342 hb; replace HB := bst_ HB hb; clear hb; obtain ⟨hcz33_0, hcz33_1, hcz33_2, hcz33_3⟩ := bcs4_ BK342) | (go_at_call 53; (with_reducible refine (spec_GoodCampus.calls k a0_0 _ _ l0_1 _ _ l0_2 _ _ l0_3 true _ ?side1 ?side2 ?side3 ?side4 ?side5 ?side6 A6.out).mono ?_); (case side1 => exact cb_ HR0_1 HB); (case side2 => exact HC0_1.out); (case side3 => exact cb_ HR0_2 HB); (case side4 => exact HC0_2.out); (case side5 => exact cb_ HR0_3 HB); (case side6 => exact HC0_3.out); rintro e w34 ⟨rfl, hb⟩; replace BK342 := bb_ BK342 hb; replace HB := bst_ HB hb; clear hb; obtain ⟨hcz35_0, hcz35_1, hcz35_2, hcz35_3⟩ := bcs4_ BK342; have p346 : 0 ≤ (t343 : Int) := od_; have q346 : t343 < (l0_3.length : Int) := od_; obtain ⟨ad346, A346_2, c346_2, e346, hx346_0, hx346_1, hx346_2, hl346_2, hi346_2⟩ := at_T130 HR0_3.out t343 p346 q346; cases e346; replace hx346_0 := hc_ HB hx346_0; replace hx346_1 := hc_ HB hx346_1; replace hx346_2 := hc_ HB hx346_2; have HR346_2 := Aside0.mk hi346_2; have HC346_2 := Aside0.mk hl346_2; clear hi346_2 hl346_2; replace p346 := eq_true p346; replace q346 := eq_true q346; have p347 : 0 ≤ (t344 : Int) := od_; have q347 : t344 < (l0_3.length : Int) := od_; obtain ⟨ad347, A347_2, c347_2, e347, hx347_0, hx347_1, hx347_2, hl347_2, hi347_2⟩ := at_T130 HR0_3.out t344 p347 q347; obtain rfl : ad346 = ad347 := (by injection e347); replace hx347_0 := hc_ HB hx347_0; replace hx347_1 := hc_ HB hx347_1; replace hx347_2 := hc_ HB hx347_2; have HR347_2 := Aside0.mk hi347_2; have HC347_2 := Aside0.mk hl347_2; clear hi347_2 hl347_2; replace p347 := eq_true p347; replace q347 := eq_true q347)); try go_wp2_with (first | ((with_reducible refine gate_dst (N := 3) rfl ?_); refine box_event ?hg (N := 3) ?hd (cs := #[.int .i64 a0_0, .slice A0_1 l0_1.length c0_1, .slice A0_2 l0_2.length c0_2, .slice A0_3 l0_3.length c0_3]) (t := 33) ?hr ?_; (case hd => rfl); (case hg => rfl); (case hr => first | (go_simp; done) | (go_simp; rfl)); intro gb342 hg w28 hbox hb; have BK342 := Aside0.mk (hbox); have GW342 := gw_ hg HB; have GE342 := gw_ hg HB; replace HB := bst_ HB hb; clear hb hbox hg; obtain ⟨hcz29_0, hcz29_1, hcz29_2, hcz29_3⟩ := bcs4_ BK342) | (go_at_call 101; (with_reducible refine (spec_l17Find.calls k a0_0 _ _ l0_1 _ _ l0_2 _ _ l0_3 a1 t343 _ ?side1 ?side2 ?side3 ?side4 ?side5 ?side6 A4.out).mono ?_); (case side1 => exact cb_ HR0_1 HB); (case side2 => exact HC0_1.out); (case side3 => exact cb_ HR0_2 HB); (case side4 => exact HC0_2.out); (case side5 => exact cb_ HR0_3 HB); (case side6 => exact HC0_3.out); rintro e w30 ⟨rfl, hb⟩; replace BK342 := bb_ BK342 hb; replace HB := bst_ HB hb; clear hb; obtain ⟨hcz31_0, hcz31_1, hcz31_2, hcz31_3⟩ := bcs4_ BK342) | (go_at_call 101; (with_reducible refine (spec_l17Find.calls k a0_0 _ _ l0_1 _ _ l0_2 _ _ l0_3 a2 t344 _ ?side1 ?side2 ?side3 ?side4 ?side5 ?side6 A5.out).mono ?_); (case side1 => exact cb_ HR0_1 HB); (case side2 => exact HC0_1.out); (case side3 => exact cb_ HR0_2 HB); (case side4 => exact HC0_2.out); (case side5 => exact cb_ HR0_3 HB); (case side6 => exact HC0_3.out); rintro e w32 ⟨rfl, hb⟩; replace BK342 := bb_ BK342 hb; replace HB := bst_ HB hb; clear hb; obtain ⟨hcz33_0, hcz33_1, hcz33_2, hcz33_3⟩ := bcs4_ BK342) | (go_at_call 53; (with_reducible refine (spec_GoodCampus.calls k a0_0 _ _ l0_1 _ _ l0_2 _ _ l0_3 true _ ?side1 ?side2 ?side3 ?side4 ?side5 ?side6 A6.out).mono ?_); (case side1 => exact cb_ HR0_1 HB); (case side2 => exact HC0_1.out); (case side3 => exact cb_ HR0_2 HB); (case side4 => exact HC0_2.out); (case side5 => exact cb_ HR0_3 HB); (case side6 => exact HC0_3.out); rintro e w34 ⟨rfl, hb⟩; replace BK342 := bb_ BK342 hb; replace HB := bst_ HB hb; clear hb; obtain ⟨hcz35_0, hcz35_1, hcz35_2, hcz35_3⟩ := bcs4_ BK342; have p346 : 0 ≤ (t343 : Int) := od_; have q346 : t343 < (l0_3.length : Int) := od_; obtain ⟨ad346, A346_2, c346_2, e346, hx346_0, hx346_1, hx346_2, hl346_2, hi346_2⟩ := at_T130 HR0_3.out t343 p346 q346; cases e346; replace hx346_0 := hc_ HB hx346_0; replace hx346_1 := hc_ HB hx346_1; replace hx346_2 := hc_ HB hx346_2; have HR346_2 := Aside0.mk hi346_2; have HC346_2 := Aside0.mk hl346_2; clear hi346_2 hl346_2; replace p346 := eq_true p346; replace q346 := eq_true q346; have p347 : 0 ≤ (t344 : Int) := od_; have q347 : t344 < (l0_3.length : Int) := od_; obtain ⟨ad347, A347_2, c347_2, e347, hx347_0, hx347_1, hx347_2, hl347_2, hi347_2⟩ := at_T130 HR0_3.out t344 p347 q347; obtain rfl : ad346 = ad347 := (by injection e347); replace hx347_0 := hc_ HB hx347_0; replace hx347_1 := hc_ HB hx347_1; replace hx347_2 := hc_ HB hx347_2; have HR347_2 := Aside0.mk hi347_2; have HC347_2 := Aside0.mk hl347_2; clear hi347_2 hl347_2; replace p347 := eq_true p347; replace q347 := eq_true q347)))
 go_ret3
 exact ⟨rt_, hB HB⟩

def spec_l1Least.f (a0 : Int) (a1 : Int) : Option (Int) := if a0 < a1 then (some a0) else (some a1)
set_option maxHeartbeats 8000000 in
set_option maxRecDepth 100000 in
theorem spec_l1Least.calls (a0 : Int) (a1 : Int) (r : Int) (w : World) (h : spec_l1Least.f a0 a1 = some r) :
  Calls Try.prog 102 #[.int .i64 a0, .int .i64 a1] w fun e w' => e = .returned (.int .i64 r) ∧ Drawn0 w w' := by
 have H : (if a0 < a1 then (some a0) else (some a1)) = some r := h
 clear h
 by_cases c3 : a0 < a1
 ·rw [if_pos c3] at H
  have c3b0 : decide (a0 < a1) = true := decide_eq_true c3
  clear c3
  obtain rfl := Option.some.inj H
  go_enter Try.func102, Try.ntmps102
  go_wp2
  go_ret
  exact ⟨by first | rfl | (simp; done) | (simp [*]; done), by repeat (first | exact Drawn0.refl _ | apply Drawn0.step)⟩
 rw [if_neg c3] at H
 have c3b0 : decide (a0 < a1) = false := decide_eq_false c3
 clear c3
 obtain rfl := Option.some.inj H
 go_enter Try.func102, Try.ntmps102
 go_wp2
 go_ret
 exact ⟨by first | rfl | (simp; done) | (simp [*]; done), by repeat (first | exact Drawn0.refl _ | apply Drawn0.step)⟩

def impl_Campus_hostLit1.f (a0_0 : Int) (a0_1 : Int) (l0_2 : List Int) (a1 : Int) : Option (Int) := some (wrap64 (a0_0 - a1))
set_option maxHeartbeats 8000000 in
set_option maxRecDepth 100000 in
theorem impl_Campus_hostLit1.calls (a0_0 : Int) (a0_1 : Int) (A0_2 : Option Addr) (c0_2 : Nat) (l0_2 : List Int) (a1 : Int) (r : Int) (w : World) (hr0_2 : Kd.C (Kd.int .i64) w A0_2 l0_2.length l0_2) (hc0_2 : l0_2.length ≤ c0_2) (h : impl_Campus_hostLit1.f a0_0 a0_1 l0_2 a1 = some r) :
  Calls Try.prog 134 #[.agg #[.int .i64 a0_0, .int .i64 a0_1, .slice A0_2 l0_2.length c0_2], .int .i64 a1] w fun e w' => e = .returned (.int .i64 r) ∧ Below w.heap.size w w' := by
 have hu130 := Try.underlying130
 have HR0_2 := Aside0.mk hr0_2
 have HC0_2 := Aside0.mk hc0_2
 clear hr0_2 hc0_2
 have HB := Aside0.mk (Below.refl w.heap.size w)
 have H : (some (wrap64 (a0_0 - a1))) = some r := h
 clear h
 obtain rfl := Option.some.inj H
 go_enter Try.func134, Try.ntmps134
 go_wp2_with (first | ((with_reducible refine gate_dst (N := 2) rfl ?_); refine box_event ?hg (N := 2) ?hd (cs := #[.int .i64 a0_0, .int .i64 a0_1, .slice A0_2 l0_2.length c0_2]) (t := 130) ?hr ?_; (case hd => rfl); (case hg => rfl); (case hr => first | (go_simp; done) | (go_simp; rfl)); intro gb370 hg w3 hbox hb; have BK370 := Aside0.mk (hbox); have GW370 := gw_ hg HB; have GE370 := gw_ hg HB; replace HB := bst_ HB hb; clear hb hbox hg; obtain ⟨hcz4_0, hcz4_1, hcz4_2⟩ := bcs3_ BK370))
 go_ret
 exact ⟨rt_, hB HB⟩

def impl_Place_int.l0 : Nat → List (S130) → Int → Int → Int → Int → Option (Int × Bool)
 | 0, _, _, _, _, _ => none
 | k + 1, x0, x1, x8, x9, x10 => if x9 < x10 then (if 0 ≤ (wrap64 ((IntKind.u64.wrap (wrap64 (x9 + x10))) / 2)) then (if (wrap64 ((IntKind.u64.wrap (wrap64 (x9 + x10))) / 2)) < (x0.length : Int) then ((impl_Campus_hostLit1.f ((rd_T130 x0 (wrap64 ((IntKind.u64.wrap (wrap64 (x9 + x10))) / 2))).f0) ((rd_T130 x0 (wrap64 ((IntKind.u64.wrap (wrap64 (x9 + x10))) / 2))).f1) ((rd_T130 x0 (wrap64 ((IntKind.u64.wrap (wrap64 (x9 + x10))) / 2))).f2) x1).bind fun t372 => (if t372 < 0 then (impl_Place_int.l0 k x0 x1 x8 (wrap64 ((wrap64 ((IntKind.u64.wrap (wrap64 (x9 + x10))) / 2)) + 1)) x10) else (impl_Place_int.l0 k x0 x1 x8 x9 (wrap64 ((IntKind.u64.wrap (wrap64 (x9 + x10))) / 2))))) else (none)) else (none)) else (if x9 < x8 then (if 0 ≤ x9 then (if x9 < (x0.length : Int) then ((impl_Campus_hostLit1.f ((rd_T130 x0 x9).f0) ((rd_T130 x0 x9).f1) ((rd_T130 x0 x9).f2) x1).bind fun t374 => (some (x9, (t374 == 0)))) else (none)) else (none)) else (some (x9, false)))
def impl_Place_int.f (k : Nat) (l0 : List (S130)) (a1 : Int) (a2 : Int) : Option (Int × Bool) := impl_Place_int.l0 k l0 a1 (l0.length : Int) 0 (l0.length : Int)
theorem impl_Place_int.mono_l : ∀ k, (∀ y0 y1 y2 y3 y4, LeO (impl_Place_int.l0 k y0 y1 y2 y3 y4) (impl_Place_int.l0 (k + 1) y0 y1 y2 y3 y4))
 | 0 => fun _ _ _ _ _ r h => by simp [impl_Place_int.l0] at h
 | k + 1 => by
  have ih0 := impl_Place_int.mono_l k
  ·intro y0 y1 y2 y3 y4
   unfold impl_Place_int.l0
   repeat' first
   | (with_reducible exact ih0 _ _ _ _ _)
   | with_reducible first | exact LeO.refl _ | exact LeO.none _ | refine LeO.ite ?_ ?_ | refine LeO.bind ?_ fun _ => ?_
theorem impl_Place_int.mono : ∀ a0 a1 a2 k, LeO (impl_Place_int.f k a0 a1 a2) (impl_Place_int.f (k + 1) a0 a1 a2) := by
 intro a0 a1 a2 k
 have ih0 := impl_Place_int.mono_l k
 unfold impl_Place_int.f
 repeat' first
   | (with_reducible exact ih0 _ _ _ _ _)
   | with_reducible first | exact LeO.refl _ | exact LeO.none _ | refine LeO.ite ?_ ?_ | refine LeO.bind ?_ fun _ => ?_
set_option maxHeartbeats 8000000 in
set_option maxRecDepth 100000 in
theorem impl_Place_int.calls (k : Nat) (A0 : Option Addr) (c0 : Nat) (l0 : List (S130)) (a1 : Int) (a2 : Int) (r1 : Int) (r2 : Bool) (w : World) (hr0 : Kd.C k130 w A0 l0.length l0) (hc0 : l0.length ≤ c0) (h : impl_Place_int.f k l0 a1 a2 = some (r1, r2)) :
  Calls Try.prog 133 #[.slice A0 l0.length c0, .int .i64 a1, .func (.func 134) #[] #[]] w fun e w' => e = .returned (.tuple #[.int .i64 r1, .bool r2]) ∧ Below w.heap.size w w' := by
 have hu130 := Try.underlying130
 have HR0 := Aside0.mk hr0
 have HC0 := Aside0.mk hc0
 clear hr0 hc0
 have HB := Aside0.mk (Below.refl w.heap.size w)
 have H : (impl_Place_int.l0 k l0 a1 (l0.length : Int) 0 (l0.length : Int)) = some (r1, r2) := h
 clear h
 have H' := Aside0.mk H
 clear H
 go_enter Try.func133, Try.ntmps133
 go_wp2
 go_loopg [9, 10] k (fun kq v9 v10 w' => ∃ (x9_1 : Int) (x10_1 : Int), v9 = .int .i64 x9_1 ∧ v10 = .int .i64 x10_1 ∧ Aside0 (impl_Place_int.l0 kq l0 a1 (l0.length : Int) x9_1 x10_1 = some (r1, r2)) ∧ Aside0 (kq ≤ k) ∧ Aside0 (Below w.heap.size w w'))
 case atStart => exact ⟨(0), ((l0.length : Int)), (by first | rfl | (simp; done) | (simp [*]; done)), (by first | rfl | (simp; done) | (simp [*]; done)), H', ⟨Nat.le_refl _⟩, ⟨hB HB⟩⟩
 case round =>
  clear H'
  obtain ⟨x9_1, x10_1, rfl, rfl, HA, HK1, HB⟩ := hrel
  cases gk with
  | zero => exact absurd HA.out (by simp [impl_Place_int.l0])
  | succ k1 =>
   have H := HA.out
   clear HA
   simp only [impl_Place_int.l0] at H
   by_cases c4 : x9_1 < x10_1
   rotate_left
   ·rw [if_neg c4] at H
    have c4b0 : decide (x9_1 < x10_1) = false := decide_eq_false c4
    clear c4
    by_cases c12 : x9_1 < (l0.length : Int)
    rotate_left
    ·rw [if_neg c12] at H
     have c12b0 : decide (x9_1 < (l0.length : Int)) = false := decide_eq_false c12
     clear c12
     simp only [Option.some.injEq, Prod.mk.injEq] at H
     obtain ⟨rfl, rfl⟩ := H
     go_wp2
     go_ret2
     exact ⟨rt_, hB HB⟩
    rw [if_pos c12] at H
    have c12b0 : decide (x9_1 < (l0.length : Int)) = true := decide_eq_true c12
    clear c12
    by_cases c13 : 0 ≤ x9_1
    rotate_left
    ·rw [if_neg c13] at H
     exact absurd H (by simp)
    rw [if_pos c13] at H
    have c13b0 : decide (0 ≤ x9_1) = true := decide_eq_true c13
    clear c13
    by_cases c14 : x9_1 < (l0.length : Int)
    rotate_left
    ·rw [if_neg c14] at H
     exact absurd H (by simp)
    rw [if_pos c14] at H
    have c14b0 : decide (x9_1 < (l0.length : Int)) = true := decide_eq_true c14
    clear c14
    replace H := Option.bind_eq_some_iff.mp H
    obtain ⟨t374, A150, H⟩ := H
    replace H : (some (x9_1, (t374 == 0))) = some (r1, r2) := H
    have A15 := Aside0.mk A150
    clear A150
    simp only [Option.some.injEq, Prod.mk.injEq] at H
    obtain ⟨rfl, rfl⟩ := H
    have p373 : 0 ≤ (x9_1 : Int) := od_
    have q373 : x9_1 < (l0.length : Int) := od_
    obtain ⟨ad373, A373_2, c373_2, e373, hx373_0, hx373_1, hx373_2, hl373_2, hi373_2⟩ := at_T130 HR0.out x9_1 p373 q373
    cases e373
    replace hx373_0 := hc_ HB hx373_0
    replace hx373_1 := hc_ HB hx373_1
    replace hx373_2 := hc_ HB hx373_2
    have HR373_2 := Aside0.mk hi373_2
    have HC373_2 := Aside0.mk hl373_2
    clear hi373_2 hl373_2
    replace p373 := eq_true p373
    replace q373 := eq_true q373
    go_wp2_with (first | (go_at_call 134; (with_reducible refine (impl_Campus_hostLit1.calls ((rd_T130 l0 x9_1).f0) ((rd_T130 l0 x9_1).f1) _ _ ((rd_T130 l0 x9_1).f2) a1 t374 _ ?side1 ?side2 A15.out).mono ?_); (case side1 => exact cb_ HR373_2 HB); (case side2 => exact HC373_2.out); rintro e w16 ⟨rfl, hb⟩; replace HB := bst_ HB hb; clear hb))
    go_ret2
    exact ⟨rt_, hB HB⟩
   rw [if_pos c4] at H
   have c4b0 : decide (x9_1 < x10_1) = true := decide_eq_true c4
   clear c4
   obtain ⟨ji5, hji5⟩ : ∃ j_ : Int, (wrap64 ((IntKind.u64.wrap (wrap64 (x9_1 + x10_1))) / 2)) = j_ := ⟨_, rfl⟩
   replace H : (if 0 ≤ (ji5) then (if (ji5) < (l0.length : Int) then ((impl_Campus_hostLit1.f ((rd_T130 l0 (ji5)).f0) ((rd_T130 l0 (ji5)).f1) ((rd_T130 l0 (ji5)).f2) a1).bind fun t372 => (if t372 < 0 then (impl_Place_int.l0 k1 l0 a1 (l0.length : Int) (wrap64 ((ji5) + 1)) x10_1) else (impl_Place_int.l0 k1 l0 a1 (l0.length : Int) x9_1 ji5))) else (none)) else (none)) = some (r1, r2) := by first | (rw [hji5] at H; exact H) | (simp only [hji5] at H ⊢; exact H)
   have hji5w : (IntKind.i64.wrap ((IntKind.u64.wrap (wrap64 (x9_1 + x10_1))) / 2)) = ji5 := (i64_w _).trans hji5
   by_cases c6 : 0 ≤ (ji5)
   rotate_left
   ·rw [if_neg c6] at H
    exact absurd H (by simp)
   rw [if_pos c6] at H
   have c6b0 : decide (0 ≤ (ji5)) = true := decide_eq_true c6
   clear c6
   by_cases c7 : (ji5) < (l0.length : Int)
   rotate_left
   ·rw [if_neg c7] at H
    exact absurd H (by simp)
   rw [if_pos c7] at H
   have c7b0 : decide ((ji5) < (l0.length : Int)) = true := decide_eq_true c7
   clear c7
   replace H := Option.bind_eq_some_iff.mp H
   obtain ⟨t372, A80, H⟩ := H
   replace H : (if t372 < 0 then (impl_Place_int.l0 k1 l0 a1 (l0.length : Int) (wrap64 ((ji5) + 1)) x10_1) else (impl_Place_int.l0 k1 l0 a1 (l0.length : Int) x9_1 ji5)) = some (r1, r2) := H
   have A8 := Aside0.mk A80
   clear A80
   by_cases c9 : t372 < 0
   rotate_left
   ·rw [if_neg c9] at H
    have c9b0 : decide (t372 < 0) = false := decide_eq_false c9
    clear c9
    have H' := Aside0.mk H
    clear H
    have p371 : 0 ≤ ((ji5) : Int) := od_
    have q371 : (ji5) < (l0.length : Int) := od_
    obtain ⟨ad371, A371_2, c371_2, e371, hx371_0, hx371_1, hx371_2, hl371_2, hi371_2⟩ := at_T130 HR0.out (ji5) p371 q371
    cases e371
    replace hx371_0 := hc_ HB hx371_0
    replace hx371_1 := hc_ HB hx371_1
    replace hx371_2 := hc_ HB hx371_2
    have HR371_2 := Aside0.mk hi371_2
    have HC371_2 := Aside0.mk hl371_2
    clear hi371_2 hl371_2
    replace p371 := eq_true p371
    replace q371 := eq_true q371
    go_wp2_with (first | (go_at_call 134; (with_reducible refine (impl_Campus_hostLit1.calls ((rd_T130 l0 (ji5)).f0) ((rd_T130 l0 (ji5)).f1) _ _ ((rd_T130 l0 (ji5)).f2) a1 t372 _ ?side1 ?side2 A8.out).mono ?_); (case side1 => exact cb_ HR371_2 HB); (case side2 => exact HC371_2.out); rintro e w11 ⟨rfl, hb⟩; replace HB := bst_ HB hb; clear hb))
    go_roundg k1
    case measure => have := HK1.out; omega
    case rel => exact ⟨(x9_1), (ji5), (by first | rfl | (simp; done) | (simp [*]; done)), (by first | rfl | (simp; done) | (simp only [← hji5] <;> (first | rfl | simp)) | (simp [*]; done)), H', ⟨by have := HK1.out; omega⟩, ⟨hB HB⟩⟩
   rw [if_pos c9] at H
   have c9b0 : decide (t372 < 0) = true := decide_eq_true c9
   clear c9
   have H' := Aside0.mk H
   clear H
   have p371 : 0 ≤ ((ji5) : Int) := od_
   have q371 : (ji5) < (l0.length : Int) := od_
   obtain ⟨ad371, A371_2, c371_2, e371, hx371_0, hx371_1, hx371_2, hl371_2, hi371_2⟩ := at_T130 HR0.out (ji5) p371 q371
   cases e371
   replace hx371_0 := hc_ HB hx371_0
   replace hx371_1 := hc_ HB hx371_1
   replace hx371_2 := hc_ HB hx371_2
   have HR371_2 := Aside0.mk hi371_2
   have HC371_2 := Aside0.mk hl371_2
   clear hi371_2 hl371_2
   replace p371 := eq_true p371
   replace q371 := eq_true q371
   go_wp2_with (first | (go_at_call 134; (with_reducible refine (impl_Campus_hostLit1.calls ((rd_T130 l0 (ji5)).f0) ((rd_T130 l0 (ji5)).f1) _ _ ((rd_T130 l0 (ji5)).f2) a1 t372 _ ?side1 ?side2 A8.out).mono ?_); (case side1 => exact cb_ HR371_2 HB); (case side2 => exact HC371_2.out); rintro e w10 ⟨rfl, hb⟩; replace HB := bst_ HB hb; clear hb))
   go_roundg k1
   case measure => have := HK1.out; omega
   case rel => exact ⟨(wrap64 ((ji5) + 1)), (x10_1), (by first | rfl | (simp; done) | (simp only [← hji5] <;> (first | rfl | simp)) | (simp [*]; done)), (by first | rfl | (simp; done) | (simp [*]; done)), H', ⟨by have := HK1.out; omega⟩, ⟨hB HB⟩⟩

def impl_Campus_host.f (k : Nat) (a0_0 : Int) (l0_1 : List (S86)) (l0_2 : List Int) (l0_3 : List (S130)) (a1 : Int) : Option (Int × Bool) := (impl_Place_int.f k l0_3 a1 0).bind fun bt376 => (some (bt376.1, bt376.2))
theorem impl_Campus_host.mono : ∀ a0 a1 a2 a3 a4 k, LeO (impl_Campus_host.f k a0 a1 a2 a3 a4) (impl_Campus_host.f (k + 1) a0 a1 a2 a3 a4) := by
 intro a0 a1 a2 a3 a4 k
 unfold impl_Campus_host.f
 repeat' first
   | (with_reducible exact impl_Place_int.mono _ _ _ _)
   | with_reducible first | exact LeO.refl _ | exact LeO.none _ | refine LeO.ite ?_ ?_ | refine LeO.bind ?_ fun _ => ?_
set_option maxHeartbeats 8000000 in
set_option maxRecDepth 100000 in
theorem impl_Campus_host.calls (k : Nat) (a0_0 : Int) (A0_1 : Option Addr) (c0_1 : Nat) (l0_1 : List (S86)) (A0_2 : Option Addr) (c0_2 : Nat) (l0_2 : List Int) (A0_3 : Option Addr) (c0_3 : Nat) (l0_3 : List (S130)) (a1 : Int) (r1 : Int) (r2 : Bool) (w : World) (hr0_1 : Kd.C k86 w A0_1 l0_1.length l0_1) (hc0_1 : l0_1.length ≤ c0_1) (hr0_2 : Kd.C (Kd.int .i64) w A0_2 l0_2.length l0_2) (hc0_2 : l0_2.length ≤ c0_2) (hr0_3 : Kd.C k130 w A0_3 l0_3.length l0_3) (hc0_3 : l0_3.length ≤ c0_3) (h : impl_Campus_host.f k a0_0 l0_1 l0_2 l0_3 a1 = some (r1, r2)) :
  Calls Try.prog 106 #[.agg #[.int .i64 a0_0, .slice A0_1 l0_1.length c0_1, .slice A0_2 l0_2.length c0_2, .slice A0_3 l0_3.length c0_3], .int .i64 a1] w fun e w' => e = .returned (.tuple #[.int .i64 r1, .bool r2]) ∧ Below w.heap.size w w' := by
 have hu33 := Try.underlying33
 have HR0_1 := Aside0.mk hr0_1
 have HC0_1 := Aside0.mk hc0_1
 clear hr0_1 hc0_1
 have HR0_2 := Aside0.mk hr0_2
 have HC0_2 := Aside0.mk hc0_2
 clear hr0_2 hc0_2
 have HR0_3 := Aside0.mk hr0_3
 have HC0_3 := Aside0.mk hc0_3
 clear hr0_3 hc0_3
 have HB := Aside0.mk (Below.refl w.heap.size w)
 have H : ((impl_Place_int.f k l0_3 a1 0).bind fun bt376 => (some (bt376.1, bt376.2))) = some (r1, r2) := h
 clear h
 replace H := Option.bind_eq_some_iff.mp H
 obtain ⟨⟨t376, t377⟩, A30, H⟩ := H
 replace H : (some (t376, t377)) = some (r1, r2) := H
 have A3 := Aside0.mk A30
 clear A30
 simp only [Option.some.injEq, Prod.mk.injEq] at H
 obtain ⟨rfl, rfl⟩ := H
 go_enter Try.func106, Try.ntmps106
 go_wp2_with (first | ((with_reducible refine gate_dst (N := 2) rfl ?_); refine box_event ?hg (N := 2) ?hd (cs := #[.int .i64 a0_0, .slice A0_1 l0_1.length c0_1, .slice A0_2 l0_2.length c0_2, .slice A0_3 l0_3.length c0_3]) (t := 33) ?hr ?_; (case hd => rfl); (case hg => rfl); (case hr => first | (go_simp; done) | (go_simp; rfl)); intro gb375 hg w4 hbox hb; have BK375 := Aside0.mk (hbox); have GW375 := gw_ hg HB; have GE375 := gw_ hg HB; replace HB := bst_ HB hb; clear hb hbox hg; obtain ⟨hcz5_0, hcz5_1, hcz5_2, hcz5_3⟩ := bcs4_ BK375) | (refine goesL_ (some 9) rfl rfl Try.func133 (by kernel_rfl) rfl #[.slice A0_3 l0_3.length c0_3, .int .i64 a1, .func (.func 134) #[] #[]] rfl tm_ ?_; (with_reducible refine (impl_Place_int.calls k _ _ l0_3 a1 0 t376 t377 _ ?side1 ?side2 A3.out).mono ?_); (case side1 => exact cb_ HR0_3 HB); (case side2 => exact HC0_3.out); rintro e w6 ⟨rfl, hb⟩; refine ⟨_, rfl, ?_⟩; replace BK375 := bb_ BK375 hb; replace HB := bst_ HB hb; clear hb))
 go_ret2
 exact ⟨rt_, hB HB⟩

def impl_spotOf.f (k : Nat) (a0_0 : Int) (l0_1 : List (S86)) (l0_2 : List Int) (l0_3 : List (S130)) (a1 : Int) : Option (Int × Bool) := (impl_GoodCampus.f k a0_0 l0_1 l0_2 l0_3).bind fun t379 => (if t379 = true then ((impl_Campus_host.f k a0_0 l0_1 l0_2 l0_3 a1).bind fun bt380 => (if bt380.2 = true then (if 0 ≤ bt380.1 then (if bt380.1 < (l0_3.length : Int) then (some ((rd_T130 l0_3 bt380.1).f1, true)) else (none)) else (none)) else (some (0, false)))) else (some (0, false)))
theorem impl_spotOf.mono : ∀ a0 a1 a2 a3 a4 k, LeO (impl_spotOf.f k a0 a1 a2 a3 a4) (impl_spotOf.f (k + 1) a0 a1 a2 a3 a4) := by
 intro a0 a1 a2 a3 a4 k
 unfold impl_spotOf.f
 repeat' first
   | (with_reducible exact impl_Campus_host.mono _ _ _ _ _ _)
   | (with_reducible exact impl_GoodCampus.mono _ _ _ _ _)
   | with_reducible first | exact LeO.refl _ | exact LeO.none _ | refine LeO.ite ?_ ?_ | refine LeO.bind ?_ fun _ => ?_
set_option maxHeartbeats 8000000 in
set_option maxRecDepth 100000 in
theorem impl_spotOf.calls (k : Nat) (a0_0 : Int) (A0_1 : Option Addr) (c0_1 : Nat) (l0_1 : List (S86)) (A0_2 : Option Addr) (c0_2 : Nat) (l0_2 : List Int) (A0_3 : Option Addr) (c0_3 : Nat) (l0_3 : List (S130)) (a1 : Int) (r1 : Int) (r2 : Bool) (w : World) (hr0_1 : Kd.C k86 w A0_1 l0_1.length l0_1) (hc0_1 : l0_1.length ≤ c0_1) (hr0_2 : Kd.C (Kd.int .i64) w A0_2 l0_2.length l0_2) (hc0_2 : l0_2.length ≤ c0_2) (hr0_3 : Kd.C k130 w A0_3 l0_3.length l0_3) (hc0_3 : l0_3.length ≤ c0_3) (h : impl_spotOf.f k a0_0 l0_1 l0_2 l0_3 a1 = some (r1, r2)) :
  Calls Try.prog 65 #[.agg #[.int .i64 a0_0, .slice A0_1 l0_1.length c0_1, .slice A0_2 l0_2.length c0_2, .slice A0_3 l0_3.length c0_3], .int .i64 a1] w fun e w' => e = .returned (.tuple #[.int .i64 r1, .bool r2]) ∧ Below w.heap.size w w' := by
 have hu33 := Try.underlying33
 have HR0_1 := Aside0.mk hr0_1
 have HC0_1 := Aside0.mk hc0_1
 clear hr0_1 hc0_1
 have HR0_2 := Aside0.mk hr0_2
 have HC0_2 := Aside0.mk hc0_2
 clear hr0_2 hc0_2
 have HR0_3 := Aside0.mk hr0_3
 have HC0_3 := Aside0.mk hc0_3
 clear hr0_3 hc0_3
 have HB := Aside0.mk (Below.refl w.heap.size w)
 have H : ((impl_GoodCampus.f k a0_0 l0_1 l0_2 l0_3).bind fun t379 => (if t379 = true then ((impl_Campus_host.f k a0_0 l0_1 l0_2 l0_3 a1).bind fun bt380 => (if bt380.2 = true then (if 0 ≤ bt380.1 then (if bt380.1 < (l0_3.length : Int) then (some ((rd_T130 l0_3 bt380.1).f1, true)) else (none)) else (none)) else (some (0, false)))) else (some (0, false)))) = some (r1, r2) := h
 clear h
 replace H := Option.bind_eq_some_iff.mp H
 obtain ⟨t379, A30, H⟩ := H
 replace H : (if t379 = true then ((impl_Campus_host.f k a0_0 l0_1 l0_2 l0_3 a1).bind fun bt380 => (if bt380.2 = true then (if 0 ≤ bt380.1 then (if bt380.1 < (l0_3.length : Int) then (some ((rd_T130 l0_3 bt380.1).f1, true)) else (none)) else (none)) else (some (0, false)))) else (some (0, false))) = some (r1, r2) := H
 have A3 := Aside0.mk A30
 clear A30
 by_cases c4 : t379 = true
 rotate_left
 ·replace c4 := Bool.eq_false_iff.mpr c4
  subst c4
  rw [if_neg (show ¬ (false = true) by decide)] at H
  simp only [Option.some.injEq, Prod.mk.injEq] at H
  obtain ⟨rfl, rfl⟩ := H
  go_enter Try.func65, Try.ntmps65
  go_wp2_with (first | ((with_reducible refine gate_dst (N := 2) rfl ?_); refine box_event ?hg (N := 2) ?hd (cs := #[.int .i64 a0_0, .slice A0_1 l0_1.length c0_1, .slice A0_2 l0_2.length c0_2, .slice A0_3 l0_3.length c0_3]) (t := 33) ?hr ?_; (case hd => rfl); (case hg => rfl); (case hr => first | (go_simp; done) | (go_simp; rfl)); intro gb378 hg w20 hbox hb; have BK378 := Aside0.mk (hbox); have GW378 := gw_ hg HB; have GE378 := gw_ hg HB; replace HB := bst_ HB hb; clear hb hbox hg; obtain ⟨hcz21_0, hcz21_1, hcz21_2, hcz21_3⟩ := bcs4_ BK378) | (refine goesL_ (some 9) rfl rfl Try.func57 (by kernel_rfl) rfl #[.agg #[.int .i64 a0_0, .slice A0_1 l0_1.length c0_1, .slice A0_2 l0_2.length c0_2, .slice A0_3 l0_3.length c0_3]] rfl tm_ ?_; (with_reducible refine (impl_GoodCampus.calls k a0_0 _ _ l0_1 _ _ l0_2 _ _ l0_3 false _ ?side1 ?side2 ?side3 ?side4 ?side5 ?side6 A3.out).mono ?_); (case side1 => exact cb_ HR0_1 HB); (case side2 => exact HC0_1.out); (case side3 => exact cb_ HR0_2 HB); (case side4 => exact HC0_2.out); (case side5 => exact cb_ HR0_3 HB); (case side6 => exact HC0_3.out); rintro e w22 ⟨rfl, hb⟩; refine ⟨_, rfl, ?_⟩; replace BK378 := bb_ BK378 hb; replace HB := bst_ HB hb; clear hb))
  go_ret2
  exact ⟨rt_, hB HB⟩
 subst c4
 rw [if_pos rfl] at H
 replace H := Option.bind_eq_some_iff.mp H
 obtain ⟨⟨t380, t381⟩, A50, H⟩ := H
 replace H : (if t381 = true then (if 0 ≤ t380 then (if t380 < (l0_3.length : Int) then (some ((rd_T130 l0_3 t380).f1, true)) else (none)) else (none)) else (some (0, false))) = some (r1, r2) := H
 have A5 := Aside0.mk A50
 clear A50
 by_cases c6 : t381 = true
 rotate_left
 ·replace c6 := Bool.eq_false_iff.mpr c6
  subst c6
  rw [if_neg (show ¬ (false = true) by decide)] at H
  simp only [Option.some.injEq, Prod.mk.injEq] at H
  obtain ⟨rfl, rfl⟩ := H
  go_enter Try.func65, Try.ntmps65
  go_wp2_with (first | ((with_reducible refine gate_dst (N := 2) rfl ?_); refine box_event ?hg (N := 2) ?hd (cs := #[.int .i64 a0_0, .slice A0_1 l0_1.length c0_1, .slice A0_2 l0_2.length c0_2, .slice A0_3 l0_3.length c0_3]) (t := 33) ?hr ?_; (case hd => rfl); (case hg => rfl); (case hr => first | (go_simp; done) | (go_simp; rfl)); intro gb378 hg w15 hbox hb; have BK378 := Aside0.mk (hbox); have GW378 := gw_ hg HB; have GE378 := gw_ hg HB; replace HB := bst_ HB hb; clear hb hbox hg; obtain ⟨hcz16_0, hcz16_1, hcz16_2, hcz16_3⟩ := bcs4_ BK378) | (refine goesL_ (some 9) rfl rfl Try.func57 (by kernel_rfl) rfl #[.agg #[.int .i64 a0_0, .slice A0_1 l0_1.length c0_1, .slice A0_2 l0_2.length c0_2, .slice A0_3 l0_3.length c0_3]] rfl tm_ ?_; (with_reducible refine (impl_GoodCampus.calls k a0_0 _ _ l0_1 _ _ l0_2 _ _ l0_3 true _ ?side1 ?side2 ?side3 ?side4 ?side5 ?side6 A3.out).mono ?_); (case side1 => exact cb_ HR0_1 HB); (case side2 => exact HC0_1.out); (case side3 => exact cb_ HR0_2 HB); (case side4 => exact HC0_2.out); (case side5 => exact cb_ HR0_3 HB); (case side6 => exact HC0_3.out); rintro e w17 ⟨rfl, hb⟩; refine ⟨_, rfl, ?_⟩; replace BK378 := bb_ BK378 hb; replace HB := bst_ HB hb; clear hb; obtain ⟨hcz18_0, hcz18_1, hcz18_2, hcz18_3⟩ := bcs4_ BK378) | (refine goesL_ (some 14) rfl rfl Try.func106 (by kernel_rfl) rfl #[.agg #[.int .i64 a0_0, .slice A0_1 l0_1.length c0_1, .slice A0_2 l0_2.length c0_2, .slice A0_3 l0_3.length c0_3], .int .i64 a1] rfl tm_ ?_; (with_reducible refine (impl_Campus_host.calls k a0_0 _ _ l0_1 _ _ l0_2 _ _ l0_3 a1 t380 false _ ?side1 ?side2 ?side3 ?side4 ?side5 ?side6 A5.out).mono ?_); (case side1 => exact cb_ HR0_1 HB); (case side2 => exact HC0_1.out); (case side3 => exact cb_ HR0_2 HB); (case side4 => exact HC0_2.out); (case side5 => exact cb_ HR0_3 HB); (case side6 => exact HC0_3.out); rintro e w19 ⟨rfl, hb⟩; refine ⟨_, rfl, ?_⟩; replace BK378 := bb_ BK378 hb; replace HB := bst_ HB hb; clear hb))
  go_ret2
  exact ⟨rt_, hB HB⟩
 subst c6
 rw [if_pos rfl] at H
 by_cases c7 : 0 ≤ t380
 rotate_left
 ·rw [if_neg c7] at H
  exact absurd H (by simp)
 rw [if_pos c7] at H
 have c7b0 : decide (0 ≤ t380) = true := decide_eq_true c7
 clear c7
 by_cases c8 : t380 < (l0_3.length : Int)
 rotate_left
 ·rw [if_neg c8] at H
  exact absurd H (by simp)
 rw [if_pos c8] at H
 have c8b0 : decide (t380 < (l0_3.length : Int)) = true := decide_eq_true c8
 clear c8
 simp only [Option.some.injEq, Prod.mk.injEq] at H
 obtain ⟨rfl, rfl⟩ := H
 go_enter Try.func65, Try.ntmps65
 go_wp2_with (first | ((with_reducible refine gate_dst (N := 2) rfl ?_); refine box_event ?hg (N := 2) ?hd (cs := #[.int .i64 a0_0, .slice A0_1 l0_1.length c0_1, .slice A0_2 l0_2.length c0_2, .slice A0_3 l0_3.length c0_3]) (t := 33) ?hr ?_; (case hd => rfl); (case hg => rfl); (case hr => first | (go_simp; done) | (go_simp; rfl)); intro gb378 hg w9 hbox hb; have BK378 := Aside0.mk (hbox); have GW378 := gw_ hg HB; have GE378 := gw_ hg HB; replace HB := bst_ HB hb; clear hb hbox hg; obtain ⟨hcz10_0, hcz10_1, hcz10_2, hcz10_3⟩ := bcs4_ BK378) | (refine goesL_ (some 9) rfl rfl Try.func57 (by kernel_rfl) rfl #[.agg #[.int .i64 a0_0, .slice A0_1 l0_1.length c0_1, .slice A0_2 l0_2.length c0_2, .slice A0_3 l0_3.length c0_3]] rfl tm_ ?_; (with_reducible refine (impl_GoodCampus.calls k a0_0 _ _ l0_1 _ _ l0_2 _ _ l0_3 true _ ?side1 ?side2 ?side3 ?side4 ?side5 ?side6 A3.out).mono ?_); (case side1 => exact cb_ HR0_1 HB); (case side2 => exact HC0_1.out); (case side3 => exact cb_ HR0_2 HB); (case side4 => exact HC0_2.out); (case side5 => exact cb_ HR0_3 HB); (case side6 => exact HC0_3.out); rintro e w11 ⟨rfl, hb⟩; refine ⟨_, rfl, ?_⟩; replace BK378 := bb_ BK378 hb; replace HB := bst_ HB hb; clear hb; obtain ⟨hcz12_0, hcz12_1, hcz12_2, hcz12_3⟩ := bcs4_ BK378) | (refine goesL_ (some 14) rfl rfl Try.func106 (by kernel_rfl) rfl #[.agg #[.int .i64 a0_0, .slice A0_1 l0_1.length c0_1, .slice A0_2 l0_2.length c0_2, .slice A0_3 l0_3.length c0_3], .int .i64 a1] rfl tm_ ?_; (with_reducible refine (impl_Campus_host.calls k a0_0 _ _ l0_1 _ _ l0_2 _ _ l0_3 a1 t380 true _ ?side1 ?side2 ?side3 ?side4 ?side5 ?side6 A5.out).mono ?_); (case side1 => exact cb_ HR0_1 HB); (case side2 => exact HC0_1.out); (case side3 => exact cb_ HR0_2 HB); (case side4 => exact HC0_2.out); (case side5 => exact cb_ HR0_3 HB); (case side6 => exact HC0_3.out); rintro e w13 ⟨rfl, hb⟩; refine ⟨_, rfl, ?_⟩; replace BK378 := bb_ BK378 hb; replace HB := bst_ HB hb; clear hb; obtain ⟨hcz14_0, hcz14_1, hcz14_2, hcz14_3⟩ := bcs4_ BK378; have p382 : 0 ≤ (t380 : Int) := od_; have q382 : t380 < (l0_3.length : Int) := od_; obtain ⟨ad382, A382_2, c382_2, e382, hx382_0, hx382_1, hx382_2, hl382_2, hi382_2⟩ := at_T130 HR0_3.out t380 p382 q382; cases e382; replace hx382_0 := hc_ HB hx382_0; replace hx382_1 := hc_ HB hx382_1; replace hx382_2 := hc_ HB hx382_2; have HR382_2 := Aside0.mk hi382_2; have HC382_2 := Aside0.mk hl382_2; clear hi382_2 hl382_2; replace p382 := eq_true p382; replace q382 := eq_true q382))
 go_ret2
 exact ⟨rt_, hB HB⟩

end Go.Proofs.Ytpohlcjkabojcaa.P
