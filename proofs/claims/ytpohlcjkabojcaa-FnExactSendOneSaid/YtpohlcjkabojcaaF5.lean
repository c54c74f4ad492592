import Derived.Test.YtpohlcjkabojcaaF0
import Derived.Test.YtpohlcjkabojcaaF3
import Derived.Test.YtpohlcjkabojcaaF4
namespace Go.Proofs.Ytpohlcjkabojcaa.P
open Go.RowKit Go.Proofs.YtpohlcjkabojcaaW.PrintWords Go.Proofs.YtpohlcjkabojcaaW.PrintLast Go.Proofs.YtpohlcjkabojcaaW.PrintMore
attribute [local go_sem] max2_int min2_int max_two min_two max_three min_three max_four min_four   -- for this text's walks alone
set_option linter.unusedVariables false
set_option linter.unusedSimpArgs false

mutual
def impl_GoodCampus.j0 : Nat → Bool → Int → List (S86) → List Int → List (S130) → Option (Bool)
 | 0, _, _, _, _, _ => none
 | k + 1, x18, x213000, x213001, x213002, x213003 => if x18 = true then (some false) else (impl_GoodCampus.l0 k x213003 (x213003.length : Int) 0 x213000 x213001 x213002 x213003)
def impl_GoodCampus.l0 : Nat → List (S130) → Int → Int → Int → List (S86) → List Int → List (S130) → Option (Bool)
 | 0, _, _, _, _, _, _, _ => none
 | k + 1, x20, x21, x22, x213000, x213001, x213002, x213003 => if x22 < x21 then (if 0 ≤ x22 then (if x22 < (x20.length : Int) then ((impl_isHost.f ((rd_T130 x20 x22).f0)).bind fun t216 => (if t216 = true then (if x22 > 0 then (if 0 ≤ (wrap64 (x22 - 1)) then (if (wrap64 (x22 - 1)) < (x213003.length : Int) then (if ((rd_T130 x213003 (wrap64 (x22 - 1))).f0) ≥ ((rd_T130 x20 x22).f0) then (some false) else ((impl_in.f ((rd_T130 x20 x22).f1) 0 (wrap64 (x213000 - 1))).bind fun t218 => (if t218 = true then ((impl_rising.f k ((rd_T130 x20 x22).f2)).bind fun t219 => (if t219 = true then ((impl_allIn.f k ((rd_T130 x20 x22).f2) 1 20).bind fun t220 => (if t220 = true then (impl_GoodCampus.l0 k x20 x21 (wrap64 (x22 + 1)) x213000 x213001 x213002 x213003) else (some false))) else (some false))) else (some false)))) else (none)) else (none)) else ((impl_in.f ((rd_T130 x20 x22).f1) 0 (wrap64 (x213000 - 1))).bind fun t221 => (if t221 = true then ((impl_rising.f k ((rd_T130 x20 x22).f2)).bind fun t222 => (if t222 = true then ((impl_allIn.f k ((rd_T130 x20 x22).f2) 1 20).bind fun t223 => (if t223 = true then (impl_GoodCampus.l0 k x20 x21 (wrap64 (x22 + 1)) x213000 x213001 x213002 x213003) else (some false))) else (some false))) else (some false)))) else (some false))) else (none)) else (none)) else (some true)
end
def impl_GoodCampus.f (k : Nat) (a0_0 : Int) (l0_1 : List (S86)) (l0_2 : List Int) (l0_3 : List (S130)) : Option (Bool) := (impl_goodCut.f k a0_0 l0_1 l0_2).bind fun t213 => (if t213 = true then (impl_GoodCampus.j0 k (decide ((l0_3.length : Int) > 12)) a0_0 l0_1 l0_2 l0_3) else (impl_GoodCampus.j0 k true a0_0 l0_1 l0_2 l0_3))
theorem impl_GoodCampus.mono_l : ∀ k, (∀ y0 y1 y2 y3 y4, LeO (impl_GoodCampus.j0 k y0 y1 y2 y3 y4) (impl_GoodCampus.j0 (k + 1) y0 y1 y2 y3 y4)) ∧ (∀ y0 y1 y2 y3 y4 y5 y6, LeO (impl_GoodCampus.l0 k y0 y1 y2 y3 y4 y5 y6) (impl_GoodCampus.l0 (k + 1) y0 y1 y2 y3 y4 y5 y6))
 | 0 => ⟨fun _ _ _ _ _ r h => by simp [impl_GoodCampus.j0] at h, fun _ _ _ _ _ _ _ r h => by simp [impl_GoodCampus.l0] at h⟩
 | k + 1 => by
  obtain ⟨ih0, ih1⟩ := impl_GoodCampus.mono_l k
  refine ⟨?_, ?_⟩
  ·intro y0 y1 y2 y3 y4
   unfold impl_GoodCampus.j0
   repeat' first
   | (with_reducible exact ih0 _ _ _ _ _)
   | (with_reducible exact ih1 _ _ _ _ _ _ _)
   | (with_reducible exact impl_allIn.mono _ _ _ _)
   | (with_reducible exact impl_goodCut.mono _ _ _ _)
   | (with_reducible exact impl_rising.mono _ _)
   | with_reducible first | exact LeO.refl _ | exact LeO.none _ | refine LeO.ite ?_ ?_ | refine LeO.bind ?_ fun _ => ?_
  ·intro y0 y1 y2 y3 y4 y5 y6
   unfold impl_GoodCampus.l0
   repeat' first
   | (with_reducible exact ih0 _ _ _ _ _)
   | (with_reducible exact ih1 _ _ _ _ _ _ _)
   | (with_reducible exact impl_allIn.mono _ _ _ _)
   | (with_reducible exact impl_goodCut.mono _ _ _ _)
   | (with_reducible exact impl_rising.mono _ _)
   | with_reducible first | exact LeO.refl _ | exact LeO.none _ | refine LeO.ite ?_ ?_ | refine LeO.bind ?_ fun _ => ?_
theorem impl_GoodCampus.mono : ∀ a0 a1 a2 a3 k, LeO (impl_GoodCampus.f k a0 a1 a2 a3) (impl_GoodCampus.f (k + 1) a0 a1 a2 a3) := by
 intro a0 a1 a2 a3 k
 obtain ⟨ih0, ih1⟩ := impl_GoodCampus.mono_l k
 unfold impl_GoodCampus.f
 repeat' first
   | (with_reducible exact ih0 _ _ _ _ _)
   | (with_reducible exact ih1 _ _ _ _ _ _ _)
   | (with_reducible exact impl_allIn.mono _ _ _ _)
   | (with_reducible exact impl_goodCut.mono _ _ _ _)
   | (with_reducible exact impl_rising.mono _ _)
   | with_reducible first | exact LeO.refl _ | exact LeO.none _ | refine LeO.ite ?_ ?_ | refine LeO.bind ?_ fun _ => ?_
def impl_GoodCampus.T6 : Bool × List (List Nat × List Nat) := (true, [([], []), ([0], [0]), ([1], [1]), ([2], [2]), ([3, 2], [3]), ([4], [4]), ([5, 4], [4, 5]), ([6, 4, 4], [4, 6]), ([7], [7]), ([8, 7], [7, 8]), ([7], [7]), ([10, 7], [7, 10]), ([9, 11, 7], [7, 9, 11]), ([12, 7], [7, 12]), ([13, 7], [7, 13]), ([7], [7]), ([15, 7], [7, 15]), ([14, 16, 7], [7, 14, 16]), ([7, 17, 4], [4, 7, 17]), ([4, 18], [4, 18]), ([19, 7], [19]), ([20], [20]), ([21, 20], [20, 21]), ([20], [20]), ([23, 20], [20, 23]), ([24, 20], [20, 24]), ([22, 25, 20, 20], [20, 22, 25]), ([26, 20], [20, 26]), ([20, 27], [20, 27]), ([28, 26], [28]), ([29], [29]), ([30, 29], [29, 30]), ([31, 29, 29], [29, 31]), ([32, 29], [29, 32]), ([29, 33], [29, 33]), ([34, 32], [34]), ([35], [35]), ([36, 35], [35, 36]), ([37, 35, 35], [35, 37]), ([38, 35], [35, 38]), ([35, 39], [35, 39])])
def impl_GoodCampus.B6 : List Nat := [0, 1, 3, 7, 15, 31, 63, 127, 255, 511, 255, 1279, 4095, 8191, 16383, 255, 33023, 131071, 262143, 524287, 1048575, 2097151, 4194303, 2097151, 10485759, 27262975, 67108863, 134217727, 268435455, 536870911, 1073741823, 2147483647, 4294967295, 8589934591, 17179869183, 34359738367, 68719476735, 137438953471, 274877906943, 549755813887, 1099511627775]
theorem impl_GoodCampus.tab6 : rtab .any (opsOf Try.f57 6) = impl_GoodCampus.T6 := by kernel_rfl
theorem impl_GoodCampus.bits6 : waitsOk impl_GoodCampus.T6.2 impl_GoodCampus.B6 = true := by kernel_rfl
set_option maxHeartbeats 8000000 in
set_option maxRecDepth 100000 in
theorem impl_GoodCampus.calls (k : Nat) (a0_0 : Int) (A0_1 : Option Addr) (c0_1 : Nat) (l0_1 : List (S86)) (A0_2 : Option Addr) (c0_2 : Nat) (l0_2 : List Int) (A0_3 : Option Addr) (c0_3 : Nat) (l0_3 : List (S130)) (r : Bool) (w : World) (hr0_1 : Kd.C k86 w A0_1 l0_1.length l0_1) (hc0_1 : l0_1.length ≤ c0_1) (hr0_2 : Kd.C (Kd.int .i64) w A0_2 l0_2.length l0_2) (hc0_2 : l0_2.length ≤ c0_2) (hr0_3 : Kd.C k130 w A0_3 l0_3.length l0_3) (hc0_3 : l0_3.length ≤ c0_3) (h : impl_GoodCampus.f k a0_0 l0_1 l0_2 l0_3 = some r) :
  Calls Try.prog 57 #[.agg #[.int .i64 a0_0, .slice A0_1 l0_1.length c0_1, .slice A0_2 l0_2.length c0_2, .slice A0_3 l0_3.length c0_3]] w fun e w' => e = .returned (.bool r) ∧ Below w.heap.size w w' := by
 have hu33 := Try.underlying33
 have hu130 := Try.underlying130
 have HR0_1 := Aside0.mk hr0_1
 have HC0_1 := Aside0.mk hc0_1
 clear hr0_1 hc0_1
 have HR0_2 := Aside0.mk hr0_2
 have HC0_2 := Aside0.mk hc0_2
 clear hr0_2 hc0_2
 have HR0_3 := Aside0.mk hr0_3
 have HC0_3 := Aside0.mk hc0_3
 clear hr0_3 hc0_3
 have HB := Aside0.mk (Below.refl w.heap.size w)
 have H : ((impl_goodCut.f k a0_0 l0_1 l0_2).bind fun t213 => (if t213 = true then (impl_GoodCampus.j0 k (decide ((l0_3.length : Int) > 12)) a0_0 l0_1 l0_2 l0_3) else (impl_GoodCampus.j0 k true a0_0 l0_1 l0_2 l0_3))) = some r := h
 clear h
 have HC2 := Aside0.mk H
 clear H
 go_enter Try.func57, Try.ntmps57
 go_upto_region 1 with (first | ((with_reducible refine gate_dst (N := 1) rfl ?_); (try (refine gate_guard (by rfl) ?_; dsimp only)); refine box_event ?hg (N := 1) ?hd (cs := #[.int .i64 a0_0, .slice A0_1 l0_1.length c0_1, .slice A0_2 l0_2.length c0_2, .slice A0_3 l0_3.length c0_3]) (t := 33) ?hr ?_; (case hd => rfl); (case hg => rfl); (case hr => first | (go_simp; done) | (go_simp; rfl)); intro gb212 hg w3 hbox hb; have BK212 := Aside0.mk (hbox); have GW212 := gw_ hg HB; have GE212 := gw_ hg HB; replace HB := bst_ HB hb; clear hb hbox hg))
 (try simp only [Act.put, List.setIfInBounds_toArray, List.set_cons_zero, List.set_cons_succ])
 go_cut [18] (fun v18 wc => ∃ (kq : Nat) (x18_1 : Bool), v18 = .bool x18_1 ∧ Aside0 (impl_GoodCampus.j0 kq x18_1 a0_0 l0_1 l0_2 l0_3 = some r) ∧ Aside0 (kq ≤ k) ∧ Aside0 (wc.heap[gb212]? = some (.cells #[.int .i64 a0_0, (.slice A0_1 l0_1.length c0_1), (.slice A0_2 l0_2.length c0_2), (.slice A0_3 l0_3.length c0_3)] 33 (0, 0))) ∧ Aside0 (Below w.heap.size w wc))
 case first =>
  have H := HC2.out
  clear HC2
  replace H := Option.bind_eq_some_iff.mp H
  obtain ⟨t213, A40, H⟩ := H
  replace H : (if t213 = true then (impl_GoodCampus.j0 k (decide ((l0_3.length : Int) > 12)) a0_0 l0_1 l0_2 l0_3) else (impl_GoodCampus.j0 k true a0_0 l0_1 l0_2 l0_3)) = some r := H
  have A4 := Aside0.mk A40
  clear A40
  by_cases c5 : t213 = true
  rotate_left
  ·replace c5 := Bool.eq_false_iff.mpr c5
   subst c5
   rw [if_neg (show ¬ (false = true) by decide)] at H
   have H' := Aside0.mk H
   clear H
   have hcz9_0 : w3.cell? ⟨gb212, 0, none⟩ = some (.int .i64 a0_0) := bc_ BK212 0
   have hcz9_1 : w3.cell? ⟨gb212, 1, none⟩ = some (.slice A0_1 l0_1.length c0_1) := bc_ BK212 1
   have hcz9_2 : w3.cell? ⟨gb212, 2, none⟩ = some (.slice A0_2 l0_2.length c0_2) := bc_ BK212 2
   have hcz9_3 : w3.cell? ⟨gb212, 3, none⟩ = some (.slice A0_3 l0_3.length c0_3) := bc_ BK212 3
   have hfz9_0 := blk_frozen BK212.out 0
   have hfz9_1 := blk_frozen BK212.out 1
   have hfz9_2 := blk_frozen BK212.out 2
   have hfz9_3 := blk_frozen BK212.out 3
   go_wp2_with (first | (refine goesL_ (some 11) rfl rfl Try.func94 (by kernel_rfl) rfl #[.int .i64 a0_0, .slice A0_1 l0_1.length c0_1, .slice A0_2 l0_2.length c0_2] rfl tm_ ?_; (with_reducible refine (impl_goodCut.calls k a0_0 _ _ l0_1 _ _ l0_2 false _ ?side1 ?side2 ?side3 ?side4 A4.out).mono ?_); (case side1 => exact cb_ HR0_1 HB); (case side2 => exact HC0_1.out); (case side3 => exact cb_ HR0_2 HB); (case side4 => exact HC0_2.out); rintro e w10 ⟨rfl, hb⟩; refine ⟨_, rfl, ?_⟩; replace BK212 := bb_ BK212 hb; replace HB := bst_ HB hb; clear hb))
   go_meet
   case rel => exact ⟨_, (true), (by first | rfl | (simp; done) | (simp [*]; done)), H', ⟨by first | omega | exact Nat.le_refl _⟩, ⟨by (with_reducible repeat (first | refine blk_drewN ?_ _ | refine blk_drew ?_ | refine blk_alloc ?_ _)); exact BK212.out⟩, ⟨hB HB⟩⟩
  subst c5
  rw [if_pos rfl] at H
  have H' := Aside0.mk H
  clear H
  have hcz6_0 : w3.cell? ⟨gb212, 0, none⟩ = some (.int .i64 a0_0) := bc_ BK212 0
  have hcz6_1 : w3.cell? ⟨gb212, 1, none⟩ = some (.slice A0_1 l0_1.length c0_1) := bc_ BK212 1
  have hcz6_2 : w3.cell? ⟨gb212, 2, none⟩ = some (.slice A0_2 l0_2.length c0_2) := bc_ BK212 2
  have hcz6_3 : w3.cell? ⟨gb212, 3, none⟩ = some (.slice A0_3 l0_3.length c0_3) := bc_ BK212 3
  have hfz6_0 := blk_frozen BK212.out 0
  have hfz6_1 := blk_frozen BK212.out 1
  have hfz6_2 := blk_frozen BK212.out 2
  have hfz6_3 := blk_frozen BK212.out 3
  go_wp2_with (first | (refine goesL_ (some 11) rfl rfl Try.func94 (by kernel_rfl) rfl #[.int .i64 a0_0, .slice A0_1 l0_1.length c0_1, .slice A0_2 l0_2.length c0_2] rfl tm_ ?_; (with_reducible refine (impl_goodCut.calls k a0_0 _ _ l0_1 _ _ l0_2 true _ ?side1 ?side2 ?side3 ?side4 A4.out).mono ?_); (case side1 => exact cb_ HR0_1 HB); (case side2 => exact HC0_1.out); (case side3 => exact cb_ HR0_2 HB); (case side4 => exact HC0_2.out); rintro e w7 ⟨rfl, hb⟩; refine ⟨_, rfl, ?_⟩; replace BK212 := bb_ BK212 hb; replace HB := bst_ HB hb; clear hb; obtain ⟨hcz8_0, hcz8_1, hcz8_2, hcz8_3⟩ := bcs4_ BK212))
  go_meet
  case rel => exact ⟨_, (decide ((l0_3.length : Int) > 12)), (by first | rfl | (simp; done) | (simp [*]; done)), H', ⟨by first | omega | exact Nat.le_refl _⟩, ⟨by (with_reducible repeat (first | refine blk_drewN ?_ _ | refine blk_drew ?_ | refine blk_alloc ?_ _)); exact BK212.out⟩, ⟨hB HB⟩⟩
 case rest =>
  clear HC2
  obtain ⟨kq, x18_1, rfl, HA, HJ1, BK212, HB⟩ := hcut
  cases kq with
  | zero => exact absurd HA.out (by simp [impl_GoodCampus.j0])
  | succ kj1 =>
   have H := HA.out
   clear HA
   simp only [impl_GoodCampus.j0] at H
   by_cases c11 : x18_1 = true
   ·subst c11
    rw [if_pos rfl] at H
    obtain rfl := Option.some.inj H
    go_wp2
    go_ret
    exact ⟨rt_, hB HB⟩
   replace c11 := Bool.eq_false_iff.mpr c11
   subst c11
   rw [if_neg (show ¬ (false = true) by decide)] at H
   have H' := Aside0.mk H
   clear H
   have hcz12_0 : wc.cell? ⟨gb212, 0, none⟩ = some (.int .i64 a0_0) := bc_ BK212 0
   have hcz12_1 : wc.cell? ⟨gb212, 1, none⟩ = some (.slice A0_1 l0_1.length c0_1) := bc_ BK212 1
   have hcz12_2 : wc.cell? ⟨gb212, 2, none⟩ = some (.slice A0_2 l0_2.length c0_2) := bc_ BK212 2
   have hcz12_3 : wc.cell? ⟨gb212, 3, none⟩ = some (.slice A0_3 l0_3.length c0_3) := bc_ BK212 3
   have hfz12_0 := blk_frozen BK212.out 0
   have hfz12_1 := blk_frozen BK212.out 1
   have hfz12_2 := blk_frozen BK212.out 2
   have hfz12_3 := blk_frozen BK212.out 3
   go_wp2
   go_loopg [22] kj1 (fun kq v22 w' => ∃ (x22_2 : Int), v22 = .int .i64 x22_2 ∧ Aside0 (impl_GoodCampus.l0 kq l0_3 (l0_3.length : Int) x22_2 a0_0 l0_1 l0_2 l0_3 = some r) ∧ Aside0 (kq ≤ kj1) ∧ Aside0 (w'.heap[gb212]? = some (.cells #[.int .i64 a0_0, (.slice A0_1 l0_1.length c0_1), (.slice A0_2 l0_2.length c0_2), (.slice A0_3 l0_3.length c0_3)] 33 (0, 0))) ∧ Aside0 (Below w.heap.size w w'))
   case atStart => exact ⟨(0), (by first | rfl | (simp; done) | (simp [*]; done)), H', ⟨Nat.le_refl _⟩, ⟨by (with_reducible repeat (first | refine blk_drewN ?_ _ | refine blk_drew ?_ | refine blk_alloc ?_ _)); exact BK212.out⟩, ⟨hB HB⟩⟩
   case round =>
    clear H'
    try clear c11
    try clear hcz12_0
    try clear hcz12_1
    try clear hcz12_2
    try clear hcz12_3
    try clear hfz12_0
    try clear hfz12_1
    try clear hfz12_2
    try clear hfz12_3
    obtain ⟨x22_2, rfl, HA, HK2, BK212, HB⟩ := hrel
    cases gk with
    | zero => exact absurd HA.out (by simp [impl_GoodCampus.l0])
    | succ k2 =>
     have H := HA.out
     clear HA
     simp only [impl_GoodCampus.l0] at H
     by_cases c13 : x22_2 < (l0_3.length : Int)
     rotate_left
     ·rw [if_neg c13] at H
      have c13b0 : decide (x22_2 < (l0_3.length : Int)) = false := decide_eq_false c13
      clear c13
      obtain rfl := Option.some.inj H
      go_wp2
      go_ret
      exact ⟨rt_, hB HB⟩
     rw [if_pos c13] at H
     have c13b0 : decide (x22_2 < (l0_3.length : Int)) = true := decide_eq_true c13
     clear c13
     by_cases c14 : 0 ≤ x22_2
     rotate_left
     ·rw [if_neg c14] at H
      exact absurd H (by simp)
     rw [if_pos c14] at H
     have c14b0 : decide (0 ≤ x22_2) = true := decide_eq_true c14
     clear c14
     by_cases c15 : x22_2 < (l0_3.length : Int)
     rotate_left
     ·rw [if_neg c15] at H
      exact absurd H (by simp)
     rw [if_pos c15] at H
     have c15b0 : decide (x22_2 < (l0_3.length : Int)) = true := decide_eq_true c15
     clear c15
     replace H := Option.bind_eq_some_iff.mp H
     obtain ⟨t216, A160, H⟩ := H
     replace H : (if t216 = true then (if x22_2 > 0 then (if 0 ≤ (wrap64 (x22_2 - 1)) then (if (wrap64 (x22_2 - 1)) < (l0_3.length : Int) then (if ((rd_T130 l0_3 (wrap64 (x22_2 - 1))).f0) ≥ ((rd_T130 l0_3 x22_2).f0) then (some false) else ((impl_in.f ((rd_T130 l0_3 x22_2).f1) 0 (wrap64 (a0_0 - 1))).bind fun t218 => (if t218 = true then ((impl_rising.f k2 ((rd_T130 l0_3 x22_2).f2)).bind fun t219 => (if t219 = true then ((impl_allIn.f k2 ((rd_T130 l0_3 x22_2).f2) 1 20).bind fun t220 => (if t220 = true then (impl_GoodCampus.l0 k2 l0_3 (l0_3.length : Int) (wrap64 (x22_2 + 1)) a0_0 l0_1 l0_2 l0_3) else (some false))) else (some false))) else (some false)))) else (none)) else (none)) else ((impl_in.f ((rd_T130 l0_3 x22_2).f1) 0 (wrap64 (a0_0 - 1))).bind fun t221 => (if t221 = true then ((impl_rising.f k2 ((rd_T130 l0_3 x22_2).f2)).bind fun t222 => (if t222 = true then ((impl_allIn.f k2 ((rd_T130 l0_3 x22_2).f2) 1 20).bind fun t223 => (if t223 = true then (impl_GoodCampus.l0 k2 l0_3 (l0_3.length : Int) (wrap64 (x22_2 + 1)) a0_0 l0_1 l0_2 l0_3) else (some false))) else (some false))) else (some false)))) else (some false)) = some r := H
     have A16 := Aside0.mk A160
     clear A160
     by_cases c17 : t216 = true
     rotate_left
     ·replace c17 := Bool.eq_false_iff.mpr c17
      subst c17
      rw [if_neg (show ¬ (false = true) by decide)] at H
      obtain rfl := Option.some.inj H
      have p214 : 0 ≤ (x22_2 : Int) := od_
      have q214 : x22_2 < (l0_3.length : Int) := od_
      obtain ⟨ad214, A214_2, c214_2, e214, hx214_0, hx214_1, hx214_2, hl214_2, hi214_2⟩ := at_T130 HR0_3.out x22_2 p214 q214
      cases e214
      replace hx214_0 := hc_ HB hx214_0
      replace hx214_1 := hc_ HB hx214_1
      replace hx214_2 := hc_ HB hx214_2
      have HR214_2 := Aside0.mk hi214_2
      have HC214_2 := Aside0.mk hl214_2
      clear hi214_2 hl214_2
      replace p214 := eq_true p214
      replace q214 := eq_true q214
      try go_wp2_with (first | ((with_reducible refine gate_dst (N := 4) rfl ?_); (try (refine gate_guard (by rfl) ?_; dsimp only)); refine box_event ?hg (N := 4) ?hd (cs := #[.int .i64 0, .int .i64 0, .slice none 0 0]) (t := 130) ?hr ?_; (case hd => rfl); (case hg => rfl); (case hr => first | (go_simp; done) | (go_simp; rfl)); intro gb215 hg w80 hbox hb; have BK215 := Aside0.mk (hbox); have GW215 := gw_ hg HB; have GE215 := gw_ hg HB; have NB212_215 := nl_ hg BK212; have NB215_212 := ng_ hg BK212; replace BK212 := bb_ BK212 hb; replace HB := bst_ HB hb; clear hb hbox hg; have hnb81 := NB215_212.out; have hnc81 := NB212_215.out; obtain ⟨hcz82_0, hcz82_1, hcz82_2⟩ := bcs3_ BK215; have hfz82_0 := blk_frozen BK215.out 0; have hfz82_1 := blk_frozen BK215.out 1; have hfz82_2 := blk_frozen BK215.out 2))
      have n0_ : Aside0 ((((w80.setCell ⟨gb215, 0, none⟩ (.int .i64 ((rd_T130 l0_3 x22_2).f0))).setCell ⟨gb215, 1, none⟩ (.int .i64 ((rd_T130 l0_3 x22_2).f1))).setCell ⟨gb215, 2, none⟩ (.slice A214_2 ((rd_T130 l0_3 x22_2).f2).length c214_2)).heap[gb212]? = some (.cells #[.int .i64 a0_0, .slice A0_1 l0_1.length c0_1, .slice A0_2 l0_2.length c0_2, .slice (some ad214) l0_3.length c0_3] 33 (0, 0))) := ⟨by (with_reducible repeat (first | refine blk_drewN ?_ _ | refine blk_drew ?_ | refine blk_alloc ?_ _)); refine blk_far ?_ NB212_215.out _; (with_reducible repeat (first | refine blk_drewN ?_ _ | refine blk_drew ?_ | refine blk_alloc ?_ _)); refine blk_far ?_ NB212_215.out _; (with_reducible repeat (first | refine blk_drewN ?_ _ | refine blk_drew ?_ | refine blk_alloc ?_ _)); refine blk_far ?_ NB212_215.out _; (with_reducible repeat (first | refine blk_drewN ?_ _ | refine blk_drew ?_ | refine blk_alloc ?_ _)); exact BK212.out⟩
      have n1_ : Aside0 ((((w80.setCell ⟨gb215, 0, none⟩ (.int .i64 ((rd_T130 l0_3 x22_2).f0))).setCell ⟨gb215, 1, none⟩ (.int .i64 ((rd_T130 l0_3 x22_2).f1))).setCell ⟨gb215, 2, none⟩ (.slice A214_2 ((rd_T130 l0_3 x22_2).f2).length c214_2)).heap[gb215]? = some (.cells #[.int .i64 ((rd_T130 l0_3 x22_2).f0), .int .i64 ((rd_T130 l0_3 x22_2).f1), .slice A214_2 ((rd_T130 l0_3 x22_2).f2).length c214_2] 130 (0, 0))) := ⟨by (with_reducible repeat (first | refine blk_drewN ?_ _ | refine blk_drew ?_ | refine blk_alloc ?_ _)); refine blk_put (cs := #[.int .i64 ((rd_T130 l0_3 x22_2).f0), .int .i64 ((rd_T130 l0_3 x22_2).f1), .slice none 0 0]) ?_ 2 _ rfl; (with_reducible repeat (first | refine blk_drewN ?_ _ | refine blk_drew ?_ | refine blk_alloc ?_ _)); refine blk_put (cs := #[.int .i64 ((rd_T130 l0_3 x22_2).f0), .int .i64 0, .slice none 0 0]) ?_ 1 _ rfl; (with_reducible repeat (first | refine blk_drewN ?_ _ | refine blk_drew ?_ | refine blk_alloc ?_ _)); refine blk_put (cs := #[.int .i64 0, .int .i64 0, .slice none 0 0]) ?_ 0 _ rfl; (with_reducible repeat (first | refine blk_drewN ?_ _ | refine blk_drew ?_ | refine blk_alloc ?_ _)); exact BK215.out⟩
      have n2_ : Aside0 (Below w.heap.size w (((w80.setCell ⟨gb215, 0, none⟩ (.int .i64 ((rd_T130 l0_3 x22_2).f0))).setCell ⟨gb215, 1, none⟩ (.int .i64 ((rd_T130 l0_3 x22_2).f1))).setCell ⟨gb215, 2, none⟩ (.slice A214_2 ((rd_T130 l0_3 x22_2).f2).length c214_2))) := ⟨hB HB⟩
      (try clear BK212)
      (try clear BK215)
      (try clear HB)
      generalize (((w80.setCell ⟨gb215, 0, none⟩ (.int .i64 ((rd_T130 l0_3 x22_2).f0))).setCell ⟨gb215, 1, none⟩ (.int .i64 ((rd_T130 l0_3 x22_2).f1))).setCell ⟨gb215, 2, none⟩ (.slice A214_2 ((rd_T130 l0_3 x22_2).f2).length c214_2)) = w83 at n0_ n1_ n2_ ⊢
      have BK212 := n0_
      have BK215 := n1_
      have HB := n2_
      clear n0_ n1_ n2_
      replace BK212 := bd_ BK212
      replace BK215 := bd_ BK215
      replace HB := Aside0.mk (below_drew1 HB.out)
      refine start_ (n := 41) (S := fun w' => w'.cell? ⟨gb215, 0, none⟩ = some (.int .i64 ((rd_T130 l0_3 x22_2).f0)) ∧ w'.cell? ⟨gb215, 1, none⟩ = some (.int .i64 ((rd_T130 l0_3 x22_2).f1)) ∧ w'.cell? ⟨gb215, 2, none⟩ = some (.slice A214_2 ((rd_T130 l0_3 x22_2).f2).length c214_2)) (ds := []) (bs 41 0) (by kernel_rfl) rfl rfl ⟨bc_ BK215 0, bc_ BK215 1, bc_ BK215 2⟩ (fun hHeld => ?_); refine with_tabW impl_GoodCampus.tab6 impl_GoodCampus.bits6 (fun HT_ HW_ => ?_)
      generalize w83.drew = w84 at BK212 BK215 HB hHeld ⊢
      refine pu_ 0 27 (bs 41 1) HT_ ?_
      refine tk_ 1 28 (bs 41 3) HT_ HW_ hHeld ?_
      refine on_ 2 (some 29) (bs 41 7) HT_ (fun K hK => ?_)
      refine goes_ Try.func95 (by kernel_rfl) rfl #[.int .i64 ((rd_T130 l0_3 x22_2).f0)] (by rfl) rfl rfl tm_ ?_
      with_reducible refine (impl_isHost.calls ((rd_T130 l0_3 x22_2).f0) false _ A16.out).mono ?_
      rintro e w' ⟨rfl, ⟨nd, rfl⟩⟩
      refine ⟨_, rfl, ?_⟩
      refine hK.out _ _ ⟨bc_ BK215 0, bc_ BK215 1, bc_ BK215 2⟩ (fun hHeld => ?_)
      clear hK K
      refine nm_ 29 ?_
      refine pu_ 3 30 (bs 41 15) HT_ ?_
      refine pu_ 4 31 (bs 41 31) HT_ ?_
      refine pn_ 5 32 (bs 41 63) HT_ ?_
      refine pn_ 6 33 (bs 41 127) HT_ ?_
      refine pn_ 7 34 (bs 41 255) HT_ ?_
      refine pn_ 8 35 (bs 41 511) HT_ ?_
      refine pn_ 9 36 (bs 41 1023) HT_ ?_
      refine pn_ 10 37 (bs 41 2047) HT_ ?_
      refine pn_ 11 38 (bs 41 4095) HT_ ?_
      refine pn_ 12 39 (bs 41 8191) HT_ ?_
      refine pn_ 13 40 (bs 41 16383) HT_ ?_
      refine pn_ 14 41 (bs 41 32767) HT_ ?_
      refine pn_ 15 42 (bs 41 65535) HT_ ?_
      refine pn_ 16 43 (bs 41 131071) HT_ ?_
      refine pn_ 17 44 (bs 41 262143) HT_ ?_
      refine pn_ 18 45 (bs 41 524287) HT_ ?_
      refine pu_ 19 46 (bs 41 1048575) HT_ ?_
      refine pu_ 20 47 (bs 41 2097151) HT_ ?_
      refine pn_ 21 48 (bs 41 4194303) HT_ ?_
      refine pn_ 22 49 (bs 41 8388607) HT_ ?_
      refine pn_ 23 50 (bs 41 16777215) HT_ ?_
      refine pn_ 24 51 (bs 41 33554431) HT_ ?_
      refine pn_ 25 52 (bs 41 67108863) HT_ ?_
      refine pn_ 26 53 (bs 41 134217727) HT_ ?_
      refine pn_ 27 54 (bs 41 268435455) HT_ ?_
      refine pu_ 28 55 (bs 41 536870911) HT_ ?_
      refine pu_ 29 56 (bs 41 1073741823) HT_ ?_
      refine pn_ 30 57 (bs 41 2147483647) HT_ ?_
      refine pn_ 31 58 (bs 41 4294967295) HT_ ?_
      refine pn_ 32 59 (bs 41 8589934591) HT_ ?_
      refine pn_ 33 60 (bs 41 17179869183) HT_ ?_
      refine pu_ 34 61 (bs 41 34359738367) HT_ ?_
      refine pu_ 35 62 (bs 41 68719476735) HT_ ?_
      refine pn_ 36 63 (bs 41 137438953471) HT_ ?_
      refine pn_ 37 64 (bs 41 274877906943) HT_ ?_
      refine pn_ 38 65 (bs 41 549755813887) HT_ ?_
      refine pn_ 39 66 (bs 41 1099511627775) HT_ ?_
      refine pu_ 40 67 (bs 41 2199023255551) HT_ ?_
      refine done_ (done_of HT_.out (by kernel_rfl)) ?_
      try go_wp2
      go_ret
      exact ⟨rt_, hB HB⟩
     subst c17
     rw [if_pos rfl] at H
     by_cases c18 : x22_2 > 0
     rotate_left
     ·rw [if_neg c18] at H
      have c18b0 : decide (0 < x22_2) = false := decide_eq_false c18
      clear c18
      replace H := Option.bind_eq_some_iff.mp H
      obtain ⟨t221, A540, H⟩ := H
      replace H : (if t221 = true then ((impl_rising.f k2 ((rd_T130 l0_3 x22_2).f2)).bind fun t222 => (if t222 = true then ((impl_allIn.f k2 ((rd_T130 l0_3 x22_2).f2) 1 20).bind fun t223 => (if t223 = true then (impl_GoodCampus.l0 k2 l0_3 (l0_3.length : Int) (wrap64 (x22_2 + 1)) a0_0 l0_1 l0_2 l0_3) else (some false))) else (some false))) else (some false)) = some r := H
      have A54 := Aside0.mk A540
      clear A540
      by_cases c55 : t221 = true
      rotate_left
      ·replace c55 := Bool.eq_false_iff.mpr c55
       subst c55
       rw [if_neg (show ¬ (false = true) by decide)] at H
       obtain rfl := Option.some.inj H
       have p214 : 0 ≤ (x22_2 : Int) := od_
       have q214 : x22_2 < (l0_3.length : Int) := od_
       obtain ⟨ad214, A214_2, c214_2, e214, hx214_0, hx214_1, hx214_2, hl214_2, hi214_2⟩ := at_T130 HR0_3.out x22_2 p214 q214
       cases e214
       replace hx214_0 := hc_ HB hx214_0
       replace hx214_1 := hc_ HB hx214_1
       replace hx214_2 := hc_ HB hx214_2
       have HR214_2 := Aside0.mk hi214_2
       have HC214_2 := Aside0.mk hl214_2
       clear hi214_2 hl214_2
       replace p214 := eq_true p214
       replace q214 := eq_true q214
       try go_wp2_with (first | ((with_reducible refine gate_dst (N := 4) rfl ?_); (try (refine gate_guard (by rfl) ?_; dsimp only)); refine box_event ?hg (N := 4) ?hd (cs := #[.int .i64 0, .int .i64 0, .slice none 0 0]) (t := 130) ?hr ?_; (case hd => rfl); (case hg => rfl); (case hr => first | (go_simp; done) | (go_simp; rfl)); intro gb215 hg w75 hbox hb; have BK215 := Aside0.mk (hbox); have GW215 := gw_ hg HB; have GE215 := gw_ hg HB; have NB212_215 := nl_ hg BK212; have NB215_212 := ng_ hg BK212; replace BK212 := bb_ BK212 hb; replace HB := bst_ HB hb; clear hb hbox hg; have hnb76 := NB215_212.out; have hnc76 := NB212_215.out; obtain ⟨hcz77_0, hcz77_1, hcz77_2⟩ := bcs3_ BK215; have hfz77_0 := blk_frozen BK215.out 0; have hfz77_1 := blk_frozen BK215.out 1; have hfz77_2 := blk_frozen BK215.out 2))
       have n0_ : Aside0 ((((w75.setCell ⟨gb215, 0, none⟩ (.int .i64 ((rd_T130 l0_3 x22_2).f0))).setCell ⟨gb215, 1, none⟩ (.int .i64 ((rd_T130 l0_3 x22_2).f1))).setCell ⟨gb215, 2, none⟩ (.slice A214_2 ((rd_T130 l0_3 x22_2).f2).length c214_2)).heap[gb212]? = some (.cells #[.int .i64 a0_0, .slice A0_1 l0_1.length c0_1, .slice A0_2 l0_2.length c0_2, .slice (some ad214) l0_3.length c0_3] 33 (0, 0))) := ⟨by (with_reducible repeat (first | refine blk_drewN ?_ _ | refine blk_drew ?_ | refine blk_alloc ?_ _)); refine blk_far ?_ NB212_215.out _; (with_reducible repeat (first | refine blk_drewN ?_ _ | refine blk_drew ?_ | refine blk_alloc ?_ _)); refine blk_far ?_ NB212_215.out _; (with_reducible repeat (first | refine blk_drewN ?_ _ | refine blk_drew ?_ | refine blk_alloc ?_ _)); refine blk_far ?_ NB212_215.out _; (with_reducible repeat (first | refine blk_drewN ?_ _ | refine blk_drew ?_ | refine blk_alloc ?_ _)); exact BK212.out⟩
       have n1_ : Aside0 ((((w75.setCell ⟨gb215, 0, none⟩ (.int .i64 ((rd_T130 l0_3 x22_2).f0))).setCell ⟨gb215, 1, none⟩ (.int .i64 ((rd_T130 l0_3 x22_2).f1))).setCell ⟨gb215, 2, none⟩ (.slice A214_2 ((rd_T130 l0_3 x22_2).f2).length c214_2)).heap[gb215]? = some (.cells #[.int .i64 ((rd_T130 l0_3 x22_2).f0), .int .i64 ((rd_T130 l0_3 x22_2).f1), .slice A214_2 ((rd_T130 l0_3 x22_2).f2).length c214_2] 130 (0, 0))) := ⟨by (with_reducible repeat (first | refine blk_drewN ?_ _ | refine blk_drew ?_ | refine blk_alloc ?_ _)); refine blk_put (cs := #[.int .i64 ((rd_T130 l0_3 x22_2).f0), .int .i64 ((rd_T130 l0_3 x22_2).f1), .slice none 0 0]) ?_ 2 _ rfl; (with_reducible repeat (first | refine blk_drewN ?_ _ | refine blk_drew ?_ | refine blk_alloc ?_ _)); refine blk_put (cs := #[.int .i64 ((rd_T130 l0_3 x22_2).f0), .int .i64 0, .slice none 0 0]) ?_ 1 _ rfl; (with_reducible repeat (first | refine blk_drewN ?_ _ | refine blk_drew ?_ | refine blk_alloc ?_ _)); refine blk_put (cs := #[.int .i64 0, .int .i64 0, .slice none 0 0]) ?_ 0 _ rfl; (with_reducible repeat (first | refine blk_drewN ?_ _ | refine blk_drew ?_ | refine blk_alloc ?_ _)); exact BK215.out⟩
       have n2_ : Aside0 (Below w.heap.size w (((w75.setCell ⟨gb215, 0, none⟩ (.int .i64 ((rd_T130 l0_3 x22_2).f0))).setCell ⟨gb215, 1, none⟩ (.int .i64 ((rd_T130 l0_3 x22_2).f1))).setCell ⟨gb215, 2, none⟩ (.slice A214_2 ((rd_T130 l0_3 x22_2).f2).length c214_2))) := ⟨hB HB⟩
       (try clear BK212)
       (try clear BK215)
       (try clear HB)
       generalize (((w75.setCell ⟨gb215, 0, none⟩ (.int .i64 ((rd_T130 l0_3 x22_2).f0))).setCell ⟨gb215, 1, none⟩ (.int .i64 ((rd_T130 l0_3 x22_2).f1))).setCell ⟨gb215, 2, none⟩ (.slice A214_2 ((rd_T130 l0_3 x22_2).f2).length c214_2)) = w78 at n0_ n1_ n2_ ⊢
       have BK212 := n0_
       have BK215 := n1_
       have HB := n2_
       clear n0_ n1_ n2_
       replace BK212 := bd_ BK212
       replace BK215 := bd_ BK215
       replace HB := Aside0.mk (below_drew1 HB.out)
       refine start_ (n := 41) (S := fun w' => w'.cell? ⟨gb215, 0, none⟩ = some (.int .i64 ((rd_T130 l0_3 x22_2).f0)) ∧ w'.cell? ⟨gb215, 1, none⟩ = some (.int .i64 ((rd_T130 l0_3 x22_2).f1)) ∧ w'.cell? ⟨gb215, 2, none⟩ = some (.slice A214_2 ((rd_T130 l0_3 x22_2).f2).length c214_2) ∧ w'.cell? ⟨gb212, 0, none⟩ = some (.int .i64 a0_0) ∧ w'.cell? ⟨gb212, 1, none⟩ = some (.slice A0_1 l0_1.length c0_1) ∧ w'.cell? ⟨gb212, 2, none⟩ = some (.slice A0_2 l0_2.length c0_2) ∧ w'.cell? ⟨gb212, 3, none⟩ = some (.slice (some ad214) l0_3.length c0_3)) (ds := []) (bs 41 0) (by kernel_rfl) rfl rfl ⟨bc_ BK215 0, bc_ BK215 1, bc_ BK215 2, bc_ BK212 0, bc_ BK212 1, bc_ BK212 2, bc_ BK212 3⟩ (fun hHeld => ?_); refine with_tabW impl_GoodCampus.tab6 impl_GoodCampus.bits6 (fun HT_ HW_ => ?_)
       generalize w78.drew = w79 at BK212 BK215 HB hHeld ⊢
       refine pu_ 0 27 (bs 41 1) HT_ ?_
       refine tk_ 1 28 (bs 41 3) HT_ HW_ hHeld ?_
       refine on_ 2 (some 29) (bs 41 7) HT_ (fun K hK => ?_)
       refine goes_ Try.func95 (by kernel_rfl) rfl #[.int .i64 ((rd_T130 l0_3 x22_2).f0)] (by rfl) rfl rfl tm_ ?_
       with_reducible refine (impl_isHost.calls ((rd_T130 l0_3 x22_2).f0) true _ A16.out).mono ?_
       rintro e w' ⟨rfl, ⟨nd, rfl⟩⟩
       refine ⟨_, rfl, ?_⟩
       refine hK.out _ _ ⟨bc_ BK215 0, bc_ BK215 1, bc_ BK215 2, bc_ BK212 0, bc_ BK212 1, bc_ BK212 2, bc_ BK212 3⟩ (fun hHeld => ?_)
       clear hK K
       refine nm_ 29 ?_
       refine pu_ 3 30 (bs 41 15) HT_ ?_
       refine pu_ 4 31 (bs 41 31) HT_ ?_
       refine pu_ 5 32 (bs 41 63) HT_ ?_
       refine pu_ 6 33 (bs 41 127) HT_ ?_
       refine pu_ 7 34 (bs 41 255) HT_ ?_
       refine pn_ 8 35 (bs 41 511) HT_ ?_
       refine pn_ 9 36 (bs 41 1023) HT_ ?_
       refine pn_ 10 37 (bs 41 2047) HT_ ?_
       refine pn_ 11 38 (bs 41 4095) HT_ ?_
       refine pn_ 12 39 (bs 41 8191) HT_ ?_
       refine pn_ 13 40 (bs 41 16383) HT_ ?_
       refine pn_ 14 41 (bs 41 32767) HT_ ?_
       refine pn_ 15 42 (bs 41 65535) HT_ ?_
       refine pn_ 16 43 (bs 41 131071) HT_ ?_
       refine pn_ 17 44 (bs 41 262143) HT_ ?_
       refine pu_ 18 45 (bs 41 524287) HT_ ?_
       refine pu_ 19 46 (bs 41 1048575) HT_ ?_
       refine pu_ 20 47 (bs 41 2097151) HT_ ?_
       refine pu_ 21 48 (bs 41 4194303) HT_ ?_
       refine pu_ 23 50 (bs 41 12582911) HT_ ?_
       refine tk_ 22 49 (bs 41 16777215) HT_ HW_ hHeld ?_
       refine tk_ 24 51 (bs 41 33554431) HT_ HW_ hHeld ?_
       refine pu_ 25 52 (bs 41 67108863) HT_ ?_
       refine on_ 26 (some 53) (bs 41 134217727) HT_ (fun K hK => ?_)
       refine goes_ Try.func96 (by kernel_rfl) rfl #[.int .i64 ((rd_T130 l0_3 x22_2).f1), .int .i64 0, .int .i64 (wrap64 (a0_0 - 1))] (by rfl) rfl rfl tm_ ?_
       with_reducible refine (impl_in.calls ((rd_T130 l0_3 x22_2).f1) 0 (wrap64 (a0_0 - 1)) false _ A54.out).mono ?_
       rintro e w' ⟨rfl, ⟨nd, rfl⟩⟩
       refine ⟨_, rfl, ?_⟩
       refine hK.out _ _ ⟨bc_ BK215 0, bc_ BK215 1, bc_ BK215 2, bc_ BK212 0, bc_ BK212 1, bc_ BK212 2, bc_ BK212 3⟩ (fun hHeld => ?_)
       clear hK K
       refine nm_ 53 ?_
       refine pu_ 27 54 (bs 41 268435455) HT_ ?_
       refine pu_ 28 55 (bs 41 536870911) HT_ ?_
       refine pu_ 29 56 (bs 41 1073741823) HT_ ?_
       refine pn_ 30 57 (bs 41 2147483647) HT_ ?_
       refine pn_ 31 58 (bs 41 4294967295) HT_ ?_
       refine pn_ 32 59 (bs 41 8589934591) HT_ ?_
       refine pn_ 33 60 (bs 41 17179869183) HT_ ?_
       refine pu_ 34 61 (bs 41 34359738367) HT_ ?_
       refine pu_ 35 62 (bs 41 68719476735) HT_ ?_
       refine pn_ 36 63 (bs 41 137438953471) HT_ ?_
       refine pn_ 37 64 (bs 41 274877906943) HT_ ?_
       refine pn_ 38 65 (bs 41 549755813887) HT_ ?_
       refine pn_ 39 66 (bs 41 1099511627775) HT_ ?_
       refine pu_ 40 67 (bs 41 2199023255551) HT_ ?_
       refine done_ (done_of HT_.out (by kernel_rfl)) ?_
       try go_wp2
       go_ret
       exact ⟨rt_, hB HB⟩
      subst c55
      rw [if_pos rfl] at H
      replace H := Option.bind_eq_some_iff.mp H
      obtain ⟨t222, A560, H⟩ := H
      replace H : (if t222 = true then ((impl_allIn.f k2 ((rd_T130 l0_3 x22_2).f2) 1 20).bind fun t223 => (if t223 = true then (impl_GoodCampus.l0 k2 l0_3 (l0_3.length : Int) (wrap64 (x22_2 + 1)) a0_0 l0_1 l0_2 l0_3) else (some false))) else (some false)) = some r := H
      have A56 := Aside0.mk A560
      clear A560
      by_cases c57 : t222 = true
      rotate_left
      ·replace c57 := Bool.eq_false_iff.mpr c57
       subst c57
       rw [if_neg (show ¬ (false = true) by decide)] at H
       obtain rfl := Option.some.inj H
       have p214 : 0 ≤ (x22_2 : Int) := od_
       have q214 : x22_2 < (l0_3.length : Int) := od_
       obtain ⟨ad214, A214_2, c214_2, e214, hx214_0, hx214_1, hx214_2, hl214_2, hi214_2⟩ := at_T130 HR0_3.out x22_2 p214 q214
       cases e214
       replace hx214_0 := hc_ HB hx214_0
       replace hx214_1 := hc_ HB hx214_1
       replace hx214_2 := hc_ HB hx214_2
       have HR214_2 := Aside0.mk hi214_2
       have HC214_2 := Aside0.mk hl214_2
       clear hi214_2 hl214_2
       replace p214 := eq_true p214
       replace q214 := eq_true q214
       try go_wp2_with (first | ((with_reducible refine gate_dst (N := 4) rfl ?_); (try (refine gate_guard (by rfl) ?_; dsimp only)); refine box_event ?hg (N := 4) ?hd (cs := #[.int .i64 0, .int .i64 0, .slice none 0 0]) (t := 130) ?hr ?_; (case hd => rfl); (case hg => rfl); (case hr => first | (go_simp; done) | (go_simp; rfl)); intro gb215 hg w70 hbox hb; have BK215 := Aside0.mk (hbox); have GW215 := gw_ hg HB; have GE215 := gw_ hg HB; have NB212_215 := nl_ hg BK212; have NB215_212 := ng_ hg BK212; replace BK212 := bb_ BK212 hb; replace HB := bst_ HB hb; clear hb hbox hg; have hnb71 := NB215_212.out; have hnc71 := NB212_215.out; obtain ⟨hcz72_0, hcz72_1, hcz72_2⟩ := bcs3_ BK215; have hfz72_0 := blk_frozen BK215.out 0; have hfz72_1 := blk_frozen BK215.out 1; have hfz72_2 := blk_frozen BK215.out 2))
       have n0_ : Aside0 ((((w70.setCell ⟨gb215, 0, none⟩ (.int .i64 ((rd_T130 l0_3 x22_2).f0))).setCell ⟨gb215, 1, none⟩ (.int .i64 ((rd_T130 l0_3 x22_2).f1))).setCell ⟨gb215, 2, none⟩ (.slice A214_2 ((rd_T130 l0_3 x22_2).f2).length c214_2)).heap[gb212]? = some (.cells #[.int .i64 a0_0, .slice A0_1 l0_1.length c0_1, .slice A0_2 l0_2.length c0_2, .slice (some ad214) l0_3.length c0_3] 33 (0, 0))) := ⟨by (with_reducible repeat (first | refine blk_drewN ?_ _ | refine blk_drew ?_ | refine blk_alloc ?_ _)); refine blk_far ?_ NB212_215.out _; (with_reducible repeat (first | refine blk_drewN ?_ _ | refine blk_drew ?_ | refine blk_alloc ?_ _)); refine blk_far ?_ NB212_215.out _; (with_reducible repeat (first | refine blk_drewN ?_ _ | refine blk_drew ?_ | refine blk_alloc ?_ _)); refine blk_far ?_ NB212_215.out _; (with_reducible repeat (first | refine blk_drewN ?_ _ | refine blk_drew ?_ | refine blk_alloc ?_ _)); exact BK212.out⟩
       have n1_ : Aside0 ((((w70.setCell ⟨gb215, 0, none⟩ (.int .i64 ((rd_T130 l0_3 x22_2).f0))).setCell ⟨gb215, 1, none⟩ (.int .i64 ((rd_T130 l0_3 x22_2).f1))).setCell ⟨gb215, 2, none⟩ (.slice A214_2 ((rd_T130 l0_3 x22_2).f2).length c214_2)).heap[gb215]? = some (.cells #[.int .i64 ((rd_T130 l0_3 x22_2).f0), .int .i64 ((rd_T130 l0_3 x22_2).f1), .slice A214_2 ((rd_T130 l0_3 x22_2).f2).length c214_2] 130 (0, 0))) := ⟨by (with_reducible repeat (first | refine blk_drewN ?_ _ | refine blk_drew ?_ | refine blk_alloc ?_ _)); refine blk_put (cs := #[.int .i64 ((rd_T130 l0_3 x22_2).f0), .int .i64 ((rd_T130 l0_3 x22_2).f1), .slice none 0 0]) ?_ 2 _ rfl; (with_reducible repeat (first | refine blk_drewN ?_ _ | refine blk_drew ?_ | refine blk_alloc ?_ _)); refine blk_put (cs := #[.int .i64 ((rd_T130 l0_3 x22_2).f0), .int .i64 0, .slice none 0 0]) ?_ 1 _ rfl; (with_reducible repeat (first | refine blk_drewN ?_ _ | refine blk_drew ?_ | refine blk_alloc ?_ _)); refine blk_put (cs := #[.int .i64 0, .int .i64 0, .slice none 0 0]) ?_ 0 _ rfl; (with_reducible repeat (first | refine blk_drewN ?_ _ | refine blk_drew ?_ | refine blk_alloc ?_ _)); exact BK215.out⟩
       have n2_ : Aside0 (Below w.heap.size w (((w70.setCell ⟨gb215, 0, none⟩ (.int .i64 ((rd_T130 l0_3 x22_2).f0))).setCell ⟨gb215, 1, none⟩ (.int .i64 ((rd_T130 l0_3 x22_2).f1))).setCell ⟨gb215, 2, none⟩ (.slice A214_2 ((rd_T130 l0_3 x22_2).f2).length c214_2))) := ⟨hB HB⟩
       (try clear BK212)
       (try clear BK215)
       (try clear HB)
       generalize (((w70.setCell ⟨gb215, 0, none⟩ (.int .i64 ((rd_T130 l0_3 x22_2).f0))).setCell ⟨gb215, 1, none⟩ (.int .i64 ((rd_T130 l0_3 x22_2).f1))).setCell ⟨gb215, 2, none⟩ (.slice A214_2 ((rd_T130 l0_3 x22_2).f2).length c214_2)) = w73 at n0_ n1_ n2_ ⊢
       have BK212 := n0_
       have BK215 := n1_
       have HB := n2_
       clear n0_ n1_ n2_
       replace BK212 := bd_ BK212
       replace BK215 := bd_ BK215
       replace HB := Aside0.mk (below_drew1 HB.out)
       refine start_ (n := 41) (S := fun w' => w'.cell? ⟨gb215, 0, none⟩ = some (.int .i64 ((rd_T130 l0_3 x22_2).f0)) ∧ w'.cell? ⟨gb215, 1, none⟩ = some (.int .i64 ((rd_T130 l0_3 x22_2).f1)) ∧ w'.cell? ⟨gb215, 2, none⟩ = some (.slice A214_2 ((rd_T130 l0_3 x22_2).f2).length c214_2) ∧ w'.cell? ⟨gb212, 0, none⟩ = some (.int .i64 a0_0) ∧ w'.cell? ⟨gb212, 1, none⟩ = some (.slice A0_1 l0_1.length c0_1) ∧ w'.cell? ⟨gb212, 2, none⟩ = some (.slice A0_2 l0_2.length c0_2) ∧ w'.cell? ⟨gb212, 3, none⟩ = some (.slice (some ad214) l0_3.length c0_3)) (ds := []) (bs 41 0) (by kernel_rfl) rfl rfl ⟨bc_ BK215 0, bc_ BK215 1, bc_ BK215 2, bc_ BK212 0, bc_ BK212 1, bc_ BK212 2, bc_ BK212 3⟩ (fun hHeld => ?_); refine with_tabW impl_GoodCampus.tab6 impl_GoodCampus.bits6 (fun HT_ HW_ => ?_)
       generalize w73.drew = w74 at BK212 BK215 HB hHeld ⊢
       refine pu_ 0 27 (bs 41 1) HT_ ?_
       refine tk_ 1 28 (bs 41 3) HT_ HW_ hHeld ?_
       refine on_ 2 (some 29) (bs 41 7) HT_ (fun K hK => ?_)
       refine goes_ Try.func95 (by kernel_rfl) rfl #[.int .i64 ((rd_T130 l0_3 x22_2).f0)] (by rfl) rfl rfl tm_ ?_
       with_reducible refine (impl_isHost.calls ((rd_T130 l0_3 x22_2).f0) true _ A16.out).mono ?_
       rintro e w' ⟨rfl, ⟨nd, rfl⟩⟩
       refine ⟨_, rfl, ?_⟩
       refine hK.out _ _ ⟨bc_ BK215 0, bc_ BK215 1, bc_ BK215 2, bc_ BK212 0, bc_ BK212 1, bc_ BK212 2, bc_ BK212 3⟩ (fun hHeld => ?_)
       clear hK K
       refine nm_ 29 ?_
       refine pu_ 3 30 (bs 41 15) HT_ ?_
       refine pu_ 4 31 (bs 41 31) HT_ ?_
       refine pu_ 5 32 (bs 41 63) HT_ ?_
       refine pu_ 6 33 (bs 41 127) HT_ ?_
       refine pu_ 7 34 (bs 41 255) HT_ ?_
       refine pn_ 8 35 (bs 41 511) HT_ ?_
       refine pn_ 9 36 (bs 41 1023) HT_ ?_
       refine pn_ 10 37 (bs 41 2047) HT_ ?_
       refine pn_ 11 38 (bs 41 4095) HT_ ?_
       refine pn_ 12 39 (bs 41 8191) HT_ ?_
       refine pn_ 13 40 (bs 41 16383) HT_ ?_
       refine pn_ 14 41 (bs 41 32767) HT_ ?_
       refine pn_ 15 42 (bs 41 65535) HT_ ?_
       refine pn_ 16 43 (bs 41 131071) HT_ ?_
       refine pn_ 17 44 (bs 41 262143) HT_ ?_
       refine pu_ 18 45 (bs 41 524287) HT_ ?_
       refine pu_ 19 46 (bs 41 1048575) HT_ ?_
       refine pu_ 20 47 (bs 41 2097151) HT_ ?_
       refine pu_ 21 48 (bs 41 4194303) HT_ ?_
       refine pu_ 23 50 (bs 41 12582911) HT_ ?_
       refine tk_ 22 49 (bs 41 16777215) HT_ HW_ hHeld ?_
       refine tk_ 24 51 (bs 41 33554431) HT_ HW_ hHeld ?_
       refine pu_ 25 52 (bs 41 67108863) HT_ ?_
       refine on_ 26 (some 53) (bs 41 134217727) HT_ (fun K hK => ?_)
       refine goes_ Try.func96 (by kernel_rfl) rfl #[.int .i64 ((rd_T130 l0_3 x22_2).f1), .int .i64 0, .int .i64 (wrap64 (a0_0 - 1))] (by rfl) rfl rfl tm_ ?_
       with_reducible refine (impl_in.calls ((rd_T130 l0_3 x22_2).f1) 0 (wrap64 (a0_0 - 1)) true _ A54.out).mono ?_
       rintro e w' ⟨rfl, ⟨nd, rfl⟩⟩
       refine ⟨_, rfl, ?_⟩
       refine hK.out _ _ ⟨bc_ BK215 0, bc_ BK215 1, bc_ BK215 2, bc_ BK212 0, bc_ BK212 1, bc_ BK212 2, bc_ BK212 3⟩ (fun hHeld => ?_)
       clear hK K
       refine nm_ 53 ?_
       refine pu_ 27 54 (bs 41 268435455) HT_ ?_
       refine pu_ 28 55 (bs 41 536870911) HT_ ?_
       refine pu_ 29 56 (bs 41 1073741823) HT_ ?_
       refine pu_ 30 57 (bs 41 2147483647) HT_ ?_
       refine tk_ 31 58 (bs 41 4294967295) HT_ HW_ hHeld ?_
       refine on_ 32 (some 59) (bs 41 8589934591) HT_ (fun K hK => ?_)
       refine goes_ Try.func97 (by kernel_rfl) rfl #[.slice A214_2 ((rd_T130 l0_3 x22_2).f2).length c214_2] (by rfl) rfl rfl tm_ ?_
       with_reducible refine (impl_rising.calls k2 _ _ ((rd_T130 l0_3 x22_2).f2) false _ ?side1 ?side2 A56.out).mono ?_
       (case side1 => exact ca (Kd.C_below HR214_2.out (hB HB)))
       (case side2 => exact HC214_2.out)
       rintro e w' ⟨rfl, ⟨nd, rfl⟩⟩
       refine ⟨_, rfl, ?_⟩
       refine hK.out _ _ ⟨bc_ BK215 0, bc_ BK215 1, bc_ BK215 2, bc_ BK212 0, bc_ BK212 1, bc_ BK212 2, bc_ BK212 3⟩ (fun hHeld => ?_)
       clear hK K
       refine nm_ 59 ?_
       refine pu_ 33 60 (bs 41 17179869183) HT_ ?_
       refine pu_ 34 61 (bs 41 34359738367) HT_ ?_
       refine pu_ 35 62 (bs 41 68719476735) HT_ ?_
       refine pn_ 36 63 (bs 41 137438953471) HT_ ?_
       refine pn_ 37 64 (bs 41 274877906943) HT_ ?_
       refine pn_ 38 65 (bs 41 549755813887) HT_ ?_
       refine pn_ 39 66 (bs 41 1099511627775) HT_ ?_
       refine pu_ 40 67 (bs 41 2199023255551) HT_ ?_
       refine done_ (done_of HT_.out (by kernel_rfl)) ?_
       try go_wp2
       go_ret
       exact ⟨rt_, hB HB⟩
      subst c57
      rw [if_pos rfl] at H
      replace H := Option.bind_eq_some_iff.mp H
      obtain ⟨t223, A580, H⟩ := H
      replace H : (if t223 = true then (impl_GoodCampus.l0 k2 l0_3 (l0_3.length : Int) (wrap64 (x22_2 + 1)) a0_0 l0_1 l0_2 l0_3) else (some false)) = some r := H
      have A58 := Aside0.mk A580
      clear A580
      by_cases c59 : t223 = true
      rotate_left
      ·replace c59 := Bool.eq_false_iff.mpr c59
       subst c59
       rw [if_neg (show ¬ (false = true) by decide)] at H
       obtain rfl := Option.some.inj H
       have p214 : 0 ≤ (x22_2 : Int) := od_
       have q214 : x22_2 < (l0_3.length : Int) := od_
       obtain ⟨ad214, A214_2, c214_2, e214, hx214_0, hx214_1, hx214_2, hl214_2, hi214_2⟩ := at_T130 HR0_3.out x22_2 p214 q214
       cases e214
       replace hx214_0 := hc_ HB hx214_0
       replace hx214_1 := hc_ HB hx214_1
       replace hx214_2 := hc_ HB hx214_2
       have HR214_2 := Aside0.mk hi214_2
       have HC214_2 := Aside0.mk hl214_2
       clear hi214_2 hl214_2
       replace p214 := eq_true p214
       replace q214 := eq_true q214
       try go_wp2_with (first | ((with_reducible refine gate_dst (N := 4) rfl ?_); (try (refine gate_guard (by rfl) ?_; dsimp only)); refine box_event ?hg (N := 4) ?hd (cs := #[.int .i64 0, .int .i64 0, .slice none 0 0]) (t := 130) ?hr ?_; (case hd => rfl); (case hg => rfl); (case hr => first | (go_simp; done) | (go_simp; rfl)); intro gb215 hg w65 hbox hb; have BK215 := Aside0.mk (hbox); have GW215 := gw_ hg HB; have GE215 := gw_ hg HB; have NB212_215 := nl_ hg BK212; have NB215_212 := ng_ hg BK212; replace BK212 := bb_ BK212 hb; replace HB := bst_ HB hb; clear hb hbox hg; have hnb66 := NB215_212.out; have hnc66 := NB212_215.out; obtain ⟨hcz67_0, hcz67_1, hcz67_2⟩ := bcs3_ BK215; have hfz67_0 := blk_frozen BK215.out 0; have hfz67_1 := blk_frozen BK215.out 1; have hfz67_2 := blk_frozen BK215.out 2))
       have n0_ : Aside0 ((((w65.setCell ⟨gb215, 0, none⟩ (.int .i64 ((rd_T130 l0_3 x22_2).f0))).setCell ⟨gb215, 1, none⟩ (.int .i64 ((rd_T130 l0_3 x22_2).f1))).setCell ⟨gb215, 2, none⟩ (.slice A214_2 ((rd_T130 l0_3 x22_2).f2).length c214_2)).heap[gb212]? = some (.cells #[.int .i64 a0_0, .slice A0_1 l0_1.length c0_1, .slice A0_2 l0_2.length c0_2, .slice (some ad214) l0_3.length c0_3] 33 (0, 0))) := ⟨by (with_reducible repeat (first | refine blk_drewN ?_ _ | refine blk_drew ?_ | refine blk_alloc ?_ _)); refine blk_far ?_ NB212_215.out _; (with_reducible repeat (first | refine blk_drewN ?_ _ | refine blk_drew ?_ | refine blk_alloc ?_ _)); refine blk_far ?_ NB212_215.out _; (with_reducible repeat (first | refine blk_drewN ?_ _ | refine blk_drew ?_ | refine blk_alloc ?_ _)); refine blk_far ?_ NB212_215.out _; (with_reducible repeat (first | refine blk_drewN ?_ _ | refine blk_drew ?_ | refine blk_alloc ?_ _)); exact BK212.out⟩
       have n1_ : Aside0 ((((w65.setCell ⟨gb215, 0, none⟩ (.int .i64 ((rd_T130 l0_3 x22_2).f0))).setCell ⟨gb215, 1, none⟩ (.int .i64 ((rd_T130 l0_3 x22_2).f1))).setCell ⟨gb215, 2, none⟩ (.slice A214_2 ((rd_T130 l0_3 x22_2).f2).length c214_2)).heap[gb215]? = some (.cells #[.int .i64 ((rd_T130 l0_3 x22_2).f0), .int .i64 ((rd_T130 l0_3 x22_2).f1), .slice A214_2 ((rd_T130 l0_3 x22_2).f2).length c214_2] 130 (0, 0))) := ⟨by (with_reducible repeat (first | refine blk_drewN ?_ _ | refine blk_drew ?_ | refine blk_alloc ?_ _)); refine blk_put (cs := #[.int .i64 ((rd_T130 l0_3 x22_2).f0), .int .i64 ((rd_T130 l0_3 x22_2).f1), .slice none 0 0]) ?_ 2 _ rfl; (with_reducible repeat (first | refine blk_drewN ?_ _ | refine blk_drew ?_ | refine blk_alloc ?_ _)); refine blk_put (cs := #[.int .i64 ((rd_T130 l0_3 x22_2).f0), .int .i64 0, .slice none 0 0]) ?_ 1 _ rfl; (with_reducible repeat (first | refine blk_drewN ?_ _ | refine blk_drew ?_ | refine blk_alloc ?_ _)); refine blk_put (cs := #[.int .i64 0, .int .i64 0, .slice none 0 0]) ?_ 0 _ rfl; (with_reducible repeat (first | refine blk_drewN ?_ _ | refine blk_drew ?_ | refine blk_alloc ?_ _)); exact BK215.out⟩
       have n2_ : Aside0 (Below w.heap.size w (((w65.setCell ⟨gb215, 0, none⟩ (.int .i64 ((rd_T130 l0_3 x22_2).f0))).setCell ⟨gb215, 1, none⟩ (.int .i64 ((rd_T130 l0_3 x22_2).f1))).setCell ⟨gb215, 2, none⟩ (.slice A214_2 ((rd_T130 l0_3 x22_2).f2).length c214_2))) := ⟨hB HB⟩
       (try clear BK212)
       (try clear BK215)
       (try clear HB)
       generalize (((w65.setCell ⟨gb215, 0, none⟩ (.int .i64 ((rd_T130 l0_3 x22_2).f0))).setCell ⟨gb215, 1, none⟩ (.int .i64 ((rd_T130 l0_3 x22_2).f1))).setCell ⟨gb215, 2, none⟩ (.slice A214_2 ((rd_T130 l0_3 x22_2).f2).length c214_2)) = w68 at n0_ n1_ n2_ ⊢
       have BK212 := n0_
       have BK215 := n1_
       have HB := n2_
       clear n0_ n1_ n2_
       replace BK212 := bd_ BK212
       replace BK215 := bd_ BK215
       replace HB := Aside0.mk (below_drew1 HB.out)
       refine start_ (n := 41) (S := fun w' => w'.cell? ⟨gb215, 0, none⟩ = some (.int .i64 ((rd_T130 l0_3 x22_2).f0)) ∧ w'.cell? ⟨gb215, 1, none⟩ = some (.int .i64 ((rd_T130 l0_3 x22_2).f1)) ∧ w'.cell? ⟨gb215, 2, none⟩ = some (.slice A214_2 ((rd_T130 l0_3 x22_2).f2).length c214_2) ∧ w'.cell? ⟨gb212, 0, none⟩ = some (.int .i64 a0_0) ∧ w'.cell? ⟨gb212, 1, none⟩ = some (.slice A0_1 l0_1.length c0_1) ∧ w'.cell? ⟨gb212, 2, none⟩ = some (.slice A0_2 l0_2.length c0_2) ∧ w'.cell? ⟨gb212, 3, none⟩ = some (.slice (some ad214) l0_3.length c0_3)) (ds := []) (bs 41 0) (by kernel_rfl) rfl rfl ⟨bc_ BK215 0, bc_ BK215 1, bc_ BK215 2, bc_ BK212 0, bc_ BK212 1, bc_ BK212 2, bc_ BK212 3⟩ (fun hHeld => ?_); refine with_tabW impl_GoodCampus.tab6 impl_GoodCampus.bits6 (fun HT_ HW_ => ?_)
       generalize w68.drew = w69 at BK212 BK215 HB hHeld ⊢
       refine pu_ 0 27 (bs 41 1) HT_ ?_
       refine tk_ 1 28 (bs 41 3) HT_ HW_ hHeld ?_
       refine on_ 2 (some 29) (bs 41 7) HT_ (fun K hK => ?_)
       refine goes_ Try.func95 (by kernel_rfl) rfl #[.int .i64 ((rd_T130 l0_3 x22_2).f0)] (by rfl) rfl rfl tm_ ?_
       with_reducible refine (impl_isHost.calls ((rd_T130 l0_3 x22_2).f0) true _ A16.out).mono ?_
       rintro e w' ⟨rfl, ⟨nd, rfl⟩⟩
       refine ⟨_, rfl, ?_⟩
       refine hK.out _ _ ⟨bc_ BK215 0, bc_ BK215 1, bc_ BK215 2, bc_ BK212 0, bc_ BK212 1, bc_ BK212 2, bc_ BK212 3⟩ (fun hHeld => ?_)
       clear hK K
       refine nm_ 29 ?_
       refine pu_ 3 30 (bs 41 15) HT_ ?_
       refine pu_ 4 31 (bs 41 31) HT_ ?_
       refine pu_ 5 32 (bs 41 63) HT_ ?_
       refine pu_ 6 33 (bs 41 127) HT_ ?_
       refine pu_ 7 34 (bs 41 255) HT_ ?_
       refine pn_ 8 35 (bs 41 511) HT_ ?_
       refine pn_ 9 36 (bs 41 1023) HT_ ?_
       refine pn_ 10 37 (bs 41 2047) HT_ ?_
       refine pn_ 11 38 (bs 41 4095) HT_ ?_
       refine pn_ 12 39 (bs 41 8191) HT_ ?_
       refine pn_ 13 40 (bs 41 16383) HT_ ?_
       refine pn_ 14 41 (bs 41 32767) HT_ ?_
       refine pn_ 15 42 (bs 41 65535) HT_ ?_
       refine pn_ 16 43 (bs 41 131071) HT_ ?_
       refine pn_ 17 44 (bs 41 262143) HT_ ?_
       refine pu_ 18 45 (bs 41 524287) HT_ ?_
       refine pu_ 19 46 (bs 41 1048575) HT_ ?_
       refine pu_ 20 47 (bs 41 2097151) HT_ ?_
       refine pu_ 21 48 (bs 41 4194303) HT_ ?_
       refine pu_ 23 50 (bs 41 12582911) HT_ ?_
       refine tk_ 22 49 (bs 41 16777215) HT_ HW_ hHeld ?_
       refine tk_ 24 51 (bs 41 33554431) HT_ HW_ hHeld ?_
       refine pu_ 25 52 (bs 41 67108863) HT_ ?_
       refine on_ 26 (some 53) (bs 41 134217727) HT_ (fun K hK => ?_)
       refine goes_ Try.func96 (by kernel_rfl) rfl #[.int .i64 ((rd_T130 l0_3 x22_2).f1), .int .i64 0, .int .i64 (wrap64 (a0_0 - 1))] (by rfl) rfl rfl tm_ ?_
       with_reducible refine (impl_in.calls ((rd_T130 l0_3 x22_2).f1) 0 (wrap64 (a0_0 - 1)) true _ A54.out).mono ?_
       rintro e w' ⟨rfl, ⟨nd, rfl⟩⟩
       refine ⟨_, rfl, ?_⟩
       refine hK.out _ _ ⟨bc_ BK215 0, bc_ BK215 1, bc_ BK215 2, bc_ BK212 0, bc_ BK212 1, bc_ BK212 2, bc_ BK212 3⟩ (fun hHeld => ?_)
       clear hK K
       refine nm_ 53 ?_
       refine pu_ 27 54 (bs 41 268435455) HT_ ?_
       refine pu_ 28 55 (bs 41 536870911) HT_ ?_
       refine pu_ 29 56 (bs 41 1073741823) HT_ ?_
       refine pu_ 30 57 (bs 41 2147483647) HT_ ?_
       refine tk_ 31 58 (bs 41 4294967295) HT_ HW_ hHeld ?_
       refine on_ 32 (some 59) (bs 41 8589934591) HT_ (fun K hK => ?_)
       refine goes_ Try.func97 (by kernel_rfl) rfl #[.slice A214_2 ((rd_T130 l0_3 x22_2).f2).length c214_2] (by rfl) rfl rfl tm_ ?_
       with_reducible refine (impl_rising.calls k2 _ _ ((rd_T130 l0_3 x22_2).f2) true _ ?side1 ?side2 A56.out).mono ?_
       (case side1 => exact ca (Kd.C_below HR214_2.out (hB HB)))
       (case side2 => exact HC214_2.out)
       rintro e w' ⟨rfl, ⟨nd, rfl⟩⟩
       refine ⟨_, rfl, ?_⟩
       refine hK.out _ _ ⟨bc_ BK215 0, bc_ BK215 1, bc_ BK215 2, bc_ BK212 0, bc_ BK212 1, bc_ BK212 2, bc_ BK212 3⟩ (fun hHeld => ?_)
       clear hK K
       refine nm_ 59 ?_
       refine pu_ 33 60 (bs 41 17179869183) HT_ ?_
       refine pu_ 34 61 (bs 41 34359738367) HT_ ?_
       refine pu_ 35 62 (bs 41 68719476735) HT_ ?_
       refine pu_ 36 63 (bs 41 137438953471) HT_ ?_
       refine tk_ 37 64 (bs 41 274877906943) HT_ HW_ hHeld ?_
       refine on_ 38 (some 65) (bs 41 549755813887) HT_ (fun K hK => ?_)
       refine goes_ Try.func98 (by kernel_rfl) rfl #[.slice A214_2 ((rd_T130 l0_3 x22_2).f2).length c214_2, .int .i64 1, .int .i64 20] (by rfl) rfl rfl tm_ ?_
       with_reducible refine (impl_allIn.calls k2 _ _ ((rd_T130 l0_3 x22_2).f2) 1 20 false _ ?side1 ?side2 A58.out).mono ?_
       (case side1 => exact ca (Kd.C_below HR214_2.out (hB HB)))
       (case side2 => exact HC214_2.out)
       rintro e w' ⟨rfl, ⟨nd, rfl⟩⟩
       refine ⟨_, rfl, ?_⟩
       refine hK.out _ _ ⟨bc_ BK215 0, bc_ BK215 1, bc_ BK215 2, bc_ BK212 0, bc_ BK212 1, bc_ BK212 2, bc_ BK212 3⟩ (fun hHeld => ?_)
       clear hK K
       refine nm_ 65 ?_
       refine pu_ 39 66 (bs 41 1099511627775) HT_ ?_
       refine pu_ 40 67 (bs 41 2199023255551) HT_ ?_
       refine done_ (done_of HT_.out (by kernel_rfl)) ?_
       try go_wp2
       go_ret
       exact ⟨rt_, hB HB⟩
      subst c59
      rw [if_pos rfl] at H
      have H' := Aside0.mk H
      clear H
      have p214 : 0 ≤ (x22_2 : Int) := od_
      have q214 : x22_2 < (l0_3.length : Int) := od_
      obtain ⟨ad214, A214_2, c214_2, e214, hx214_0, hx214_1, hx214_2, hl214_2, hi214_2⟩ := at_T130 HR0_3.out x22_2 p214 q214
      cases e214
      replace hx214_0 := hc_ HB hx214_0
      replace hx214_1 := hc_ HB hx214_1
      replace hx214_2 := hc_ HB hx214_2
      have HR214_2 := Aside0.mk hi214_2
      have HC214_2 := Aside0.mk hl214_2
      clear hi214_2 hl214_2
      replace p214 := eq_true p214
      replace q214 := eq_true q214
      try go_wp2_with (first | ((with_reducible refine gate_dst (N := 4) rfl ?_); (try (refine gate_guard (by rfl) ?_; dsimp only)); refine box_event ?hg (N := 4) ?hd (cs := #[.int .i64 0, .int .i64 0, .slice none 0 0]) (t := 130) ?hr ?_; (case hd => rfl); (case hg => rfl); (case hr => first | (go_simp; done) | (go_simp; rfl)); intro gb215 hg w60 hbox hb; have BK215 := Aside0.mk (hbox); have GW215 := gw_ hg HB; have GE215 := gw_ hg HB; have NB212_215 := nl_ hg BK212; have NB215_212 := ng_ hg BK212; replace BK212 := bb_ BK212 hb; replace HB := bst_ HB hb; clear hb hbox hg; have hnb61 := NB215_212.out; have hnc61 := NB212_215.out; obtain ⟨hcz62_0, hcz62_1, hcz62_2⟩ := bcs3_ BK215; have hfz62_0 := blk_frozen BK215.out 0; have hfz62_1 := blk_frozen BK215.out 1; have hfz62_2 := blk_frozen BK215.out 2))
      have n0_ : Aside0 ((((w60.setCell ⟨gb215, 0, none⟩ (.int .i64 ((rd_T130 l0_3 x22_2).f0))).setCell ⟨gb215, 1, none⟩ (.int .i64 ((rd_T130 l0_3 x22_2).f1))).setCell ⟨gb215, 2, none⟩ (.slice A214_2 ((rd_T130 l0_3 x22_2).f2).length c214_2)).heap[gb212]? = some (.cells #[.int .i64 a0_0, .slice A0_1 l0_1.length c0_1, .slice A0_2 l0_2.length c0_2, .slice (some ad214) l0_3.length c0_3] 33 (0, 0))) := ⟨by (with_reducible repeat (first | refine blk_drewN ?_ _ | refine blk_drew ?_ | refine blk_alloc ?_ _)); refine blk_far ?_ NB212_215.out _; (with_reducible repeat (first | refine blk_drewN ?_ _ | refine blk_drew ?_ | refine blk_alloc ?_ _)); refine blk_far ?_ NB212_215.out _; (with_reducible repeat (first | refine blk_drewN ?_ _ | refine blk_drew ?_ | refine blk_alloc ?_ _)); refine blk_far ?_ NB212_215.out _; (with_reducible repeat (first | refine blk_drewN ?_ _ | refine blk_drew ?_ | refine blk_alloc ?_ _)); exact BK212.out⟩
      have n1_ : Aside0 ((((w60.setCell ⟨gb215, 0, none⟩ (.int .i64 ((rd_T130 l0_3 x22_2).f0))).setCell ⟨gb215, 1, none⟩ (.int .i64 ((rd_T130 l0_3 x22_2).f1))).setCell ⟨gb215, 2, none⟩ (.slice A214_2 ((rd_T130 l0_3 x22_2).f2).length c214_2)).heap[gb215]? = some (.cells #[.int .i64 ((rd_T130 l0_3 x22_2).f0), .int .i64 ((rd_T130 l0_3 x22_2).f1), .slice A214_2 ((rd_T130 l0_3 x22_2).f2).length c214_2] 130 (0, 0))) := ⟨by (with_reducible repeat (first | refine blk_drewN ?_ _ | refine blk_drew ?_ | refine blk_alloc ?_ _)); refine blk_put (cs := #[.int .i64 ((rd_T130 l0_3 x22_2).f0), .int .i64 ((rd_T130 l0_3 x22_2).f1), .slice none 0 0]) ?_ 2 _ rfl; (with_reducible repeat (first | refine blk_drewN ?_ _ | refine blk_drew ?_ | refine blk_alloc ?_ _)); refine blk_put (cs := #[.int .i64 ((rd_T130 l0_3 x22_2).f0), .int .i64 0, .slice none 0 0]) ?_ 1 _ rfl; (with_reducible repeat (first | refine blk_drewN ?_ _ | refine blk_drew ?_ | refine blk_alloc ?_ _)); refine blk_put (cs := #[.int .i64 0, .int .i64 0, .slice none 0 0]) ?_ 0 _ rfl; (with_reducible repeat (first | refine blk_drewN ?_ _ | refine blk_drew ?_ | refine blk_alloc ?_ _)); exact BK215.out⟩
      have n2_ : Aside0 (Below w.heap.size w (((w60.setCell ⟨gb215, 0, none⟩ (.int .i64 ((rd_T130 l0_3 x22_2).f0))).setCell ⟨gb215, 1, none⟩ (.int .i64 ((rd_T130 l0_3 x22_2).f1))).setCell ⟨gb215, 2, none⟩ (.slice A214_2 ((rd_T130 l0_3 x22_2).f2).length c214_2))) := ⟨hB HB⟩
      (try clear BK212)
      (try clear BK215)
      (try clear HB)
      generalize (((w60.setCell ⟨gb215, 0, none⟩ (.int .i64 ((rd_T130 l0_3 x22_2).f0))).setCell ⟨gb215, 1, none⟩ (.int .i64 ((rd_T130 l0_3 x22_2).f1))).setCell ⟨gb215, 2, none⟩ (.slice A214_2 ((rd_T130 l0_3 x22_2).f2).length c214_2)) = w63 at n0_ n1_ n2_ ⊢
      have BK212 := n0_
      have BK215 := n1_
      have HB := n2_
      clear n0_ n1_ n2_
      replace BK212 := bd_ BK212
      replace BK215 := bd_ BK215
      replace HB := Aside0.mk (below_drew1 HB.out)
      refine start_ (n := 41) (S := fun w' => w'.cell? ⟨gb215, 0, none⟩ = some (.int .i64 ((rd_T130 l0_3 x22_2).f0)) ∧ w'.cell? ⟨gb215, 1, none⟩ = some (.int .i64 ((rd_T130 l0_3 x22_2).f1)) ∧ w'.cell? ⟨gb215, 2, none⟩ = some (.slice A214_2 ((rd_T130 l0_3 x22_2).f2).length c214_2) ∧ w'.cell? ⟨gb212, 0, none⟩ = some (.int .i64 a0_0) ∧ w'.cell? ⟨gb212, 1, none⟩ = some (.slice A0_1 l0_1.length c0_1) ∧ w'.cell? ⟨gb212, 2, none⟩ = some (.slice A0_2 l0_2.length c0_2) ∧ w'.cell? ⟨gb212, 3, none⟩ = some (.slice (some ad214) l0_3.length c0_3)) (ds := []) (bs 41 0) (by kernel_rfl) rfl rfl ⟨bc_ BK215 0, bc_ BK215 1, bc_ BK215 2, bc_ BK212 0, bc_ BK212 1, bc_ BK212 2, bc_ BK212 3⟩ (fun hHeld => ?_); refine with_tabW impl_GoodCampus.tab6 impl_GoodCampus.bits6 (fun HT_ HW_ => ?_)
      generalize w63.drew = w64 at BK212 BK215 HB hHeld ⊢
      refine pu_ 0 27 (bs 41 1) HT_ ?_
      refine tk_ 1 28 (bs 41 3) HT_ HW_ hHeld ?_
      refine on_ 2 (some 29) (bs 41 7) HT_ (fun K hK => ?_)
      refine goes_ Try.func95 (by kernel_rfl) rfl #[.int .i64 ((rd_T130 l0_3 x22_2).f0)] (by rfl) rfl rfl tm_ ?_
      with_reducible refine (impl_isHost.calls ((rd_T130 l0_3 x22_2).f0) true _ A16.out).mono ?_
      rintro e w' ⟨rfl, ⟨nd, rfl⟩⟩
      refine ⟨_, rfl, ?_⟩
      refine hK.out _ _ ⟨bc_ BK215 0, bc_ BK215 1, bc_ BK215 2, bc_ BK212 0, bc_ BK212 1, bc_ BK212 2, bc_ BK212 3⟩ (fun hHeld => ?_)
      clear hK K
      refine nm_ 29 ?_
      refine pu_ 3 30 (bs 41 15) HT_ ?_
      refine pu_ 4 31 (bs 41 31) HT_ ?_
      refine pu_ 5 32 (bs 41 63) HT_ ?_
      refine pu_ 6 33 (bs 41 127) HT_ ?_
      refine pu_ 7 34 (bs 41 255) HT_ ?_
      refine pn_ 8 35 (bs 41 511) HT_ ?_
      refine pn_ 9 36 (bs 41 1023) HT_ ?_
      refine pn_ 10 37 (bs 41 2047) HT_ ?_
      refine pn_ 11 38 (bs 41 4095) HT_ ?_
      refine pn_ 12 39 (bs 41 8191) HT_ ?_
      refine pn_ 13 40 (bs 41 16383) HT_ ?_
      refine pn_ 14 41 (bs 41 32767) HT_ ?_
      refine pn_ 15 42 (bs 41 65535) HT_ ?_
      refine pn_ 16 43 (bs 41 131071) HT_ ?_
      refine pn_ 17 44 (bs 41 262143) HT_ ?_
      refine pu_ 18 45 (bs 41 524287) HT_ ?_
      refine pu_ 19 46 (bs 41 1048575) HT_ ?_
      refine pu_ 20 47 (bs 41 2097151) HT_ ?_
      refine pu_ 21 48 (bs 41 4194303) HT_ ?_
      refine pu_ 23 50 (bs 41 12582911) HT_ ?_
      refine tk_ 22 49 (bs 41 16777215) HT_ HW_ hHeld ?_
      refine tk_ 24 51 (bs 41 33554431) HT_ HW_ hHeld ?_
      refine pu_ 25 52 (bs 41 67108863) HT_ ?_
      refine on_ 26 (some 53) (bs 41 134217727) HT_ (fun K hK => ?_)
      refine goes_ Try.func96 (by kernel_rfl) rfl #[.int .i64 ((rd_T130 l0_3 x22_2).f1), .int .i64 0, .int .i64 (wrap64 (a0_0 - 1))] (by rfl) rfl rfl tm_ ?_
      with_reducible refine (impl_in.calls ((rd_T130 l0_3 x22_2).f1) 0 (wrap64 (a0_0 - 1)) true _ A54.out).mono ?_
      rintro e w' ⟨rfl, ⟨nd, rfl⟩⟩
      refine ⟨_, rfl, ?_⟩
      refine hK.out _ _ ⟨bc_ BK215 0, bc_ BK215 1, bc_ BK215 2, bc_ BK212 0, bc_ BK212 1, bc_ BK212 2, bc_ BK212 3⟩ (fun hHeld => ?_)
      clear hK K
      refine nm_ 53 ?_
      refine pu_ 27 54 (bs 41 268435455) HT_ ?_
      refine pu_ 28 55 (bs 41 536870911) HT_ ?_
      refine pu_ 29 56 (bs 41 1073741823) HT_ ?_
      refine pu_ 30 57 (bs 41 2147483647) HT_ ?_
      refine tk_ 31 58 (bs 41 4294967295) HT_ HW_ hHeld ?_
      refine on_ 32 (some 59) (bs 41 8589934591) HT_ (fun K hK => ?_)
      refine goes_ Try.func97 (by kernel_rfl) rfl #[.slice A214_2 ((rd_T130 l0_3 x22_2).f2).length c214_2] (by rfl) rfl rfl tm_ ?_
      with_reducible refine (impl_rising.calls k2 _ _ ((rd_T130 l0_3 x22_2).f2) true _ ?side1 ?side2 A56.out).mono ?_
      (case side1 => exact ca (Kd.C_below HR214_2.out (hB HB)))
      (case side2 => exact HC214_2.out)
      rintro e w' ⟨rfl, ⟨nd, rfl⟩⟩
      refine ⟨_, rfl, ?_⟩
      refine hK.out _ _ ⟨bc_ BK215 0, bc_ BK215 1, bc_ BK215 2, bc_ BK212 0, bc_ BK212 1, bc_ BK212 2, bc_ BK212 3⟩ (fun hHeld => ?_)
      clear hK K
      refine nm_ 59 ?_
      refine pu_ 33 60 (bs 41 17179869183) HT_ ?_
      refine pu_ 34 61 (bs 41 34359738367) HT_ ?_
      refine pu_ 35 62 (bs 41 68719476735) HT_ ?_
      refine pu_ 36 63 (bs 41 137438953471) HT_ ?_
      refine tk_ 37 64 (bs 41 274877906943) HT_ HW_ hHeld ?_
      refine on_ 38 (some 65) (bs 41 549755813887) HT_ (fun K hK => ?_)
      refine goes_ Try.func98 (by kernel_rfl) rfl #[.slice A214_2 ((rd_T130 l0_3 x22_2).f2).length c214_2, .int .i64 1, .int .i64 20] (by rfl) rfl rfl tm_ ?_
      with_reducible refine (impl_allIn.calls k2 _ _ ((rd_T130 l0_3 x22_2).f2) 1 20 true _ ?side1 ?side2 A58.out).mono ?_
      (case side1 => exact ca (Kd.C_below HR214_2.out (hB HB)))
      (case side2 => exact HC214_2.out)
      rintro e w' ⟨rfl, ⟨nd, rfl⟩⟩
      refine ⟨_, rfl, ?_⟩
      refine hK.out _ _ ⟨bc_ BK215 0, bc_ BK215 1, bc_ BK215 2, bc_ BK212 0, bc_ BK212 1, bc_ BK212 2, bc_ BK212 3⟩ (fun hHeld => ?_)
      clear hK K
      refine nm_ 65 ?_
      refine pu_ 39 66 (bs 41 1099511627775) HT_ ?_
      refine pu_ 40 67 (bs 41 2199023255551) HT_ ?_
      refine done_ (done_of HT_.out (by kernel_rfl)) ?_
      try go_wp2
      go_roundg k2
      case measure => have := HJ1.out; have := HK2.out; omega
      case rel => exact ⟨(wrap64 (x22_2 + 1)), (by first | rfl | (simp; done) | (simp [*]; done)), H', ⟨by have := HJ1.out; have := HK2.out; omega⟩, ⟨by (with_reducible repeat (first | refine blk_drewN ?_ _ | refine blk_drew ?_ | refine blk_alloc ?_ _)); exact BK212.out⟩, ⟨hB HB⟩⟩
     rw [if_pos c18] at H
     have c18b0 : decide (0 < x22_2) = true := decide_eq_true c18
     clear c18
     obtain ⟨ji19, hji19⟩ : ∃ j_ : Int, (wrap64 (x22_2 - 1)) = j_ := ⟨_, rfl⟩
     replace H : (if 0 ≤ (ji19) then (if (ji19) < (l0_3.length : Int) then (if ((rd_T130 l0_3 (ji19)).f0) ≥ ((rd_T130 l0_3 x22_2).f0) then (some false) else ((impl_in.f ((rd_T130 l0_3 x22_2).f1) 0 (wrap64 (a0_0 - 1))).bind fun t218 => (if t218 = true then ((impl_rising.f k2 ((rd_T130 l0_3 x22_2).f2)).bind fun t219 => (if t219 = true then ((impl_allIn.f k2 ((rd_T130 l0_3 x22_2).f2) 1 20).bind fun t220 => (if t220 = true then (impl_GoodCampus.l0 k2 l0_3 (l0_3.length : Int) (wrap64 (x22_2 + 1)) a0_0 l0_1 l0_2 l0_3) else (some false))) else (some false))) else (some false)))) else (none)) else (none)) = some r := by first | (rw [hji19] at H; exact H) | (simp only [hji19] at H ⊢; exact H)
     (try rw [hji19] at A16)
     have hji19w : (IntKind.i64.wrap (x22_2 - 1)) = ji19 := (i64_w _).trans hji19
     by_cases c20 : 0 ≤ (ji19)
     rotate_left
     ·rw [if_neg c20] at H
      exact absurd H (by simp)
     rw [if_pos c20] at H
     have c20b0 : decide (0 ≤ (ji19)) = true := decide_eq_true c20
     clear c20
     by_cases c21 : (ji19) < (l0_3.length : Int)
     rotate_left
     ·rw [if_neg c21] at H
      exact absurd H (by simp)
     rw [if_pos c21] at H
     have c21b0 : decide ((ji19) < (l0_3.length : Int)) = true := decide_eq_true c21
     clear c21
     by_cases c22 : ((rd_T130 l0_3 (ji19)).f0) ≥ ((rd_T130 l0_3 x22_2).f0)
     ·rw [if_pos c22] at H
      have c22b0 : decide (((rd_T130 l0_3 x22_2).f0) ≤ ((rd_T130 l0_3 (ji19)).f0)) = true := decide_eq_true c22
      clear c22
      obtain rfl := Option.some.inj H
      have p214 : 0 ≤ (x22_2 : Int) := od_
      have q214 : x22_2 < (l0_3.length : Int) := od_
      obtain ⟨ad214, A214_2, c214_2, e214, hx214_0, hx214_1, hx214_2, hl214_2, hi214_2⟩ := at_T130 HR0_3.out x22_2 p214 q214
      cases e214
      replace hx214_0 := hc_ HB hx214_0
      replace hx214_1 := hc_ HB hx214_1
      replace hx214_2 := hc_ HB hx214_2
      have HR214_2 := Aside0.mk hi214_2
      have HC214_2 := Aside0.mk hl214_2
      clear hi214_2 hl214_2
      replace p214 := eq_true p214
      replace q214 := eq_true q214
      try go_wp2_with (first | ((with_reducible refine gate_dst (N := 4) rfl ?_); (try (refine gate_guard (by rfl) ?_; dsimp only)); refine box_event ?hg (N := 4) ?hd (cs := #[.int .i64 0, .int .i64 0, .slice none 0 0]) (t := 130) ?hr ?_; (case hd => rfl); (case hg => rfl); (case hr => first | (go_simp; done) | (go_simp; rfl)); intro gb215 hg w23 hbox hb; have BK215 := Aside0.mk (hbox); have GW215 := gw_ hg HB; have GE215 := gw_ hg HB; have NB212_215 := nl_ hg BK212; have NB215_212 := ng_ hg BK212; replace BK212 := bb_ BK212 hb; replace HB := bst_ HB hb; clear hb hbox hg; have hnb24 := NB215_212.out; have hnc24 := NB212_215.out; obtain ⟨hcz25_0, hcz25_1, hcz25_2⟩ := bcs3_ BK215; have hfz25_0 := blk_frozen BK215.out 0; have hfz25_1 := blk_frozen BK215.out 1; have hfz25_2 := blk_frozen BK215.out 2))
      have n0_ : Aside0 ((((w23.setCell ⟨gb215, 0, none⟩ (.int .i64 ((rd_T130 l0_3 x22_2).f0))).setCell ⟨gb215, 1, none⟩ (.int .i64 ((rd_T130 l0_3 x22_2).f1))).setCell ⟨gb215, 2, none⟩ (.slice A214_2 ((rd_T130 l0_3 x22_2).f2).length c214_2)).heap[gb212]? = some (.cells #[.int .i64 a0_0, .slice A0_1 l0_1.length c0_1, .slice A0_2 l0_2.length c0_2, .slice (some ad214) l0_3.length c0_3] 33 (0, 0))) := ⟨by (with_reducible repeat (first | refine blk_drewN ?_ _ | refine blk_drew ?_ | refine blk_alloc ?_ _)); refine blk_far ?_ NB212_215.out _; (with_reducible repeat (first | refine blk_drewN ?_ _ | refine blk_drew ?_ | refine blk_alloc ?_ _)); refine blk_far ?_ NB212_215.out _; (with_reducible repeat (first | refine blk_drewN ?_ _ | refine blk_drew ?_ | refine blk_alloc ?_ _)); refine blk_far ?_ NB212_215.out _; (with_reducible repeat (first | refine blk_drewN ?_ _ | refine blk_drew ?_ | refine blk_alloc ?_ _)); exact BK212.out⟩
      have n1_ : Aside0 ((((w23.setCell ⟨gb215, 0, none⟩ (.int .i64 ((rd_T130 l0_3 x22_2).f0))).setCell ⟨gb215, 1, none⟩ (.int .i64 ((rd_T130 l0_3 x22_2).f1))).setCell ⟨gb215, 2, none⟩ (.slice A214_2 ((rd_T130 l0_3 x22_2).f2).length c214_2)).heap[gb215]? = some (.cells #[.int .i64 ((rd_T130 l0_3 x22_2).f0), .int .i64 ((rd_T130 l0_3 x22_2).f1), .slice A214_2 ((rd_T130 l0_3 x22_2).f2).length c214_2] 130 (0, 0))) := ⟨by (with_reducible repeat (first | refine blk_drewN ?_ _ | refine blk_drew ?_ | refine blk_alloc ?_ _)); refine blk_put (cs := #[.int .i64 ((rd_T130 l0_3 x22_2).f0), .int .i64 ((rd_T130 l0_3 x22_2).f1), .slice none 0 0]) ?_ 2 _ rfl; (with_reducible repeat (first | refine blk_drewN ?_ _ | refine blk_drew ?_ | refine blk_alloc ?_ _)); refine blk_put (cs := #[.int .i64 ((rd_T130 l0_3 x22_2).f0), .int .i64 0, .slice none 0 0]) ?_ 1 _ rfl; (with_reducible repeat (first | refine blk_drewN ?_ _ | refine blk_drew ?_ | refine blk_alloc ?_ _)); refine blk_put (cs := #[.int .i64 0, .int .i64 0, .slice none 0 0]) ?_ 0 _ rfl; (with_reducible repeat (first | refine blk_drewN ?_ _ | refine blk_drew ?_ | refine blk_alloc ?_ _)); exact BK215.out⟩
      have n2_ : Aside0 (Below w.heap.size w (((w23.setCell ⟨gb215, 0, none⟩ (.int .i64 ((rd_T130 l0_3 x22_2).f0))).setCell ⟨gb215, 1, none⟩ (.int .i64 ((rd_T130 l0_3 x22_2).f1))).setCell ⟨gb215, 2, none⟩ (.slice A214_2 ((rd_T130 l0_3 x22_2).f2).length c214_2))) := ⟨hB HB⟩
      (try clear BK212)
      (try clear BK215)
      (try clear HB)
      generalize (((w23.setCell ⟨gb215, 0, none⟩ (.int .i64 ((rd_T130 l0_3 x22_2).f0))).setCell ⟨gb215, 1, none⟩ (.int .i64 ((rd_T130 l0_3 x22_2).f1))).setCell ⟨gb215, 2, none⟩ (.slice A214_2 ((rd_T130 l0_3 x22_2).f2).length c214_2)) = w26 at n0_ n1_ n2_ ⊢
      have BK212 := n0_
      have BK215 := n1_
      have HB := n2_
      clear n0_ n1_ n2_
      replace BK212 := bd_ BK212
      replace BK215 := bd_ BK215
      replace HB := Aside0.mk (below_drew1 HB.out)
      have p217 : 0 ≤ ((ji19) : Int) := od_
      have q217 : (ji19) < (l0_3.length : Int) := od_
      obtain ⟨ad217, A217_2, c217_2, e217, hx217_0, hx217_1, hx217_2, hl217_2, hi217_2⟩ := at_T130 HR0_3.out (ji19) p217 q217
      have hw217_2 := hx217_2
      have hw217_1 := hx217_1
      have hw217_0 := hx217_0
      obtain rfl : ad214 = ad217 := (by injection e217)
      replace hx217_0 := hc_ HB hx217_0
      replace hx217_1 := hc_ HB hx217_1
      replace hx217_2 := hc_ HB hx217_2
      have HR217_2 := Aside0.mk hi217_2
      have HC217_2 := Aside0.mk hl217_2
      clear hi217_2 hl217_2
      replace p217 := eq_true p217
      replace q217 := eq_true q217
      refine start_ (n := 41) (S := fun w' => w'.cell? ⟨gb215, 0, none⟩ = some (.int .i64 ((rd_T130 l0_3 x22_2).f0)) ∧ w'.cell? ⟨gb215, 1, none⟩ = some (.int .i64 ((rd_T130 l0_3 x22_2).f1)) ∧ w'.cell? ⟨gb215, 2, none⟩ = some (.slice A214_2 ((rd_T130 l0_3 x22_2).f2).length c214_2) ∧ w'.cell? ⟨gb212, 0, none⟩ = some (.int .i64 a0_0) ∧ w'.cell? ⟨gb212, 1, none⟩ = some (.slice A0_1 l0_1.length c0_1) ∧ w'.cell? ⟨gb212, 2, none⟩ = some (.slice A0_2 l0_2.length c0_2) ∧ w'.cell? ⟨gb212, 3, none⟩ = some (.slice (some ad214) l0_3.length c0_3) ∧ w'.cell? (ad214.add (((ji19)).toNat * 3)) = some (.int .i64 ((rd_T130 l0_3 (ji19)).f0)) ∧ w'.cell? ⟨(ad214.add (((ji19)).toNat * 3)).block, (ad214.add (((ji19)).toNat * 3)).off + 1, none⟩ = some (.int .i64 ((rd_T130 l0_3 (ji19)).f1)) ∧ w'.cell? ⟨(ad214.add (((ji19)).toNat * 3)).block, (ad214.add (((ji19)).toNat * 3)).off + 2, none⟩ = some (.slice A217_2 ((rd_T130 l0_3 (ji19)).f2).length c217_2)) (ds := []) (bs 41 0) (by kernel_rfl) rfl rfl ⟨bc_ BK215 0, bc_ BK215 1, bc_ BK215 2, bc_ BK212 0, bc_ BK212 1, bc_ BK212 2, bc_ BK212 3, ((HB.out.cell (World.block_lt_of_cell? w _ hw217_0)).trans hw217_0), ((HB.out.cell (World.block_lt_of_cell? w _ hw217_1)).trans hw217_1), ((HB.out.cell (World.block_lt_of_cell? w _ hw217_2)).trans hw217_2)⟩ (fun hHeld => ?_); refine with_tabW impl_GoodCampus.tab6 impl_GoodCampus.bits6 (fun HT_ HW_ => ?_)
      generalize w26.drew = w27 at BK212 BK215 HB HR217_2 hx217_0 hx217_1 hx217_2 hHeld ⊢
      refine pu_ 0 27 (bs 41 1) HT_ ?_
      refine tk_ 1 28 (bs 41 3) HT_ HW_ hHeld ?_
      refine on_ 2 (some 29) (bs 41 7) HT_ (fun K hK => ?_)
      refine goes_ Try.func95 (by kernel_rfl) rfl #[.int .i64 ((rd_T130 l0_3 x22_2).f0)] (by rfl) rfl rfl tm_ ?_
      with_reducible refine (impl_isHost.calls ((rd_T130 l0_3 x22_2).f0) true _ A16.out).mono ?_
      rintro e w' ⟨rfl, ⟨nd, rfl⟩⟩
      refine ⟨_, rfl, ?_⟩
      refine hK.out _ _ ⟨bc_ BK215 0, bc_ BK215 1, bc_ BK215 2, bc_ BK212 0, bc_ BK212 1, bc_ BK212 2, bc_ BK212 3, ((HB.out.cell (World.block_lt_of_cell? w _ hw217_0)).trans hw217_0), ((HB.out.cell (World.block_lt_of_cell? w _ hw217_1)).trans hw217_1), ((HB.out.cell (World.block_lt_of_cell? w _ hw217_2)).trans hw217_2)⟩ (fun hHeld => ?_)
      clear hK K
      refine nm_ 29 ?_
      refine pu_ 3 30 (bs 41 15) HT_ ?_
      refine pu_ 4 31 (bs 41 31) HT_ ?_
      refine pu_ 5 32 (bs 41 63) HT_ ?_
      refine pu_ 6 33 (bs 41 127) HT_ ?_
      refine pu_ 7 34 (bs 41 255) HT_ ?_
      refine pu_ 8 35 (bs 41 511) HT_ ?_
      refine pu_ 10 37 (bs 41 1535) HT_ ?_
      refine pu_ 11 38 (bs 41 3583) HT_ ?_
      refine pu_ 15 42 (bs 41 36351) HT_ ?_
      refine tk_ 9 36 (bs 41 36863) HT_ HW_ hHeld ?_
      refine pu_ 12 39 (bs 41 40959) HT_ ?_
      refine pu_ 13 40 (bs 41 49151) HT_ ?_
      refine tk_ 14 41 (bs 41 65535) HT_ HW_ hHeld ?_
      refine tk_ 16 43 (bs 41 131071) HT_ HW_ hHeld ?_
      refine pu_ 17 44 (bs 41 262143) HT_ ?_
      refine pu_ 18 45 (bs 41 524287) HT_ ?_
      refine pu_ 19 46 (bs 41 1048575) HT_ ?_
      refine pu_ 20 47 (bs 41 2097151) HT_ ?_
      refine pn_ 21 48 (bs 41 4194303) HT_ ?_
      refine pn_ 22 49 (bs 41 8388607) HT_ ?_
      refine pn_ 23 50 (bs 41 16777215) HT_ ?_
      refine pn_ 24 51 (bs 41 33554431) HT_ ?_
      refine pn_ 25 52 (bs 41 67108863) HT_ ?_
      refine pn_ 26 53 (bs 41 134217727) HT_ ?_
      refine pn_ 27 54 (bs 41 268435455) HT_ ?_
      refine pu_ 28 55 (bs 41 536870911) HT_ ?_
      refine pu_ 29 56 (bs 41 1073741823) HT_ ?_
      refine pn_ 30 57 (bs 41 2147483647) HT_ ?_
      refine pn_ 31 58 (bs 41 4294967295) HT_ ?_
      refine pn_ 32 59 (bs 41 8589934591) HT_ ?_
      refine pn_ 33 60 (bs 41 17179869183) HT_ ?_
      refine pu_ 34 61 (bs 41 34359738367) HT_ ?_
      refine pu_ 35 62 (bs 41 68719476735) HT_ ?_
      refine pn_ 36 63 (bs 41 137438953471) HT_ ?_
      refine pn_ 37 64 (bs 41 274877906943) HT_ ?_
      refine pn_ 38 65 (bs 41 549755813887) HT_ ?_
      refine pn_ 39 66 (bs 41 1099511627775) HT_ ?_
      refine pu_ 40 67 (bs 41 2199023255551) HT_ ?_
      refine done_ (done_of HT_.out (by kernel_rfl)) ?_
      try go_wp2
      go_ret
      exact ⟨by first | rfl | (simp [errW_none, errW_some] <;> rfl) | (simp only [← hji19]; first | rfl | (simp [errW_none, errW_some] <;> rfl)) | (simp [*, errW_none, errW_some] <;> rfl), hB HB⟩
     rw [if_neg c22] at H
     have c22b0 : decide (((rd_T130 l0_3 x22_2).f0) ≤ ((rd_T130 l0_3 (ji19)).f0)) = false := decide_eq_false c22
     clear c22
     replace H := Option.bind_eq_some_iff.mp H
     obtain ⟨t218, A280, H⟩ := H
     replace H : (if t218 = true then ((impl_rising.f k2 ((rd_T130 l0_3 x22_2).f2)).bind fun t219 => (if t219 = true then ((impl_allIn.f k2 ((rd_T130 l0_3 x22_2).f2) 1 20).bind fun t220 => (if t220 = true then (impl_GoodCampus.l0 k2 l0_3 (l0_3.length : Int) (wrap64 (x22_2 + 1)) a0_0 l0_1 l0_2 l0_3) else (some false))) else (some false))) else (some false)) = some r := H
     have A28 := Aside0.mk A280
     clear A280
     by_cases c29 : t218 = true
     rotate_left
     ·replace c29 := Bool.eq_false_iff.mpr c29
      subst c29
      rw [if_neg (show ¬ (false = true) by decide)] at H
      obtain rfl := Option.some.inj H
      have p214 : 0 ≤ (x22_2 : Int) := od_
      have q214 : x22_2 < (l0_3.length : Int) := od_
      obtain ⟨ad214, A214_2, c214_2, e214, hx214_0, hx214_1, hx214_2, hl214_2, hi214_2⟩ := at_T130 HR0_3.out x22_2 p214 q214
      cases e214
      replace hx214_0 := hc_ HB hx214_0
      replace hx214_1 := hc_ HB hx214_1
      replace hx214_2 := hc_ HB hx214_2
      have HR214_2 := Aside0.mk hi214_2
      have HC214_2 := Aside0.mk hl214_2
      clear hi214_2 hl214_2
      replace p214 := eq_true p214
      replace q214 := eq_true q214
      try go_wp2_with (first | ((with_reducible refine gate_dst (N := 4) rfl ?_); (try (refine gate_guard (by rfl) ?_; dsimp only)); refine box_event ?hg (N := 4) ?hd (cs := #[.int .i64 0, .int .i64 0, .slice none 0 0]) (t := 130) ?hr ?_; (case hd => rfl); (case hg => rfl); (case hr => first | (go_simp; done) | (go_simp; rfl)); intro gb215 hg w49 hbox hb; have BK215 := Aside0.mk (hbox); have GW215 := gw_ hg HB; have GE215 := gw_ hg HB; have NB212_215 := nl_ hg BK212; have NB215_212 := ng_ hg BK212; replace BK212 := bb_ BK212 hb; replace HB := bst_ HB hb; clear hb hbox hg; have hnb50 := NB215_212.out; have hnc50 := NB212_215.out; obtain ⟨hcz51_0, hcz51_1, hcz51_2⟩ := bcs3_ BK215; have hfz51_0 := blk_frozen BK215.out 0; have hfz51_1 := blk_frozen BK215.out 1; have hfz51_2 := blk_frozen BK215.out 2))
      have n0_ : Aside0 ((((w49.setCell ⟨gb215, 0, none⟩ (.int .i64 ((rd_T130 l0_3 x22_2).f0))).setCell ⟨gb215, 1, none⟩ (.int .i64 ((rd_T130 l0_3 x22_2).f1))).setCell ⟨gb215, 2, none⟩ (.slice A214_2 ((rd_T130 l0_3 x22_2).f2).length c214_2)).heap[gb212]? = some (.cells #[.int .i64 a0_0, .slice A0_1 l0_1.length c0_1, .slice A0_2 l0_2.length c0_2, .slice (some ad214) l0_3.length c0_3] 33 (0, 0))) := ⟨by (with_reducible repeat (first | refine blk_drewN ?_ _ | refine blk_drew ?_ | refine blk_alloc ?_ _)); refine blk_far ?_ NB212_215.out _; (with_reducible repeat (first | refine blk_drewN ?_ _ | refine blk_drew ?_ | refine blk_alloc ?_ _)); refine blk_far ?_ NB212_215.out _; (with_reducible repeat (first | refine blk_drewN ?_ _ | refine blk_drew ?_ | refine blk_alloc ?_ _)); refine blk_far ?_ NB212_215.out _; (with_reducible repeat (first | refine blk_drewN ?_ _ | refine blk_drew ?_ | refine blk_alloc ?_ _)); exact BK212.out⟩
      have n1_ : Aside0 ((((w49.setCell ⟨gb215, 0, none⟩ (.int .i64 ((rd_T130 l0_3 x22_2).f0))).setCell ⟨gb215, 1, none⟩ (.int .i64 ((rd_T130 l0_3 x22_2).f1))).setCell ⟨gb215, 2, none⟩ (.slice A214_2 ((rd_T130 l0_3 x22_2).f2).length c214_2)).heap[gb215]? = some (.cells #[.int .i64 ((rd_T130 l0_3 x22_2).f0), .int .i64 ((rd_T130 l0_3 x22_2).f1), .slice A214_2 ((rd_T130 l0_3 x22_2).f2).length c214_2] 130 (0, 0))) := ⟨by (with_reducible repeat (first | refine blk_drewN ?_ _ | refine blk_drew ?_ | refine blk_alloc ?_ _)); refine blk_put (cs := #[.int .i64 ((rd_T130 l0_3 x22_2).f0), .int .i64 ((rd_T130 l0_3 x22_2).f1), .slice none 0 0]) ?_ 2 _ rfl; (with_reducible repeat (first | refine blk_drewN ?_ _ | refine blk_drew ?_ | refine blk_alloc ?_ _)); refine blk_put (cs := #[.int .i64 ((rd_T130 l0_3 x22_2).f0), .int .i64 0, .slice none 0 0]) ?_ 1 _ rfl; (with_reducible repeat (first | refine blk_drewN ?_ _ | refine blk_drew ?_ | refine blk_alloc ?_ _)); refine blk_put (cs := #[.int .i64 0, .int .i64 0, .slice none 0 0]) ?_ 0 _ rfl; (with_reducible repeat (first | refine blk_drewN ?_ _ | refine blk_drew ?_ | refine blk_alloc ?_ _)); exact BK215.out⟩
      have n2_ : Aside0 (Below w.heap.size w (((w49.setCell ⟨gb215, 0, none⟩ (.int .i64 ((rd_T130 l0_3 x22_2).f0))).setCell ⟨gb215, 1, none⟩ (.int .i64 ((rd_T130 l0_3 x22_2).f1))).setCell ⟨gb215, 2, none⟩ (.slice A214_2 ((rd_T130 l0_3 x22_2).f2).length c214_2))) := ⟨hB HB⟩
      (try clear BK212)
      (try clear BK215)
      (try clear HB)
      generalize (((w49.setCell ⟨gb215, 0, none⟩ (.int .i64 ((rd_T130 l0_3 x22_2).f0))).setCell ⟨gb215, 1, none⟩ (.int .i64 ((rd_T130 l0_3 x22_2).f1))).setCell ⟨gb215, 2, none⟩ (.slice A214_2 ((rd_T130 l0_3 x22_2).f2).length c214_2)) = w52 at n0_ n1_ n2_ ⊢
      have BK212 := n0_
      have BK215 := n1_
      have HB := n2_
      clear n0_ n1_ n2_
      replace BK212 := bd_ BK212
      replace BK215 := bd_ BK215
      replace HB := Aside0.mk (below_drew1 HB.out)
      have p217 : 0 ≤ ((ji19) : Int) := od_
      have q217 : (ji19) < (l0_3.length : Int) := od_
      obtain ⟨ad217, A217_2, c217_2, e217, hx217_0, hx217_1, hx217_2, hl217_2, hi217_2⟩ := at_T130 HR0_3.out (ji19) p217 q217
      have hw217_2 := hx217_2
      have hw217_1 := hx217_1
      have hw217_0 := hx217_0
      obtain rfl : ad214 = ad217 := (by injection e217)
      replace hx217_0 := hc_ HB hx217_0
      replace hx217_1 := hc_ HB hx217_1
      replace hx217_2 := hc_ HB hx217_2
      have HR217_2 := Aside0.mk hi217_2
      have HC217_2 := Aside0.mk hl217_2
      clear hi217_2 hl217_2
      replace p217 := eq_true p217
      replace q217 := eq_true q217
      refine start_ (n := 41) (S := fun w' => w'.cell? ⟨gb215, 0, none⟩ = some (.int .i64 ((rd_T130 l0_3 x22_2).f0)) ∧ w'.cell? ⟨gb215, 1, none⟩ = some (.int .i64 ((rd_T130 l0_3 x22_2).f1)) ∧ w'.cell? ⟨gb215, 2, none⟩ = some (.slice A214_2 ((rd_T130 l0_3 x22_2).f2).length c214_2) ∧ w'.cell? ⟨gb212, 0, none⟩ = some (.int .i64 a0_0) ∧ w'.cell? ⟨gb212, 1, none⟩ = some (.slice A0_1 l0_1.length c0_1) ∧ w'.cell? ⟨gb212, 2, none⟩ = some (.slice A0_2 l0_2.length c0_2) ∧ w'.cell? ⟨gb212, 3, none⟩ = some (.slice (some ad214) l0_3.length c0_3) ∧ w'.cell? (ad214.add (((ji19)).toNat * 3)) = some (.int .i64 ((rd_T130 l0_3 (ji19)).f0)) ∧ w'.cell? ⟨(ad214.add (((ji19)).toNat * 3)).block, (ad214.add (((ji19)).toNat * 3)).off + 1, none⟩ = some (.int .i64 ((rd_T130 l0_3 (ji19)).f1)) ∧ w'.cell? ⟨(ad214.add (((ji19)).toNat * 3)).block, (ad214.add (((ji19)).toNat * 3)).off + 2, none⟩ = some (.slice A217_2 ((rd_T130 l0_3 (ji19)).f2).length c217_2)) (ds := []) (bs 41 0) (by kernel_rfl) rfl rfl ⟨bc_ BK215 0, bc_ BK215 1, bc_ BK215 2, bc_ BK212 0, bc_ BK212 1, bc_ BK212 2, bc_ BK212 3, ((HB.out.cell (World.block_lt_of_cell? w _ hw217_0)).trans hw217_0), ((HB.out.cell (World.block_lt_of_cell? w _ hw217_1)).trans hw217_1), ((HB.out.cell (World.block_lt_of_cell? w _ hw217_2)).trans hw217_2)⟩ (fun hHeld => ?_); refine with_tabW impl_GoodCampus.tab6 impl_GoodCampus.bits6 (fun HT_ HW_ => ?_)
      generalize w52.drew = w53 at BK212 BK215 HB HR217_2 hx217_0 hx217_1 hx217_2 hHeld ⊢
      refine pu_ 0 27 (bs 41 1) HT_ ?_
      refine tk_ 1 28 (bs 41 3) HT_ HW_ hHeld ?_
      refine on_ 2 (some 29) (bs 41 7) HT_ (fun K hK => ?_)
      refine goes_ Try.func95 (by kernel_rfl) rfl #[.int .i64 ((rd_T130 l0_3 x22_2).f0)] (by rfl) rfl rfl tm_ ?_
      with_reducible refine (impl_isHost.calls ((rd_T130 l0_3 x22_2).f0) true _ A16.out).mono ?_
      rintro e w' ⟨rfl, ⟨nd, rfl⟩⟩
      refine ⟨_, rfl, ?_⟩
      refine hK.out _ _ ⟨bc_ BK215 0, bc_ BK215 1, bc_ BK215 2, bc_ BK212 0, bc_ BK212 1, bc_ BK212 2, bc_ BK212 3, ((HB.out.cell (World.block_lt_of_cell? w _ hw217_0)).trans hw217_0), ((HB.out.cell (World.block_lt_of_cell? w _ hw217_1)).trans hw217_1), ((HB.out.cell (World.block_lt_of_cell? w _ hw217_2)).trans hw217_2)⟩ (fun hHeld => ?_)
      clear hK K
      refine nm_ 29 ?_
      refine pu_ 3 30 (bs 41 15) HT_ ?_
      refine pu_ 4 31 (bs 41 31) HT_ ?_
      refine pu_ 5 32 (bs 41 63) HT_ ?_
      refine pu_ 6 33 (bs 41 127) HT_ ?_
      refine pu_ 7 34 (bs 41 255) HT_ ?_
      refine pu_ 8 35 (bs 41 511) HT_ ?_
      refine pu_ 10 37 (bs 41 1535) HT_ ?_
      refine pu_ 11 38 (bs 41 3583) HT_ ?_
      refine pu_ 15 42 (bs 41 36351) HT_ ?_
      refine tk_ 9 36 (bs 41 36863) HT_ HW_ hHeld ?_
      refine pu_ 12 39 (bs 41 40959) HT_ ?_
      refine pu_ 13 40 (bs 41 49151) HT_ ?_
      refine tk_ 14 41 (bs 41 65535) HT_ HW_ hHeld ?_
      refine tk_ 16 43 (bs 41 131071) HT_ HW_ hHeld ?_
      refine pu_ 17 44 (bs 41 262143) HT_ ?_
      refine pu_ 18 45 (bs 41 524287) HT_ ?_
      refine pu_ 19 46 (bs 41 1048575) HT_ ?_
      refine pu_ 20 47 (bs 41 2097151) HT_ ?_
      refine pu_ 21 48 (bs 41 4194303) HT_ ?_
      refine pu_ 23 50 (bs 41 12582911) HT_ ?_
      refine tk_ 22 49 (bs 41 16777215) HT_ HW_ hHeld ?_
      refine tk_ 24 51 (bs 41 33554431) HT_ HW_ hHeld ?_
      refine pu_ 25 52 (bs 41 67108863) HT_ ?_
      refine on_ 26 (some 53) (bs 41 134217727) HT_ (fun K hK => ?_)
      refine goes_ Try.func96 (by kernel_rfl) rfl #[.int .i64 ((rd_T130 l0_3 x22_2).f1), .int .i64 0, .int .i64 (wrap64 (a0_0 - 1))] (by rfl) rfl rfl tm_ ?_
      with_reducible refine (impl_in.calls ((rd_T130 l0_3 x22_2).f1) 0 (wrap64 (a0_0 - 1)) false _ A28.out).mono ?_
      rintro e w' ⟨rfl, ⟨nd, rfl⟩⟩
      refine ⟨_, rfl, ?_⟩
      refine hK.out _ _ ⟨bc_ BK215 0, bc_ BK215 1, bc_ BK215 2, bc_ BK212 0, bc_ BK212 1, bc_ BK212 2, bc_ BK212 3, ((HB.out.cell (World.block_lt_of_cell? w _ hw217_0)).trans hw217_0), ((HB.out.cell (World.block_lt_of_cell? w _ hw217_1)).trans hw217_1), ((HB.out.cell (World.block_lt_of_cell? w _ hw217_2)).trans hw217_2)⟩ (fun hHeld => ?_)
      clear hK K
      refine nm_ 53 ?_
      refine pu_ 27 54 (bs 41 268435455) HT_ ?_
      refine pu_ 28 55 (bs 41 536870911) HT_ ?_
      refine pu_ 29 56 (bs 41 1073741823) HT_ ?_
      refine pn_ 30 57 (bs 41 2147483647) HT_ ?_
      refine pn_ 31 58 (bs 41 4294967295) HT_ ?_
      refine pn_ 32 59 (bs 41 8589934591) HT_ ?_
      refine pn_ 33 60 (bs 41 17179869183) HT_ ?_
      refine pu_ 34 61 (bs 41 34359738367) HT_ ?_
      refine pu_ 35 62 (bs 41 68719476735) HT_ ?_
      refine pn_ 36 63 (bs 41 137438953471) HT_ ?_
      refine pn_ 37 64 (bs 41 274877906943) HT_ ?_
      refine pn_ 38 65 (bs 41 549755813887) HT_ ?_
      refine pn_ 39 66 (bs 41 1099511627775) HT_ ?_
      refine pu_ 40 67 (bs 41 2199023255551) HT_ ?_
      refine done_ (done_of HT_.out (by kernel_rfl)) ?_
      try go_wp2
      go_ret
      exact ⟨by first | rfl | (simp [errW_none, errW_some] <;> rfl) | (simp only [← hji19]; first | rfl | (simp [errW_none, errW_some] <;> rfl)) | (simp [*, errW_none, errW_some] <;> rfl), hB HB⟩
     subst c29
     rw [if_pos rfl] at H
     replace H := Option.bind_eq_some_iff.mp H
     obtain ⟨t219, A300, H⟩ := H
     replace H : (if t219 = true then ((impl_allIn.f k2 ((rd_T130 l0_3 x22_2).f2) 1 20).bind fun t220 => (if t220 = true then (impl_GoodCampus.l0 k2 l0_3 (l0_3.length : Int) (wrap64 (x22_2 + 1)) a0_0 l0_1 l0_2 l0_3) else (some false))) else (some false)) = some r := H
     have A30 := Aside0.mk A300
     clear A300
     by_cases c31 : t219 = true
     rotate_left
     ·replace c31 := Bool.eq_false_iff.mpr c31
      subst c31
      rw [if_neg (show ¬ (false = true) by decide)] at H
      obtain rfl := Option.some.inj H
      have p214 : 0 ≤ (x22_2 : Int) := od_
      have q214 : x22_2 < (l0_3.length : Int) := od_
      obtain ⟨ad214, A214_2, c214_2, e214, hx214_0, hx214_1, hx214_2, hl214_2, hi214_2⟩ := at_T130 HR0_3.out x22_2 p214 q214
      cases e214
      replace hx214_0 := hc_ HB hx214_0
      replace hx214_1 := hc_ HB hx214_1
      replace hx214_2 := hc_ HB hx214_2
      have HR214_2 := Aside0.mk hi214_2
      have HC214_2 := Aside0.mk hl214_2
      clear hi214_2 hl214_2
      replace p214 := eq_true p214
      replace q214 := eq_true q214
      try go_wp2_with (first | ((with_reducible refine gate_dst (N := 4) rfl ?_); (try (refine gate_guard (by rfl) ?_; dsimp only)); refine box_event ?hg (N := 4) ?hd (cs := #[.int .i64 0, .int .i64 0, .slice none 0 0]) (t := 130) ?hr ?_; (case hd => rfl); (case hg => rfl); (case hr => first | (go_simp; done) | (go_simp; rfl)); intro gb215 hg w44 hbox hb; have BK215 := Aside0.mk (hbox); have GW215 := gw_ hg HB; have GE215 := gw_ hg HB; have NB212_215 := nl_ hg BK212; have NB215_212 := ng_ hg BK212; replace BK212 := bb_ BK212 hb; replace HB := bst_ HB hb; clear hb hbox hg; have hnb45 := NB215_212.out; have hnc45 := NB212_215.out; obtain ⟨hcz46_0, hcz46_1, hcz46_2⟩ := bcs3_ BK215; have hfz46_0 := blk_frozen BK215.out 0; have hfz46_1 := blk_frozen BK215.out 1; have hfz46_2 := blk_frozen BK215.out 2))
      have n0_ : Aside0 ((((w44.setCell ⟨gb215, 0, none⟩ (.int .i64 ((rd_T130 l0_3 x22_2).f0))).setCell ⟨gb215, 1, none⟩ (.int .i64 ((rd_T130 l0_3 x22_2).f1))).setCell ⟨gb215, 2, none⟩ (.slice A214_2 ((rd_T130 l0_3 x22_2).f2).length c214_2)).heap[gb212]? = some (.cells #[.int .i64 a0_0, .slice A0_1 l0_1.length c0_1, .slice A0_2 l0_2.length c0_2, .slice (some ad214) l0_3.length c0_3] 33 (0, 0))) := ⟨by (with_reducible repeat (first | refine blk_drewN ?_ _ | refine blk_drew ?_ | refine blk_alloc ?_ _)); refine blk_far ?_ NB212_215.out _; (with_reducible repeat (first | refine blk_drewN ?_ _ | refine blk_drew ?_ | refine blk_alloc ?_ _)); refine blk_far ?_ NB212_215.out _; (with_reducible repeat (first | refine blk_drewN ?_ _ | refine blk_drew ?_ | refine blk_alloc ?_ _)); refine blk_far ?_ NB212_215.out _; (with_reducible repeat (first | refine blk_drewN ?_ _ | refine blk_drew ?_ | refine blk_alloc ?_ _)); exact BK212.out⟩
      have n1_ : Aside0 ((((w44.setCell ⟨gb215, 0, none⟩ (.int .i64 ((rd_T130 l0_3 x22_2).f0))).setCell ⟨gb215, 1, none⟩ (.int .i64 ((rd_T130 l0_3 x22_2).f1))).setCell ⟨gb215, 2, none⟩ (.slice A214_2 ((rd_T130 l0_3 x22_2).f2).length c214_2)).heap[gb215]? = some (.cells #[.int .i64 ((rd_T130 l0_3 x22_2).f0), .int .i64 ((rd_T130 l0_3 x22_2).f1), .slice A214_2 ((rd_T130 l0_3 x22_2).f2).length c214_2] 130 (0, 0))) := ⟨by (with_reducible repeat (first | refine blk_drewN ?_ _ | refine blk_drew ?_ | refine blk_alloc ?_ _)); refine blk_put (cs := #[.int .i64 ((rd_T130 l0_3 x22_2).f0), .int .i64 ((rd_T130 l0_3 x22_2).f1), .slice none 0 0]) ?_ 2 _ rfl; (with_reducible repeat (first | refine blk_drewN ?_ _ | refine blk_drew ?_ | refine blk_alloc ?_ _)); refine blk_put (cs := #[.int .i64 ((rd_T130 l0_3 x22_2).f0), .int .i64 0, .slice none 0 0]) ?_ 1 _ rfl; (with_reducible repeat (first | refine blk_drewN ?_ _ | refine blk_drew ?_ | refine blk_alloc ?_ _)); refine blk_put (cs := #[.int .i64 0, .int .i64 0, .slice none 0 0]) ?_ 0 _ rfl; (with_reducible repeat (first | refine blk_drewN ?_ _ | refine blk_drew ?_ | refine blk_alloc ?_ _)); exact BK215.out⟩
      have n2_ : Aside0 (Below w.heap.size w (((w44.setCell ⟨gb215, 0, none⟩ (.int .i64 ((rd_T130 l0_3 x22_2).f0))).setCell ⟨gb215, 1, none⟩ (.int .i64 ((rd_T130 l0_3 x22_2).f1))).setCell ⟨gb215, 2, none⟩ (.slice A214_2 ((rd_T130 l0_3 x22_2).f2).length c214_2))) := ⟨hB HB⟩
      (try clear BK212)
      (try clear BK215)
      (try clear HB)
      generalize (((w44.setCell ⟨gb215, 0, none⟩ (.int .i64 ((rd_T130 l0_3 x22_2).f0))).setCell ⟨gb215, 1, none⟩ (.int .i64 ((rd_T130 l0_3 x22_2).f1))).setCell ⟨gb215, 2, none⟩ (.slice A214_2 ((rd_T130 l0_3 x22_2).f2).length c214_2)) = w47 at n0_ n1_ n2_ ⊢
      have BK212 := n0_
      have BK215 := n1_
      have HB := n2_
      clear n0_ n1_ n2_
      replace BK212 := bd_ BK212
      replace BK215 := bd_ BK215
      replace HB := Aside0.mk (below_drew1 HB.out)
      have p217 : 0 ≤ ((ji19) : Int) := od_
      have q217 : (ji19) < (l0_3.length : Int) := od_
      obtain ⟨ad217, A217_2, c217_2, e217, hx217_0, hx217_1, hx217_2, hl217_2, hi217_2⟩ := at_T130 HR0_3.out (ji19) p217 q217
      have hw217_2 := hx217_2
      have hw217_1 := hx217_1
      have hw217_0 := hx217_0
      obtain rfl : ad214 = ad217 := (by injection e217)
      replace hx217_0 := hc_ HB hx217_0
      replace hx217_1 := hc_ HB hx217_1
      replace hx217_2 := hc_ HB hx217_2
      have HR217_2 := Aside0.mk hi217_2
      have HC217_2 := Aside0.mk hl217_2
      clear hi217_2 hl217_2
      replace p217 := eq_true p217
      replace q217 := eq_true q217
      refine start_ (n := 41) (S := fun w' => w'.cell? ⟨gb215, 0, none⟩ = some (.int .i64 ((rd_T130 l0_3 x22_2).f0)) ∧ w'.cell? ⟨gb215, 1, none⟩ = some (.int .i64 ((rd_T130 l0_3 x22_2).f1)) ∧ w'.cell? ⟨gb215, 2, none⟩ = some (.slice A214_2 ((rd_T130 l0_3 x22_2).f2).length c214_2) ∧ w'.cell? ⟨gb212, 0, none⟩ = some (.int .i64 a0_0) ∧ w'.cell? ⟨gb212, 1, none⟩ = some (.slice A0_1 l0_1.length c0_1) ∧ w'.cell? ⟨gb212, 2, none⟩ = some (.slice A0_2 l0_2.length c0_2) ∧ w'.cell? ⟨gb212, 3, none⟩ = some (.slice (some ad214) l0_3.length c0_3) ∧ w'.cell? (ad214.add (((ji19)).toNat * 3)) = some (.int .i64 ((rd_T130 l0_3 (ji19)).f0)) ∧ w'.cell? ⟨(ad214.add (((ji19)).toNat * 3)).block, (ad214.add (((ji19)).toNat * 3)).off + 1, none⟩ = some (.int .i64 ((rd_T130 l0_3 (ji19)).f1)) ∧ w'.cell? ⟨(ad214.add (((ji19)).toNat * 3)).block, (ad214.add (((ji19)).toNat * 3)).off + 2, none⟩ = some (.slice A217_2 ((rd_T130 l0_3 (ji19)).f2).length c217_2)) (ds := []) (bs 41 0) (by kernel_rfl) rfl rfl ⟨bc_ BK215 0, bc_ BK215 1, bc_ BK215 2, bc_ BK212 0, bc_ BK212 1, bc_ BK212 2, bc_ BK212 3, ((HB.out.cell (World.block_lt_of_cell? w _ hw217_0)).trans hw217_0), ((HB.out.cell (World.block_lt_of_cell? w _ hw217_1)).trans hw217_1), ((HB.out.cell (World.block_lt_of_cell? w _ hw217_2)).trans hw217_2)⟩ (fun hHeld => ?_); refine with_tabW impl_GoodCampus.tab6 impl_GoodCampus.bits6 (fun HT_ HW_ => ?_)
      generalize w47.drew = w48 at BK212 BK215 HB HR217_2 hx217_0 hx217_1 hx217_2 hHeld ⊢
      refine pu_ 0 27 (bs 41 1) HT_ ?_
      refine tk_ 1 28 (bs 41 3) HT_ HW_ hHeld ?_
      refine on_ 2 (some 29) (bs 41 7) HT_ (fun K hK => ?_)
      refine goes_ Try.func95 (by kernel_rfl) rfl #[.int .i64 ((rd_T130 l0_3 x22_2).f0)] (by rfl) rfl rfl tm_ ?_
      with_reducible refine (impl_isHost.calls ((rd_T130 l0_3 x22_2).f0) true _ A16.out).mono ?_
      rintro e w' ⟨rfl, ⟨nd, rfl⟩⟩
      refine ⟨_, rfl, ?_⟩
      refine hK.out _ _ ⟨bc_ BK215 0, bc_ BK215 1, bc_ BK215 2, bc_ BK212 0, bc_ BK212 1, bc_ BK212 2, bc_ BK212 3, ((HB.out.cell (World.block_lt_of_cell? w _ hw217_0)).trans hw217_0), ((HB.out.cell (World.block_lt_of_cell? w _ hw217_1)).trans hw217_1), ((HB.out.cell (World.block_lt_of_cell? w _ hw217_2)).trans hw217_2)⟩ (fun hHeld => ?_)
      clear hK K
      refine nm_ 29 ?_
      refine pu_ 3 30 (bs 41 15) HT_ ?_
      refine pu_ 4 31 (bs 41 31) HT_ ?_
      refine pu_ 5 32 (bs 41 63) HT_ ?_
      refine pu_ 6 33 (bs 41 127) HT_ ?_
      refine pu_ 7 34 (bs 41 255) HT_ ?_
      refine pu_ 8 35 (bs 41 511) HT_ ?_
      refine pu_ 10 37 (bs 41 1535) HT_ ?_
      refine pu_ 11 38 (bs 41 3583) HT_ ?_
      refine pu_ 15 42 (bs 41 36351) HT_ ?_
      refine tk_ 9 36 (bs 41 36863) HT_ HW_ hHeld ?_
      refine pu_ 12 39 (bs 41 40959) HT_ ?_
      refine pu_ 13 40 (bs 41 49151) HT_ ?_
      refine tk_ 14 41 (bs 41 65535) HT_ HW_ hHeld ?_
      refine tk_ 16 43 (bs 41 131071) HT_ HW_ hHeld ?_
      refine pu_ 17 44 (bs 41 262143) HT_ ?_
      refine pu_ 18 45 (bs 41 524287) HT_ ?_
      refine pu_ 19 46 (bs 41 1048575) HT_ ?_
      refine pu_ 20 47 (bs 41 2097151) HT_ ?_
      refine pu_ 21 48 (bs 41 4194303) HT_ ?_
      refine pu_ 23 50 (bs 41 12582911) HT_ ?_
      refine tk_ 22 49 (bs 41 16777215) HT_ HW_ hHeld ?_
      refine tk_ 24 51 (bs 41 33554431) HT_ HW_ hHeld ?_
      refine pu_ 25 52 (bs 41 67108863) HT_ ?_
      refine on_ 26 (some 53) (bs 41 134217727) HT_ (fun K hK => ?_)
      refine goes_ Try.func96 (by kernel_rfl) rfl #[.int .i64 ((rd_T130 l0_3 x22_2).f1), .int .i64 0, .int .i64 (wrap64 (a0_0 - 1))] (by rfl) rfl rfl tm_ ?_
      with_reducible refine (impl_in.calls ((rd_T130 l0_3 x22_2).f1) 0 (wrap64 (a0_0 - 1)) true _ A28.out).mono ?_
      rintro e w' ⟨rfl, ⟨nd, rfl⟩⟩
      refine ⟨_, rfl, ?_⟩
      refine hK.out _ _ ⟨bc_ BK215 0, bc_ BK215 1, bc_ BK215 2, bc_ BK212 0, bc_ BK212 1, bc_ BK212 2, bc_ BK212 3, ((HB.out.cell (World.block_lt_of_cell? w _ hw217_0)).trans hw217_0), ((HB.out.cell (World.block_lt_of_cell? w _ hw217_1)).trans hw217_1), ((HB.out.cell (World.block_lt_of_cell? w _ hw217_2)).trans hw217_2)⟩ (fun hHeld => ?_)
      clear hK K
      refine nm_ 53 ?_
      refine pu_ 27 54 (bs 41 268435455) HT_ ?_
      refine pu_ 28 55 (bs 41 536870911) HT_ ?_
      refine pu_ 29 56 (bs 41 1073741823) HT_ ?_
      refine pu_ 30 57 (bs 41 2147483647) HT_ ?_
      refine tk_ 31 58 (bs 41 4294967295) HT_ HW_ hHeld ?_
      refine on_ 32 (some 59) (bs 41 8589934591) HT_ (fun K hK => ?_)
      refine goes_ Try.func97 (by kernel_rfl) rfl #[.slice A214_2 ((rd_T130 l0_3 x22_2).f2).length c214_2] (by rfl) rfl rfl tm_ ?_
      with_reducible refine (impl_rising.calls k2 _ _ ((rd_T130 l0_3 x22_2).f2) false _ ?side1 ?side2 A30.out).mono ?_
      (case side1 => exact ca (Kd.C_below HR214_2.out (hB HB)))
      (case side2 => exact HC214_2.out)
      rintro e w' ⟨rfl, ⟨nd, rfl⟩⟩
      refine ⟨_, rfl, ?_⟩
      refine hK.out _ _ ⟨bc_ BK215 0, bc_ BK215 1, bc_ BK215 2, bc_ BK212 0, bc_ BK212 1, bc_ BK212 2, bc_ BK212 3, ((HB.out.cell (World.block_lt_of_cell? w _ hw217_0)).trans hw217_0), ((HB.out.cell (World.block_lt_of_cell? w _ hw217_1)).trans hw217_1), ((HB.out.cell (World.block_lt_of_cell? w _ hw217_2)).trans hw217_2)⟩ (fun hHeld => ?_)
      clear hK K
      refine nm_ 59 ?_
      refine pu_ 33 60 (bs 41 17179869183) HT_ ?_
      refine pu_ 34 61 (bs 41 34359738367) HT_ ?_
      refine pu_ 35 62 (bs 41 68719476735) HT_ ?_
      refine pn_ 36 63 (bs 41 137438953471) HT_ ?_
      refine pn_ 37 64 (bs 41 274877906943) HT_ ?_
      refine pn_ 38 65 (bs 41 549755813887) HT_ ?_
      refine pn_ 39 66 (bs 41 1099511627775) HT_ ?_
      refine pu_ 40 67 (bs 41 2199023255551) HT_ ?_
      refine done_ (done_of HT_.out (by kernel_rfl)) ?_
      try go_wp2
      go_ret
      exact ⟨by first | rfl | (simp [errW_none, errW_some] <;> rfl) | (simp only [← hji19]; first | rfl | (simp [errW_none, errW_some] <;> rfl)) | (simp [*, errW_none, errW_some] <;> rfl), hB HB⟩
     subst c31
     rw [if_pos rfl] at H
     replace H := Option.bind_eq_some_iff.mp H
     obtain ⟨t220, A320, H⟩ := H
     replace H : (if t220 = true then (impl_GoodCampus.l0 k2 l0_3 (l0_3.length : Int) (wrap64 (x22_2 + 1)) a0_0 l0_1 l0_2 l0_3) else (some false)) = some r := H
     have A32 := Aside0.mk A320
     clear A320
     by_cases c33 : t220 = true
     ·subst c33
      rw [if_pos rfl] at H
      have H' := Aside0.mk H
      clear H
      have p214 : 0 ≤ (x22_2 : Int) := od_
      have q214 : x22_2 < (l0_3.length : Int) := od_
      obtain ⟨ad214, A214_2, c214_2, e214, hx214_0, hx214_1, hx214_2, hl214_2, hi214_2⟩ := at_T130 HR0_3.out x22_2 p214 q214
      cases e214
      replace hx214_0 := hc_ HB hx214_0
      replace hx214_1 := hc_ HB hx214_1
      replace hx214_2 := hc_ HB hx214_2
      have HR214_2 := Aside0.mk hi214_2
      have HC214_2 := Aside0.mk hl214_2
      clear hi214_2 hl214_2
      replace p214 := eq_true p214
      replace q214 := eq_true q214
      try go_wp2_with (first | ((with_reducible refine gate_dst (N := 4) rfl ?_); (try (refine gate_guard (by rfl) ?_; dsimp only)); refine box_event ?hg (N := 4) ?hd (cs := #[.int .i64 0, .int .i64 0, .slice none 0 0]) (t := 130) ?hr ?_; (case hd => rfl); (case hg => rfl); (case hr => first | (go_simp; done) | (go_simp; rfl)); intro gb215 hg w34 hbox hb; have BK215 := Aside0.mk (hbox); have GW215 := gw_ hg HB; have GE215 := gw_ hg HB; have NB212_215 := nl_ hg BK212; have NB215_212 := ng_ hg BK212; replace BK212 := bb_ BK212 hb; replace HB := bst_ HB hb; clear hb hbox hg; have hnb35 := NB215_212.out; have hnc35 := NB212_215.out; obtain ⟨hcz36_0, hcz36_1, hcz36_2⟩ := bcs3_ BK215; have hfz36_0 := blk_frozen BK215.out 0; have hfz36_1 := blk_frozen BK215.out 1; have hfz36_2 := blk_frozen BK215.out 2))
      have n0_ : Aside0 ((((w34.setCell ⟨gb215, 0, none⟩ (.int .i64 ((rd_T130 l0_3 x22_2).f0))).setCell ⟨gb215, 1, none⟩ (.int .i64 ((rd_T130 l0_3 x22_2).f1))).setCell ⟨gb215, 2, none⟩ (.slice A214_2 ((rd_T130 l0_3 x22_2).f2).length c214_2)).heap[gb212]? = some (.cells #[.int .i64 a0_0, .slice A0_1 l0_1.length c0_1, .slice A0_2 l0_2.length c0_2, .slice (some ad214) l0_3.length c0_3] 33 (0, 0))) := ⟨by (with_reducible repeat (first | refine blk_drewN ?_ _ | refine blk_drew ?_ | refine blk_alloc ?_ _)); refine blk_far ?_ NB212_215.out _; (with_reducible repeat (first | refine blk_drewN ?_ _ | refine blk_drew ?_ | refine blk_alloc ?_ _)); refine blk_far ?_ NB212_215.out _; (with_reducible repeat (first | refine blk_drewN ?_ _ | refine blk_drew ?_ | refine blk_alloc ?_ _)); refine blk_far ?_ NB212_215.out _; (with_reducible repeat (first | refine blk_drewN ?_ _ | refine blk_drew ?_ | refine blk_alloc ?_ _)); exact BK212.out⟩
      have n1_ : Aside0 ((((w34.setCell ⟨gb215, 0, none⟩ (.int .i64 ((rd_T130 l0_3 x22_2).f0))).setCell ⟨gb215, 1, none⟩ (.int .i64 ((rd_T130 l0_3 x22_2).f1))).setCell ⟨gb215, 2, none⟩ (.slice A214_2 ((rd_T130 l0_3 x22_2).f2).length c214_2)).heap[gb215]? = some (.cells #[.int .i64 ((rd_T130 l0_3 x22_2).f0), .int .i64 ((rd_T130 l0_3 x22_2).f1), .slice A214_2 ((rd_T130 l0_3 x22_2).f2).length c214_2] 130 (0, 0))) := ⟨by (with_reducible repeat (first | refine blk_drewN ?_ _ | refine blk_drew ?_ | refine blk_alloc ?_ _)); refine blk_put (cs := #[.int .i64 ((rd_T130 l0_3 x22_2).f0), .int .i64 ((rd_T130 l0_3 x22_2).f1), .slice none 0 0]) ?_ 2 _ rfl; (with_reducible repeat (first | refine blk_drewN ?_ _ | refine blk_drew ?_ | refine blk_alloc ?_ _)); refine blk_put (cs := #[.int .i64 ((rd_T130 l0_3 x22_2).f0), .int .i64 0, .slice none 0 0]) ?_ 1 _ rfl; (with_reducible repeat (first | refine blk_drewN ?_ _ | refine blk_drew ?_ | refine blk_alloc ?_ _)); refine blk_put (cs := #[.int .i64 0, .int .i64 0, .slice none 0 0]) ?_ 0 _ rfl; (with_reducible repeat (first | refine blk_drewN ?_ _ | refine blk_drew ?_ | refine blk_alloc ?_ _)); exact BK215.out⟩
      have n2_ : Aside0 (Below w.heap.size w (((w34.setCell ⟨gb215, 0, none⟩ (.int .i64 ((rd_T130 l0_3 x22_2).f0))).setCell ⟨gb215, 1, none⟩ (.int .i64 ((rd_T130 l0_3 x22_2).f1))).setCell ⟨gb215, 2, none⟩ (.slice A214_2 ((rd_T130 l0_3 x22_2).f2).length c214_2))) := ⟨hB HB⟩
      (try clear BK212)
      (try clear BK215)
      (try clear HB)
      generalize (((w34.setCell ⟨gb215, 0, none⟩ (.int .i64 ((rd_T130 l0_3 x22_2).f0))).setCell ⟨gb215, 1, none⟩ (.int .i64 ((rd_T130 l0_3 x22_2).f1))).setCell ⟨gb215, 2, none⟩ (.slice A214_2 ((rd_T130 l0_3 x22_2).f2).length c214_2)) = w37 at n0_ n1_ n2_ ⊢
      have BK212 := n0_
      have BK215 := n1_
      have HB := n2_
      clear n0_ n1_ n2_
      replace BK212 := bd_ BK212
      replace BK215 := bd_ BK215
      replace HB := Aside0.mk (below_drew1 HB.out)
      have p217 : 0 ≤ ((ji19) : Int) := od_
      have q217 : (ji19) < (l0_3.length : Int) := od_
      obtain ⟨ad217, A217_2, c217_2, e217, hx217_0, hx217_1, hx217_2, hl217_2, hi217_2⟩ := at_T130 HR0_3.out (ji19) p217 q217
      have hw217_2 := hx217_2
      have hw217_1 := hx217_1
      have hw217_0 := hx217_0
      obtain rfl : ad214 = ad217 := (by injection e217)
      replace hx217_0 := hc_ HB hx217_0
      replace hx217_1 := hc_ HB hx217_1
      replace hx217_2 := hc_ HB hx217_2
      have HR217_2 := Aside0.mk hi217_2
      have HC217_2 := Aside0.mk hl217_2
      clear hi217_2 hl217_2
      replace p217 := eq_true p217
      replace q217 := eq_true q217
      refine start_ (n := 41) (S := fun w' => w'.cell? ⟨gb215, 0, none⟩ = some (.int .i64 ((rd_T130 l0_3 x22_2).f0)) ∧ w'.cell? ⟨gb215, 1, none⟩ = some (.int .i64 ((rd_T130 l0_3 x22_2).f1)) ∧ w'.cell? ⟨gb215, 2, none⟩ = some (.slice A214_2 ((rd_T130 l0_3 x22_2).f2).length c214_2) ∧ w'.cell? ⟨gb212, 0, none⟩ = some (.int .i64 a0_0) ∧ w'.cell? ⟨gb212, 1, none⟩ = some (.slice A0_1 l0_1.length c0_1) ∧ w'.cell? ⟨gb212, 2, none⟩ = some (.slice A0_2 l0_2.length c0_2) ∧ w'.cell? ⟨gb212, 3, none⟩ = some (.slice (some ad214) l0_3.length c0_3) ∧ w'.cell? (ad214.add (((ji19)).toNat * 3)) = some (.int .i64 ((rd_T130 l0_3 (ji19)).f0)) ∧ w'.cell? ⟨(ad214.add (((ji19)).toNat * 3)).block, (ad214.add (((ji19)).toNat * 3)).off + 1, none⟩ = some (.int .i64 ((rd_T130 l0_3 (ji19)).f1)) ∧ w'.cell? ⟨(ad214.add (((ji19)).toNat * 3)).block, (ad214.add (((ji19)).toNat * 3)).off + 2, none⟩ = some (.slice A217_2 ((rd_T130 l0_3 (ji19)).f2).length c217_2)) (ds := []) (bs 41 0) (by kernel_rfl) rfl rfl ⟨bc_ BK215 0, bc_ BK215 1, bc_ BK215 2, bc_ BK212 0, bc_ BK212 1, bc_ BK212 2, bc_ BK212 3, ((HB.out.cell (World.block_lt_of_cell? w _ hw217_0)).trans hw217_0), ((HB.out.cell (World.block_lt_of_cell? w _ hw217_1)).trans hw217_1), ((HB.out.cell (World.block_lt_of_cell? w _ hw217_2)).trans hw217_2)⟩ (fun hHeld => ?_); refine with_tabW impl_GoodCampus.tab6 impl_GoodCampus.bits6 (fun HT_ HW_ => ?_)
      generalize w37.drew = w38 at BK212 BK215 HB HR217_2 hx217_0 hx217_1 hx217_2 hHeld ⊢
      refine pu_ 0 27 (bs 41 1) HT_ ?_
      refine tk_ 1 28 (bs 41 3) HT_ HW_ hHeld ?_
      refine on_ 2 (some 29) (bs 41 7) HT_ (fun K hK => ?_)
      refine goes_ Try.func95 (by kernel_rfl) rfl #[.int .i64 ((rd_T130 l0_3 x22_2).f0)] (by rfl) rfl rfl tm_ ?_
      with_reducible refine (impl_isHost.calls ((rd_T130 l0_3 x22_2).f0) true _ A16.out).mono ?_
      rintro e w' ⟨rfl, ⟨nd, rfl⟩⟩
      refine ⟨_, rfl, ?_⟩
      refine hK.out _ _ ⟨bc_ BK215 0, bc_ BK215 1, bc_ BK215 2, bc_ BK212 0, bc_ BK212 1, bc_ BK212 2, bc_ BK212 3, ((HB.out.cell (World.block_lt_of_cell? w _ hw217_0)).trans hw217_0), ((HB.out.cell (World.block_lt_of_cell? w _ hw217_1)).trans hw217_1), ((HB.out.cell (World.block_lt_of_cell? w _ hw217_2)).trans hw217_2)⟩ (fun hHeld => ?_)
      clear hK K
      refine nm_ 29 ?_
      refine pu_ 3 30 (bs 41 15) HT_ ?_
      refine pu_ 4 31 (bs 41 31) HT_ ?_
      refine pu_ 5 32 (bs 41 63) HT_ ?_
      refine pu_ 6 33 (bs 41 127) HT_ ?_
      refine pu_ 7 34 (bs 41 255) HT_ ?_
      refine pu_ 8 35 (bs 41 511) HT_ ?_
      refine pu_ 10 37 (bs 41 1535) HT_ ?_
      refine pu_ 11 38 (bs 41 3583) HT_ ?_
      refine pu_ 15 42 (bs 41 36351) HT_ ?_
      refine tk_ 9 36 (bs 41 36863) HT_ HW_ hHeld ?_
      refine pu_ 12 39 (bs 41 40959) HT_ ?_
      refine pu_ 13 40 (bs 41 49151) HT_ ?_
      refine tk_ 14 41 (bs 41 65535) HT_ HW_ hHeld ?_
      refine tk_ 16 43 (bs 41 131071) HT_ HW_ hHeld ?_
      refine pu_ 17 44 (bs 41 262143) HT_ ?_
      refine pu_ 18 45 (bs 41 524287) HT_ ?_
      refine pu_ 19 46 (bs 41 1048575) HT_ ?_
      refine pu_ 20 47 (bs 41 2097151) HT_ ?_
      refine pu_ 21 48 (bs 41 4194303) HT_ ?_
      refine pu_ 23 50 (bs 41 12582911) HT_ ?_
      refine tk_ 22 49 (bs 41 16777215) HT_ HW_ hHeld ?_
      refine tk_ 24 51 (bs 41 33554431) HT_ HW_ hHeld ?_
      refine pu_ 25 52 (bs 41 67108863) HT_ ?_
      refine on_ 26 (some 53) (bs 41 134217727) HT_ (fun K hK => ?_)
      refine goes_ Try.func96 (by kernel_rfl) rfl #[.int .i64 ((rd_T130 l0_3 x22_2).f1), .int .i64 0, .int .i64 (wrap64 (a0_0 - 1))] (by rfl) rfl rfl tm_ ?_
      with_reducible refine (impl_in.calls ((rd_T130 l0_3 x22_2).f1) 0 (wrap64 (a0_0 - 1)) true _ A28.out).mono ?_
      rintro e w' ⟨rfl, ⟨nd, rfl⟩⟩
      refine ⟨_, rfl, ?_⟩
      refine hK.out _ _ ⟨bc_ BK215 0, bc_ BK215 1, bc_ BK215 2, bc_ BK212 0, bc_ BK212 1, bc_ BK212 2, bc_ BK212 3, ((HB.out.cell (World.block_lt_of_cell? w _ hw217_0)).trans hw217_0), ((HB.out.cell (World.block_lt_of_cell? w _ hw217_1)).trans hw217_1), ((HB.out.cell (World.block_lt_of_cell? w _ hw217_2)).trans hw217_2)⟩ (fun hHeld => ?_)
      clear hK K
      refine nm_ 53 ?_
      refine pu_ 27 54 (bs 41 268435455) HT_ ?_
      refine pu_ 28 55 (bs 41 536870911) HT_ ?_
      refine pu_ 29 56 (bs 41 1073741823) HT_ ?_
      refine pu_ 30 57 (bs 41 2147483647) HT_ ?_
      refine tk_ 31 58 (bs 41 4294967295) HT_ HW_ hHeld ?_
      refine on_ 32 (some 59) (bs 41 8589934591) HT_ (fun K hK => ?_)
      refine goes_ Try.func97 (by kernel_rfl) rfl #[.slice A214_2 ((rd_T130 l0_3 x22_2).f2).length c214_2] (by rfl) rfl rfl tm_ ?_
      with_reducible refine (impl_rising.calls k2 _ _ ((rd_T130 l0_3 x22_2).f2) true _ ?side1 ?side2 A30.out).mono ?_
      (case side1 => exact ca (Kd.C_below HR214_2.out (hB HB)))
      (case side2 => exact HC214_2.out)
      rintro e w' ⟨rfl, ⟨nd, rfl⟩⟩
      refine ⟨_, rfl, ?_⟩
      refine hK.out _ _ ⟨bc_ BK215 0, bc_ BK215 1, bc_ BK215 2, bc_ BK212 0, bc_ BK212 1, bc_ BK212 2, bc_ BK212 3, ((HB.out.cell (World.block_lt_of_cell? w _ hw217_0)).trans hw217_0), ((HB.out.cell (World.block_lt_of_cell? w _ hw217_1)).trans hw217_1), ((HB.out.cell (World.block_lt_of_cell? w _ hw217_2)).trans hw217_2)⟩ (fun hHeld => ?_)
      clear hK K
      refine nm_ 59 ?_
      refine pu_ 33 60 (bs 41 17179869183) HT_ ?_
      refine pu_ 34 61 (bs 41 34359738367) HT_ ?_
      refine pu_ 35 62 (bs 41 68719476735) HT_ ?_
      refine pu_ 36 63 (bs 41 137438953471) HT_ ?_
      refine tk_ 37 64 (bs 41 274877906943) HT_ HW_ hHeld ?_
      refine on_ 38 (some 65) (bs 41 549755813887) HT_ (fun K hK => ?_)
      refine goes_ Try.func98 (by kernel_rfl) rfl #[.slice A214_2 ((rd_T130 l0_3 x22_2).f2).length c214_2, .int .i64 1, .int .i64 20] (by rfl) rfl rfl tm_ ?_
      with_reducible refine (impl_allIn.calls k2 _ _ ((rd_T130 l0_3 x22_2).f2) 1 20 true _ ?side1 ?side2 A32.out).mono ?_
      (case side1 => exact ca (Kd.C_below HR214_2.out (hB HB)))
      (case side2 => exact HC214_2.out)
      rintro e w' ⟨rfl, ⟨nd, rfl⟩⟩
      refine ⟨_, rfl, ?_⟩
      refine hK.out _ _ ⟨bc_ BK215 0, bc_ BK215 1, bc_ BK215 2, bc_ BK212 0, bc_ BK212 1, bc_ BK212 2, bc_ BK212 3, ((HB.out.cell (World.block_lt_of_cell? w _ hw217_0)).trans hw217_0), ((HB.out.cell (World.block_lt_of_cell? w _ hw217_1)).trans hw217_1), ((HB.out.cell (World.block_lt_of_cell? w _ hw217_2)).trans hw217_2)⟩ (fun hHeld => ?_)
      clear hK K
      refine nm_ 65 ?_
      refine pu_ 39 66 (bs 41 1099511627775) HT_ ?_
      refine pu_ 40 67 (bs 41 2199023255551) HT_ ?_
      refine done_ (done_of HT_.out (by kernel_rfl)) ?_
      try go_wp2
      go_roundg k2
      case measure => have := HJ1.out; have := HK2.out; omega
      case rel => exact ⟨(wrap64 (x22_2 + 1)), (by first | rfl | (simp; done) | (simp [*]; done)), H', ⟨by have := HJ1.out; have := HK2.out; omega⟩, ⟨by (with_reducible repeat (first | refine blk_drewN ?_ _ | refine blk_drew ?_ | refine blk_alloc ?_ _)); exact BK212.out⟩, ⟨hB HB⟩⟩
     replace c33 := Bool.eq_false_iff.mpr c33
     subst c33
     rw [if_neg (show ¬ (false = true) by decide)] at H
     obtain rfl := Option.some.inj H
     have p214 : 0 ≤ (x22_2 : Int) := od_
     have q214 : x22_2 < (l0_3.length : Int) := od_
     obtain ⟨ad214, A214_2, c214_2, e214, hx214_0, hx214_1, hx214_2, hl214_2, hi214_2⟩ := at_T130 HR0_3.out x22_2 p214 q214
     cases e214
     replace hx214_0 := hc_ HB hx214_0
     replace hx214_1 := hc_ HB hx214_1
     replace hx214_2 := hc_ HB hx214_2
     have HR214_2 := Aside0.mk hi214_2
     have HC214_2 := Aside0.mk hl214_2
     clear hi214_2 hl214_2
     replace p214 := eq_true p214
     replace q214 := eq_true q214
     try go_wp2_with (first | ((with_reducible refine gate_dst (N := 4) rfl ?_); (try (refine gate_guard (by rfl) ?_; dsimp only)); refine box_event ?hg (N := 4) ?hd (cs := #[.int .i64 0, .int .i64 0, .slice none 0 0]) (t := 130) ?hr ?_; (case hd => rfl); (case hg => rfl); (case hr => first | (go_simp; done) | (go_simp; rfl)); intro gb215 hg w39 hbox hb; have BK215 := Aside0.mk (hbox); have GW215 := gw_ hg HB; have GE215 := gw_ hg HB; have NB212_215 := nl_ hg BK212; have NB215_212 := ng_ hg BK212; replace BK212 := bb_ BK212 hb; replace HB := bst_ HB hb; clear hb hbox hg; have hnb40 := NB215_212.out; have hnc40 := NB212_215.out; obtain ⟨hcz41_0, hcz41_1, hcz41_2⟩ := bcs3_ BK215; have hfz41_0 := blk_frozen BK215.out 0; have hfz41_1 := blk_frozen BK215.out 1; have hfz41_2 := blk_frozen BK215.out 2))
     have n0_ : Aside0 ((((w39.setCell ⟨gb215, 0, none⟩ (.int .i64 ((rd_T130 l0_3 x22_2).f0))).setCell ⟨gb215, 1, none⟩ (.int .i64 ((rd_T130 l0_3 x22_2).f1))).setCell ⟨gb215, 2, none⟩ (.slice A214_2 ((rd_T130 l0_3 x22_2).f2).length c214_2)).heap[gb212]? = some (.cells #[.int .i64 a0_0, .slice A0_1 l0_1.length c0_1, .slice A0_2 l0_2.length c0_2, .slice (some ad214) l0_3.length c0_3] 33 (0, 0))) := ⟨by (with_reducible repeat (first | refine blk_drewN ?_ _ | refine blk_drew ?_ | refine blk_alloc ?_ _)); refine blk_far ?_ NB212_215.out _; (with_reducible repeat (first | refine blk_drewN ?_ _ | refine blk_drew ?_ | refine blk_alloc ?_ _)); refine blk_far ?_ NB212_215.out _; (with_reducible repeat (first | refine blk_drewN ?_ _ | refine blk_drew ?_ | refine blk_alloc ?_ _)); refine blk_far ?_ NB212_215.out _; (with_reducible repeat (first | refine blk_drewN ?_ _ | refine blk_drew ?_ | refine blk_alloc ?_ _)); exact BK212.out⟩
     have n1_ : Aside0 ((((w39.setCell ⟨gb215, 0, none⟩ (.int .i64 ((rd_T130 l0_3 x22_2).f0))).setCell ⟨gb215, 1, none⟩ (.int .i64 ((rd_T130 l0_3 x22_2).f1))).setCell ⟨gb215, 2, none⟩ (.slice A214_2 ((rd_T130 l0_3 x22_2).f2).length c214_2)).heap[gb215]? = some (.cells #[.int .i64 ((rd_T130 l0_3 x22_2).f0), .int .i64 ((rd_T130 l0_3 x22_2).f1), .slice A214_2 ((rd_T130 l0_3 x22_2).f2).length c214_2] 130 (0, 0))) := ⟨by (with_reducible repeat (first | refine blk_drewN ?_ _ | refine blk_drew ?_ | refine blk_alloc ?_ _)); refine blk_put (cs := #[.int .i64 ((rd_T130 l0_3 x22_2).f0), .int .i64 ((rd_T130 l0_3 x22_2).f1), .slice none 0 0]) ?_ 2 _ rfl; (with_reducible repeat (first | refine blk_drewN ?_ _ | refine blk_drew ?_ | refine blk_alloc ?_ _)); refine blk_put (cs := #[.int .i64 ((rd_T130 l0_3 x22_2).f0), .int .i64 0, .slice none 0 0]) ?_ 1 _ rfl; (with_reducible repeat (first | refine blk_drewN ?_ _ | refine blk_drew ?_ | refine blk_alloc ?_ _)); refine blk_put (cs := #[.int .i64 0, .int .i64 0, .slice none 0 0]) ?_ 0 _ rfl; (with_reducible repeat (first | refine blk_drewN ?_ _ | refine blk_drew ?_ | refine blk_alloc ?_ _)); exact BK215.out⟩
     have n2_ : Aside0 (Below w.heap.size w (((w39.setCell ⟨gb215, 0, none⟩ (.int .i64 ((rd_T130 l0_3 x22_2).f0))).setCell ⟨gb215, 1, none⟩ (.int .i64 ((rd_T130 l0_3 x22_2).f1))).setCell ⟨gb215, 2, none⟩ (.slice A214_2 ((rd_T130 l0_3 x22_2).f2).length c214_2))) := ⟨hB HB⟩
     (try clear BK212)
     (try clear BK215)
     (try clear HB)
     generalize (((w39.setCell ⟨gb215, 0, none⟩ (.int .i64 ((rd_T130 l0_3 x22_2).f0))).setCell ⟨gb215, 1, none⟩ (.int .i64 ((rd_T130 l0_3 x22_2).f1))).setCell ⟨gb215, 2, none⟩ (.slice A214_2 ((rd_T130 l0_3 x22_2).f2).length c214_2)) = w42 at n0_ n1_ n2_ ⊢
     have BK212 := n0_
     have BK215 := n1_
     have HB := n2_
     clear n0_ n1_ n2_
     replace BK212 := bd_ BK212
     replace BK215 := bd_ BK215
     replace HB := Aside0.mk (below_drew1 HB.out)
     have p217 : 0 ≤ ((ji19) : Int) := od_
     have q217 : (ji19) < (l0_3.length : Int) := od_
     obtain ⟨ad217, A217_2, c217_2, e217, hx217_0, hx217_1, hx217_2, hl217_2, hi217_2⟩ := at_T130 HR0_3.out (ji19) p217 q217
     have hw217_2 := hx217_2
     have hw217_1 := hx217_1
     have hw217_0 := hx217_0
     obtain rfl : ad214 = ad217 := (by injection e217)
     replace hx217_0 := hc_ HB hx217_0
     replace hx217_1 := hc_ HB hx217_1
     replace hx217_2 := hc_ HB hx217_2
     have HR217_2 := Aside0.mk hi217_2
     have HC217_2 := Aside0.mk hl217_2
     clear hi217_2 hl217_2
     replace p217 := eq_true p217
     replace q217 := eq_true q217
     refine start_ (n := 41) (S := fun w' => w'.cell? ⟨gb215, 0, none⟩ = some (.int .i64 ((rd_T130 l0_3 x22_2).f0)) ∧ w'.cell? ⟨gb215, 1, none⟩ = some (.int .i64 ((rd_T130 l0_3 x22_2).f1)) ∧ w'.cell? ⟨gb215, 2, none⟩ = some (.slice A214_2 ((rd_T130 l0_3 x22_2).f2).length c214_2) ∧ w'.cell? ⟨gb212, 0, none⟩ = some (.int .i64 a0_0) ∧ w'.cell? ⟨gb212, 1, none⟩ = some (.slice A0_1 l0_1.length c0_1) ∧ w'.cell? ⟨gb212, 2, none⟩ = some (.slice A0_2 l0_2.length c0_2) ∧ w'.cell? ⟨gb212, 3, none⟩ = some (.slice (some ad214) l0_3.length c0_3) ∧ w'.cell? (ad214.add (((ji19)).toNat * 3)) = some (.int .i64 ((rd_T130 l0_3 (ji19)).f0)) ∧ w'.cell? ⟨(ad214.add (((ji19)).toNat * 3)).block, (ad214.add (((ji19)).toNat * 3)).off + 1, none⟩ = some (.int .i64 ((rd_T130 l0_3 (ji19)).f1)) ∧ w'.cell? ⟨(ad214.add (((ji19)).toNat * 3)).block, (ad214.add (((ji19)).toNat * 3)).off + 2, none⟩ = some (.slice A217_2 ((rd_T130 l0_3 (ji19)).f2).length c217_2)) (ds := []) (bs 41 0) (by kernel_rfl) rfl rfl ⟨bc_ BK215 0, bc_ BK215 1, bc_ BK215 2, bc_ BK212 0, bc_ BK212 1, bc_ BK212 2, bc_ BK212 3, ((HB.out.cell (World.block_lt_of_cell? w _ hw217_0)).trans hw217_0), ((HB.out.cell (World.block_lt_of_cell? w _ hw217_1)).trans hw217_1), ((HB.out.cell (World.block_lt_of_cell? w _ hw217_2)).trans hw217_2)⟩ (fun hHeld => ?_); refine with_tabW impl_GoodCampus.tab6 impl_GoodCampus.bits6 (fun HT_ HW_ => ?_)
     generalize w42.drew = w43 at BK212 BK215 HB HR217_2 hx217_0 hx217_1 hx217_2 hHeld ⊢
     refine pu_ 0 27 (bs 41 1) HT_ ?_
     refine tk_ 1 28 (bs 41 3) HT_ HW_ hHeld ?_
     refine on_ 2 (some 29) (bs 41 7) HT_ (fun K hK => ?_)
     refine goes_ Try.func95 (by kernel_rfl) rfl #[.int .i64 ((rd_T130 l0_3 x22_2).f0)] (by rfl) rfl rfl tm_ ?_
     with_reducible refine (impl_isHost.calls ((rd_T130 l0_3 x22_2).f0) true _ A16.out).mono ?_
     rintro e w' ⟨rfl, ⟨nd, rfl⟩⟩
     refine ⟨_, rfl, ?_⟩
     refine hK.out _ _ ⟨bc_ BK215 0, bc_ BK215 1, bc_ BK215 2, bc_ BK212 0, bc_ BK212 1, bc_ BK212 2, bc_ BK212 3, ((HB.out.cell (World.block_lt_of_cell? w _ hw217_0)).trans hw217_0), ((HB.out.cell (World.block_lt_of_cell? w _ hw217_1)).trans hw217_1), ((HB.out.cell (World.block_lt_of_cell? w _ hw217_2)).trans hw217_2)⟩ (fun hHeld => ?_)
     clear hK K
     refine nm_ 29 ?_
     refine pu_ 3 30 (bs 41 15) HT_ ?_
     refine pu_ 4 31 (bs 41 31) HT_ ?_
     refine pu_ 5 32 (bs 41 63) HT_ ?_
     refine pu_ 6 33 (bs 41 127) HT_ ?_
     refine pu_ 7 34 (bs 41 255) HT_ ?_
     refine pu_ 8 35 (bs 41 511) HT_ ?_
     refine pu_ 10 37 (bs 41 1535) HT_ ?_
     refine pu_ 11 38 (bs 41 3583) HT_ ?_
     refine pu_ 15 42 (bs 41 36351) HT_ ?_
     refine tk_ 9 36 (bs 41 36863) HT_ HW_ hHeld ?_
     refine pu_ 12 39 (bs 41 40959) HT_ ?_
     refine pu_ 13 40 (bs 41 49151) HT_ ?_
     refine tk_ 14 41 (bs 41 65535) HT_ HW_ hHeld ?_
     refine tk_ 16 43 (bs 41 131071) HT_ HW_ hHeld ?_
     refine pu_ 17 44 (bs 41 262143) HT_ ?_
     refine pu_ 18 45 (bs 41 524287) HT_ ?_
     refine pu_ 19 46 (bs 41 1048575) HT_ ?_
     refine pu_ 20 47 (bs 41 2097151) HT_ ?_
     refine pu_ 21 48 (bs 41 4194303) HT_ ?_
     refine pu_ 23 50 (bs 41 12582911) HT_ ?_
     refine tk_ 22 49 (bs 41 16777215) HT_ HW_ hHeld ?_
     refine tk_ 24 51 (bs 41 33554431) HT_ HW_ hHeld ?_
     refine pu_ 25 52 (bs 41 67108863) HT_ ?_
     refine on_ 26 (some 53) (bs 41 134217727) HT_ (fun K hK => ?_)
     refine goes_ Try.func96 (by kernel_rfl) rfl #[.int .i64 ((rd_T130 l0_3 x22_2).f1), .int .i64 0, .int .i64 (wrap64 (a0_0 - 1))] (by rfl) rfl rfl tm_ ?_
     with_reducible refine (impl_in.calls ((rd_T130 l0_3 x22_2).f1) 0 (wrap64 (a0_0 - 1)) true _ A28.out).mono ?_
     rintro e w' ⟨rfl, ⟨nd, rfl⟩⟩
     refine ⟨_, rfl, ?_⟩
     refine hK.out _ _ ⟨bc_ BK215 0, bc_ BK215 1, bc_ BK215 2, bc_ BK212 0, bc_ BK212 1, bc_ BK212 2, bc_ BK212 3, ((HB.out.cell (World.block_lt_of_cell? w _ hw217_0)).trans hw217_0), ((HB.out.cell (World.block_lt_of_cell? w _ hw217_1)).trans hw217_1), ((HB.out.cell (World.block_lt_of_cell? w _ hw217_2)).trans hw217_2)⟩ (fun hHeld => ?_)
     clear hK K
     refine nm_ 53 ?_
     refine pu_ 27 54 (bs 41 268435455) HT_ ?_
     refine pu_ 28 55 (bs 41 536870911) HT_ ?_
     refine pu_ 29 56 (bs 41 1073741823) HT_ ?_
     refine pu_ 30 57 (bs 41 2147483647) HT_ ?_
     refine tk_ 31 58 (bs 41 4294967295) HT_ HW_ hHeld ?_
     refine on_ 32 (some 59) (bs 41 8589934591) HT_ (fun K hK => ?_)
     refine goes_ Try.func97 (by kernel_rfl) rfl #[.slice A214_2 ((rd_T130 l0_3 x22_2).f2).length c214_2] (by rfl) rfl rfl tm_ ?_
     with_reducible refine (impl_rising.calls k2 _ _ ((rd_T130 l0_3 x22_2).f2) true _ ?side1 ?side2 A30.out).mono ?_
     (case side1 => exact ca (Kd.C_below HR214_2.out (hB HB)))
     (case side2 => exact HC214_2.out)
     rintro e w' ⟨rfl, ⟨nd, rfl⟩⟩
     refine ⟨_, rfl, ?_⟩
     refine hK.out _ _ ⟨bc_ BK215 0, bc_ BK215 1, bc_ BK215 2, bc_ BK212 0, bc_ BK212 1, bc_ BK212 2, bc_ BK212 3, ((HB.out.cell (World.block_lt_of_cell? w _ hw217_0)).trans hw217_0), ((HB.out.cell (World.block_lt_of_cell? w _ hw217_1)).trans hw217_1), ((HB.out.cell (World.block_lt_of_cell? w _ hw217_2)).trans hw217_2)⟩ (fun hHeld => ?_)
     clear hK K
     refine nm_ 59 ?_
     refine pu_ 33 60 (bs 41 17179869183) HT_ ?_
     refine pu_ 34 61 (bs 41 34359738367) HT_ ?_
     refine pu_ 35 62 (bs 41 68719476735) HT_ ?_
     refine pu_ 36 63 (bs 41 137438953471) HT_ ?_
     refine tk_ 37 64 (bs 41 274877906943) HT_ HW_ hHeld ?_
     refine on_ 38 (some 65) (bs 41 549755813887) HT_ (fun K hK => ?_)
     refine goes_ Try.func98 (by kernel_rfl) rfl #[.slice A214_2 ((rd_T130 l0_3 x22_2).f2).length c214_2, .int .i64 1, .int .i64 20] (by rfl) rfl rfl tm_ ?_
     with_reducible refine (impl_allIn.calls k2 _ _ ((rd_T130 l0_3 x22_2).f2) 1 20 false _ ?side1 ?side2 A32.out).mono ?_
     (case side1 => exact ca (Kd.C_below HR214_2.out (hB HB)))
     (case side2 => exact HC214_2.out)
     rintro e w' ⟨rfl, ⟨nd, rfl⟩⟩
     refine ⟨_, rfl, ?_⟩
     refine hK.out _ _ ⟨bc_ BK215 0, bc_ BK215 1, bc_ BK215 2, bc_ BK212 0, bc_ BK212 1, bc_ BK212 2, bc_ BK212 3, ((HB.out.cell (World.block_lt_of_cell? w _ hw217_0)).trans hw217_0), ((HB.out.cell (World.block_lt_of_cell? w _ hw217_1)).trans hw217_1), ((HB.out.cell (World.block_lt_of_cell? w _ hw217_2)).trans hw217_2)⟩ (fun hHeld => ?_)
     clear hK K
     refine nm_ 65 ?_
     refine pu_ 39 66 (bs 41 1099511627775) HT_ ?_
     refine pu_ 40 67 (bs 41 2199023255551) HT_ ?_
     refine done_ (done_of HT_.out (by kernel_rfl)) ?_
     try go_wp2
     go_ret
     exact ⟨by first | rfl | (simp [errW_none, errW_some] <;> rfl) | (simp only [← hji19]; first | rfl | (simp [errW_none, errW_some] <;> rfl)) | (simp [*, errW_none, errW_some] <;> rfl), hB HB⟩

end Go.Proofs.Ytpohlcjkabojcaa.P
