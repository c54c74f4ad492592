import Derived.Test.YtefdgdloghhnaaaF0
import Derived.Test.YtefdgdloghhnaaaF1
namespace Go.Proofs.Ytefdgdloghhnaaa.P
open Go.RowKit Go.Proofs.YtefdgdloghhnaaaW.PrintWords Go.Proofs.YtefdgdloghhnaaaW.PrintLast Go.Proofs.YtefdgdloghhnaaaW.PrintMore
attribute [local go_sem] max2_int min2_int max_two min_two max_three min_three max_four min_four   -- for this text's walks alone
set_option linter.unusedVariables false
set_option linter.unusedSimpArgs false
attribute [local go_sem high] eqA36

mutual
def spec_GoodPair.j0 : Nat → Bool → List Int → List Int → List (S36) → Option (Bool)
 | 0, _, _, _, _ => none
 | k + 1, x22, x436000, x436001, x436002 => if x22 = true then (some false) else (spec_GoodPair.l0 k x436000 (x436000.length : Int) 0 x436000 x436001 x436002)
def spec_GoodPair.l0 : Nat → List Int → Int → Int → List Int → List Int → List (S36) → Option (Bool)
 | 0, _, _, _, _, _, _ => none
 | k + 1, x24, x25, x26, x436000, x436001, x436002 => if x26 < x25 then (if 0 ≤ x26 then (if x26 < (x24.length : Int) then ((spec_l1In.f (rd x24 x26) 0 2).bind fun t437 => (if t437 = true then (if x26 < (x436001.length : Int) then ((spec_l1In.f (rd x436001 x26) 0 3).bind fun t439 => (if t439 = true then (if (((rd x436001 x26) == 0) != ((rd x24 x26) == 0)) = true then (some false) else (spec_GoodPair.l0 k x24 x25 (wrap64 (x26 + 1)) x436000 x436001 x436002)) else (some false))) else (none)) else (some false))) else (none)) else (none)) else (spec_GoodPair.l1 k x436002 (x436002.length : Int) 0)
def spec_GoodPair.l1 : Nat → List (S36) → Int → Int → Option (Bool)
 | 0, _, _, _ => none
 | k + 1, x56, x57, x58 => if x58 < x57 then (if 0 ≤ x58 then (if x58 < (x56.length : Int) then ((spec_l3Side.f ((rd_T36 x56 x58).f0)).bind fun t443 => (if t443 = true then (spec_GoodPair.l1 k x56 x57 (wrap64 (x58 + 1))) else (some false))) else (none)) else (none)) else (some true)
end
def spec_GoodPair.f (k : Nat) (l0_0 : List Int) (l0_1 : List Int) (l0_2 : List (S36)) : Option (Bool) := if (l0_0.length : Int) = 2 then (if (l0_1.length : Int) = 2 then (spec_GoodPair.j0 k (decide ((l0_2.length : Int) > 12)) l0_0 l0_1 l0_2) else (spec_GoodPair.j0 k true l0_0 l0_1 l0_2)) else (spec_GoodPair.j0 k true l0_0 l0_1 l0_2)
theorem spec_GoodPair.mono_l : ∀ k, (∀ y0 y1 y2 y3, LeO (spec_GoodPair.j0 k y0 y1 y2 y3) (spec_GoodPair.j0 (k + 1) y0 y1 y2 y3)) ∧ (∀ y0 y1 y2 y3 y4 y5, LeO (spec_GoodPair.l0 k y0 y1 y2 y3 y4 y5) (spec_GoodPair.l0 (k + 1) y0 y1 y2 y3 y4 y5)) ∧ (∀ y0 y1 y2, LeO (spec_GoodPair.l1 k y0 y1 y2) (spec_GoodPair.l1 (k + 1) y0 y1 y2))
 | 0 => ⟨fun _ _ _ _ r h => by simp [spec_GoodPair.j0] at h, fun _ _ _ _ _ _ r h => by simp [spec_GoodPair.l0] at h, fun _ _ _ r h => by simp [spec_GoodPair.l1] at h⟩
 | k + 1 => by
  obtain ⟨ih0, ih1, ih2⟩ := spec_GoodPair.mono_l k
  refine ⟨?_, ?_, ?_⟩
  ·intro y0 y1 y2 y3
   unfold spec_GoodPair.j0
   repeat' first
   | (with_reducible exact ih0 _ _ _ _)
   | (with_reducible exact ih1 _ _ _ _ _ _)
   | (with_reducible exact ih2 _ _ _)
   | with_reducible first | exact LeO.refl _ | exact LeO.none _ | refine LeO.ite ?_ ?_ | refine LeO.bind ?_ fun _ => ?_
  ·intro y0 y1 y2 y3 y4 y5
   unfold spec_GoodPair.l0
   repeat' first
   | (with_reducible exact ih0 _ _ _ _)
   | (with_reducible exact ih1 _ _ _ _ _ _)
   | (with_reducible exact ih2 _ _ _)
   | with_reducible first | exact LeO.refl _ | exact LeO.none _ | refine LeO.ite ?_ ?_ | refine LeO.bind ?_ fun _ => ?_
  ·intro y0 y1 y2
   unfold spec_GoodPair.l1
   repeat' first
   | (with_reducible exact ih0 _ _ _ _)
   | (with_reducible exact ih1 _ _ _ _ _ _)
   | (with_reducible exact ih2 _ _ _)
   | with_reducible first | exact LeO.refl _ | exact LeO.none _ | refine LeO.ite ?_ ?_ | refine LeO.bind ?_ fun _ => ?_
theorem spec_GoodPair.mono : ∀ a0 a1 a2 k, LeO (spec_GoodPair.f k a0 a1 a2) (spec_GoodPair.f (k + 1) a0 a1 a2) := by
 intro a0 a1 a2 k
 obtain ⟨ih0, ih1, ih2⟩ := spec_GoodPair.mono_l k
 unfold spec_GoodPair.f
 repeat' first
   | (with_reducible exact ih0 _ _ _ _)
   | (with_reducible exact ih1 _ _ _ _ _ _)
   | (with_reducible exact ih2 _ _ _)
   | with_reducible first | exact LeO.refl _ | exact LeO.none _ | refine LeO.ite ?_ ?_ | refine LeO.bind ?_ fun _ => ?_
set_option maxHeartbeats 8000000 in
set_option maxRecDepth 100000 in
theorem spec_GoodPair.calls (k : Nat) (A0_0 : Option Addr) (c0_0 : Nat) (l0_0 : List Int) (A0_1 : Option Addr) (c0_1 : Nat) (l0_1 : List Int) (A0_2 : Option Addr) (c0_2 : Nat) (l0_2 : List (S36)) (r : Bool) (w : World) (hr0_0 : Kd.C (Kd.int .i64) w A0_0 l0_0.length l0_0) (hc0_0 : l0_0.length ≤ c0_0) (hr0_1 : Kd.C (Kd.int .i64) w A0_1 l0_1.length l0_1) (hc0_1 : l0_1.length ≤ c0_1) (hr0_2 : Kd.C k36 w A0_2 l0_2.length l0_2) (hc0_2 : l0_2.length ≤ c0_2) (h : spec_GoodPair.f k l0_0 l0_1 l0_2 = some r) :
  Calls Try.prog 9 #[.agg #[.slice A0_0 l0_0.length c0_0, .slice A0_1 l0_1.length c0_1, .slice A0_2 l0_2.length c0_2]] w fun e w' => e = .returned (.bool r) ∧ Below w.heap.size w w' := by
 have hu26 := Try.underlying26
 have hu36 := Try.underlying36
 have HR0_0 := Aside0.mk hr0_0
 have HC0_0 := Aside0.mk hc0_0
 clear hr0_0 hc0_0
 have HR0_1 := Aside0.mk hr0_1
 have HC0_1 := Aside0.mk hc0_1
 clear hr0_1 hc0_1
 have HR0_2 := Aside0.mk hr0_2
 have HC0_2 := Aside0.mk hc0_2
 clear hr0_2 hc0_2
 have HB := Aside0.mk (Below.refl w.heap.size w)
 have H : (if (l0_0.length : Int) = 2 then (if (l0_1.length : Int) = 2 then (spec_GoodPair.j0 k (decide ((l0_2.length : Int) > 12)) l0_0 l0_1 l0_2) else (spec_GoodPair.j0 k true l0_0 l0_1 l0_2)) else (spec_GoodPair.j0 k true l0_0 l0_1 l0_2)) = some r := h
 clear h
 have HC2 := Aside0.mk H
 clear H
 go_enter Try.func9, Try.ntmps9
 go_upto_region 1 with (first | ((with_reducible refine gate_dst (N := 1) rfl ?_); (try (refine gate_guard (by rfl) ?_; dsimp only)); refine bx_ev 1 #[.slice A0_0 l0_0.length c0_0, .slice A0_1 l0_1.length c0_1, .slice A0_2 l0_2.length c0_2] 26 ?_; intro gb435 hg w3 hbox hb; have BK435 := Aside0.mk (hbox); have GW435 := gw_ hg HB; have GE435 := gw_ hg HB; replace HB := bst_ HB hb; clear hb hbox hg))
 (try simp only [Act.put, List.setIfInBounds_toArray, List.set_cons_zero, List.set_cons_succ])
 go_cut [22] (fun v22 wc => ∃ (kq : Nat) (x22_1 : Bool), v22 = .bool x22_1 ∧ Aside0 (spec_GoodPair.j0 kq x22_1 l0_0 l0_1 l0_2 = some r) ∧ Aside0 (kq ≤ k) ∧ Aside0 (wc.heap[gb435]? = some (.cells #[(.slice A0_0 l0_0.length c0_0), (.slice A0_1 l0_1.length c0_1), (.slice A0_2 l0_2.length c0_2)] 26 (0, 0))) ∧ Aside0 (Below w.heap.size w wc))
 case first =>
  have H := HC2.out
  clear HC2
  by_cases c4 : (l0_0.length : Int) = 2
  rotate_left
  ·rw [if_neg c4] at H
   have c4b0 : ((l0_0.length : Int) == 2) = false := beq_eq_false_iff_ne.mpr c4
   have c4b1 : ((l0_0.length : Int) != 2) = true := bne_iff_ne.mpr c4
   (first | rw [c4b0] | (simp only [i64_w, i32_w]; rw [c4b0]) | skip)
   have H' := Aside0.mk H
   clear H
   obtain ⟨hcz8_0, hcz8_1, hcz8_2⟩ := bcs3_ BK435
   obtain ⟨hfz8_0, hfz8_1, hfz8_2⟩ := bz3_ BK435
   go_wp2
   go_meet
   case rel => exact ⟨_, (true), (by first | rfl | (simp; done) | (simp [*]; done)), H', ⟨by first | omega | exact Nat.le_refl _⟩, ⟨bw0_ BK435⟩, ⟨hB HB⟩⟩
  rw [if_pos c4] at H
  have c4b0 : ((l0_0.length : Int) == 2) = true := beq_iff_eq.mpr c4
  have c4b1 : ((l0_0.length : Int) != 2) = false := bne_eq_false_iff_eq.mpr c4
  clear c4
  (first | rw [c4b0] | (simp only [i64_w, i32_w]; rw [c4b0]) | skip)
  by_cases c5 : (l0_1.length : Int) = 2
  rotate_left
  ·rw [if_neg c5] at H
   have c5b0 : ((l0_1.length : Int) == 2) = false := beq_eq_false_iff_ne.mpr c5
   have c5b1 : ((l0_1.length : Int) != 2) = true := bne_iff_ne.mpr c5
   have H' := Aside0.mk H
   clear H
   obtain ⟨hcz7_0, hcz7_1, hcz7_2⟩ := bcs3_ BK435
   obtain ⟨hfz7_0, hfz7_1, hfz7_2⟩ := bz3_ BK435
   go_wp2
   go_meet
   case rel => exact ⟨_, (true), (by first | rfl | (simp; done) | (simp [*]; done)), H', ⟨by first | omega | exact Nat.le_refl _⟩, ⟨bw0_ BK435⟩, ⟨hB HB⟩⟩
  rw [if_pos c5] at H
  have c5b0 : ((l0_1.length : Int) == 2) = true := beq_iff_eq.mpr c5
  have c5b1 : ((l0_1.length : Int) != 2) = false := bne_eq_false_iff_eq.mpr c5
  clear c5
  have H' := Aside0.mk H
  clear H
  obtain ⟨hcz6_0, hcz6_1, hcz6_2⟩ := bcs3_ BK435
  obtain ⟨hfz6_0, hfz6_1, hfz6_2⟩ := bz3_ BK435
  go_wp2
  go_meet
  case rel => exact ⟨_, (decide ((l0_2.length : Int) > 12)), (by first | rfl | (simp; done) | (simp [*]; done)), H', ⟨by first | omega | exact Nat.le_refl _⟩, ⟨bw0_ BK435⟩, ⟨hB HB⟩⟩
 case rest =>
  clear HC2
  obtain ⟨kq, x22_1, rfl, HA, HJ1, BK435, HB⟩ := hcut
  cases kq with
  | zero => exact absurd HA.out (by simp [spec_GoodPair.j0])
  | succ kj1 =>
   have H := HA.out
   clear HA
   simp only [spec_GoodPair.j0] at H
   by_cases c9 : x22_1 = true
   ·subst c9
    rw [if_pos rfl] at H
    obtain rfl := Option.some.inj H
    go_wp2
    go_ret
    exact ⟨rt_, hB HB⟩
   replace c9 := Bool.eq_false_iff.mpr c9
   subst c9
   rw [if_neg (show ¬ (false = true) by decide)] at H
   have H' := Aside0.mk H
   clear H
   obtain ⟨hcz10_0, hcz10_1, hcz10_2⟩ := bcs3_ BK435
   obtain ⟨hfz10_0, hfz10_1, hfz10_2⟩ := bz3_ BK435
   go_wp2
   go_loopg [26] kj1 (fun kq v26 w' => ∃ (x26_2 : Int), v26 = .int .i64 x26_2 ∧ Aside0 (spec_GoodPair.l0 kq l0_0 (l0_0.length : Int) x26_2 l0_0 l0_1 l0_2 = some r) ∧ Aside0 (kq ≤ kj1) ∧ Aside0 (w'.heap[gb435]? = some (.cells #[(.slice A0_0 l0_0.length c0_0), (.slice A0_1 l0_1.length c0_1), (.slice A0_2 l0_2.length c0_2)] 26 (0, 0))) ∧ Aside0 (Below w.heap.size w w'))
   case atStart => exact ⟨(0), (by first | rfl | (simp; done) | (simp [*]; done)), H', ⟨Nat.le_refl _⟩, ⟨bw0_ BK435⟩, ⟨hB HB⟩⟩
   case round =>
    clear H'
    try clear c9
    try clear hcz10_0
    try clear hcz10_1
    try clear hcz10_2
    try clear hfz10_0
    try clear hfz10_1
    try clear hfz10_2
    obtain ⟨x26_2, rfl, HA, HK2, BK435, HB⟩ := hrel
    cases gk with
    | zero => exact absurd HA.out (by simp [spec_GoodPair.l0])
    | succ k2 =>
     have H := HA.out
     clear HA
     simp only [spec_GoodPair.l0] at H
     by_cases c11 : x26_2 < (l0_0.length : Int)
     rotate_left
     ·rw [if_neg c11] at H
      have c11b0 : decide (x26_2 < (l0_0.length : Int)) = false := decide_eq_false c11
      clear c11
      have H' := Aside0.mk H
      clear H
      obtain ⟨hcz23_0, hcz23_1, hcz23_2⟩ := bcs3_ BK435
      obtain ⟨hfz23_0, hfz23_1, hfz23_2⟩ := bz3_ BK435
      go_wp2
      go_loopg [58] k2 (fun kq v58 w' => ∃ (x58_3 : Int), v58 = .int .i64 x58_3 ∧ Aside0 (spec_GoodPair.l1 kq l0_2 (l0_2.length : Int) x58_3 = some r) ∧ Aside0 (kq ≤ k2) ∧ Aside0 (w'.heap[gb435]? = some (.cells #[(.slice A0_0 l0_0.length c0_0), (.slice A0_1 l0_1.length c0_1), (.slice A0_2 l0_2.length c0_2)] 26 (0, 0))) ∧ Aside0 (Below w.heap.size w w'))
      case atStart => exact ⟨(0), (by first | rfl | (simp; done) | (simp [*]; done)), H', ⟨Nat.le_refl _⟩, ⟨bw0_ BK435⟩, ⟨hB HB⟩⟩
      case round =>
       clear H'
       try clear c9
       try clear c11
       try clear c11b0
       try clear hcz10_0
       try clear hcz10_1
       try clear hcz10_2
       try clear hcz23_0
       try clear hcz23_1
       try clear hcz23_2
       try clear hfz10_0
       try clear hfz10_1
       try clear hfz10_2
       try clear hfz23_0
       try clear hfz23_1
       try clear hfz23_2
       obtain ⟨x58_3, rfl, HA, HK3, BK435, HB⟩ := hrel
       cases gk with
       | zero => exact absurd HA.out (by simp [spec_GoodPair.l1])
       | succ k3 =>
        have H := HA.out
        clear HA
        simp only [spec_GoodPair.l1] at H
        by_cases c24 : x58_3 < (l0_2.length : Int)
        rotate_left
        ·rw [if_neg c24] at H
         have c24b0 : decide (x58_3 < (l0_2.length : Int)) = false := decide_eq_false c24
         clear c24
         obtain rfl := Option.some.inj H
         go_wp2
         go_ret
         exact ⟨rt_, hB HB⟩
        rw [if_pos c24] at H
        have c24b0 : decide (x58_3 < (l0_2.length : Int)) = true := decide_eq_true c24
        clear c24
        by_cases c25 : 0 ≤ x58_3
        rotate_left
        ·rw [if_neg c25] at H
         exact absurd H (by simp)
        rw [if_pos c25] at H
        have c25b0 : decide (0 ≤ x58_3) = true := decide_eq_true c25
        clear c25
        by_cases c26 : x58_3 < (l0_2.length : Int)
        rotate_left
        ·rw [if_neg c26] at H
         exact absurd H (by simp)
        rw [if_pos c26] at H
        have c26b0 : decide (x58_3 < (l0_2.length : Int)) = true := decide_eq_true c26
        clear c26
        replace H := Option.bind_eq_some_iff.mp H
        obtain ⟨t443, A270, H⟩ := H
        replace H : (if t443 = true then (spec_GoodPair.l1 k3 l0_2 (l0_2.length : Int) (wrap64 (x58_3 + 1))) else (some false)) = some r := H
        have A27 := Aside0.mk A270
        clear A270
        by_cases c28 : t443 = true
        rotate_left
        ·replace c28 := Bool.eq_false_iff.mpr c28
         subst c28
         rw [if_neg (show ¬ (false = true) by decide)] at H
         obtain rfl := Option.some.inj H
         have p441 : 0 ≤ (x58_3 : Int) := od_
         have q441 : x58_3 < (l0_2.length : Int) := od_
         obtain ⟨ad441, e441, hx441_0, hx441_1⟩ := at_T36 HR0_2.out x58_3 p441 q441
         cases e441
         replace hx441_0 := hc_ HB hx441_0
         replace hx441_1 := hc_ HB hx441_1
         replace p441 := eq_true p441
         replace q441 := eq_true q441
         go_wp2_with (first | ((with_reducible refine gate_dst (N := 6) rfl ?_); (try (refine gate_guard (by rfl) ?_; dsimp only)); refine bx_ev 6 #[.int .i64 0, .bool false] 36 ?_; intro gb442 hg w32 hbox hb; have BK442 := Aside0.mk (hbox); have GW442 := gw_ hg HB; have GE442 := gw_ hg HB; have NB435_442 := nl_ hg BK435; have NB442_435 := ng_ hg BK435; replace BK435 := bb_ BK435 hb; replace HB := bst_ HB hb; clear hb hbox hg; obtain ⟨hnb33, hnc33⟩ := nn_ NB442_435; obtain ⟨hcz34_0, hcz34_1⟩ := bcs2_ BK442; obtain ⟨hfz34_0, hfz34_1⟩ := bz2_ BK442) | ((with_reducible refine gate_dst (N := 64) rfl ?_); refine goesL_ (some 64) rfl rfl Try.func29 (by kernel_rfl) rfl #[.int .i64 ((rd_T36 l0_2 x58_3).f0)] rfl tm_ ?_; (with_reducible refine (spec_l3Side.calls ((rd_T36 l0_2 x58_3).f0) false _ A27.out).mono ?_); rintro e w' ⟨rfl, ⟨nd, rfl⟩⟩; refine ⟨_, rfl, ?_⟩))
         go_ret
         exact ⟨rt_, hB HB⟩
        subst c28
        rw [if_pos rfl] at H
        have H' := Aside0.mk H
        clear H
        have p441 : 0 ≤ (x58_3 : Int) := od_
        have q441 : x58_3 < (l0_2.length : Int) := od_
        obtain ⟨ad441, e441, hx441_0, hx441_1⟩ := at_T36 HR0_2.out x58_3 p441 q441
        cases e441
        replace hx441_0 := hc_ HB hx441_0
        replace hx441_1 := hc_ HB hx441_1
        replace p441 := eq_true p441
        replace q441 := eq_true q441
        go_wp2_with (first | ((with_reducible refine gate_dst (N := 6) rfl ?_); (try (refine gate_guard (by rfl) ?_; dsimp only)); refine bx_ev 6 #[.int .i64 0, .bool false] 36 ?_; intro gb442 hg w29 hbox hb; have BK442 := Aside0.mk (hbox); have GW442 := gw_ hg HB; have GE442 := gw_ hg HB; have NB435_442 := nl_ hg BK435; have NB442_435 := ng_ hg BK435; replace BK435 := bb_ BK435 hb; replace HB := bst_ HB hb; clear hb hbox hg; obtain ⟨hnb30, hnc30⟩ := nn_ NB442_435; obtain ⟨hcz31_0, hcz31_1⟩ := bcs2_ BK442; obtain ⟨hfz31_0, hfz31_1⟩ := bz2_ BK442) | ((with_reducible refine gate_dst (N := 64) rfl ?_); refine goesL_ (some 64) rfl rfl Try.func29 (by kernel_rfl) rfl #[.int .i64 ((rd_T36 l0_2 x58_3).f0)] rfl tm_ ?_; (with_reducible refine (spec_l3Side.calls ((rd_T36 l0_2 x58_3).f0) true _ A27.out).mono ?_); rintro e w' ⟨rfl, ⟨nd, rfl⟩⟩; refine ⟨_, rfl, ?_⟩))
        go_roundg k3
        case measure => have := HJ1.out; have := HK2.out; have := HK3.out; omega
        case rel => exact ⟨(wrap64 (x58_3 + 1)), (by first | rfl | (simp; done) | (simp [*]; done)), H', ⟨by have := HJ1.out; have := HK2.out; have := HK3.out; omega⟩, ⟨bw1_ BK435 NB435_442⟩, ⟨hB HB⟩⟩
     rw [if_pos c11] at H
     have c11b0 : decide (x26_2 < (l0_0.length : Int)) = true := decide_eq_true c11
     clear c11
     by_cases c12 : 0 ≤ x26_2
     rotate_left
     ·rw [if_neg c12] at H
      exact absurd H (by simp)
     rw [if_pos c12] at H
     have c12b0 : decide (0 ≤ x26_2) = true := decide_eq_true c12
     clear c12
     by_cases c13 : x26_2 < (l0_0.length : Int)
     rotate_left
     ·rw [if_neg c13] at H
      exact absurd H (by simp)
     rw [if_pos c13] at H
     have c13b0 : decide (x26_2 < (l0_0.length : Int)) = true := decide_eq_true c13
     clear c13
     replace H := Option.bind_eq_some_iff.mp H
     obtain ⟨t437, A140, H⟩ := H
     replace H : (if t437 = true then (if x26_2 < (l0_1.length : Int) then ((spec_l1In.f (rd l0_1 x26_2) 0 3).bind fun t439 => (if t439 = true then (if (((rd l0_1 x26_2) == 0) != ((rd l0_0 x26_2) == 0)) = true then (some false) else (spec_GoodPair.l0 k2 l0_0 (l0_0.length : Int) (wrap64 (x26_2 + 1)) l0_0 l0_1 l0_2)) else (some false))) else (none)) else (some false)) = some r := H
     have A14 := Aside0.mk A140
     clear A140
     by_cases c15 : t437 = true
     rotate_left
     ·replace c15 := Bool.eq_false_iff.mpr c15
      subst c15
      rw [if_neg (show ¬ (false = true) by decide)] at H
      obtain rfl := Option.some.inj H
      have p436 : 0 ≤ (x26_2 : Int) := od_
      have q436 : x26_2 < (l0_0.length : Int) := od_
      obtain ⟨ad436, e436, hx436_0⟩ := Kd.at_int HR0_0.out x26_2 p436 q436
      cases e436
      replace hx436_0 := hc_ HB hx436_0
      replace p436 := eq_true p436
      replace q436 := eq_true q436
      go_wp2_with (first | ((with_reducible refine gate_dst (N := 32) rfl ?_); refine goesL_ (some 32) rfl rfl Try.func28 (by kernel_rfl) rfl #[.int .i64 (rd l0_0 x26_2), .int .i64 0, .int .i64 2] rfl tm_ ?_; (with_reducible refine (spec_l1In.calls (rd l0_0 x26_2) 0 2 false _ A14.out).mono ?_); rintro e w' ⟨rfl, ⟨nd, rfl⟩⟩; refine ⟨_, rfl, ?_⟩))
      go_ret
      exact ⟨rt_, hB HB⟩
     subst c15
     rw [if_pos rfl] at H
     by_cases c16 : x26_2 < (l0_1.length : Int)
     rotate_left
     ·rw [if_neg c16] at H
      exact absurd H (by simp)
     rw [if_pos c16] at H
     have c16b0 : decide (x26_2 < (l0_1.length : Int)) = true := decide_eq_true c16
     clear c16
     replace H := Option.bind_eq_some_iff.mp H
     obtain ⟨t439, A170, H⟩ := H
     replace H : (if t439 = true then (if (((rd l0_1 x26_2) == 0) != ((rd l0_0 x26_2) == 0)) = true then (some false) else (spec_GoodPair.l0 k2 l0_0 (l0_0.length : Int) (wrap64 (x26_2 + 1)) l0_0 l0_1 l0_2)) else (some false)) = some r := H
     have A17 := Aside0.mk A170
     clear A170
     by_cases c18 : t439 = true
     rotate_left
     ·replace c18 := Bool.eq_false_iff.mpr c18
      subst c18
      rw [if_neg (show ¬ (false = true) by decide)] at H
      obtain rfl := Option.some.inj H
      have p436 : 0 ≤ (x26_2 : Int) := od_
      have q436 : x26_2 < (l0_0.length : Int) := od_
      obtain ⟨ad436, e436, hx436_0⟩ := Kd.at_int HR0_0.out x26_2 p436 q436
      cases e436
      replace hx436_0 := hc_ HB hx436_0
      replace p436 := eq_true p436
      replace q436 := eq_true q436
      go_wp2_with (first | ((with_reducible refine gate_dst (N := 32) rfl ?_); refine goesL_ (some 32) rfl rfl Try.func28 (by kernel_rfl) rfl #[.int .i64 (rd l0_0 x26_2), .int .i64 0, .int .i64 2] rfl tm_ ?_; (with_reducible refine (spec_l1In.calls (rd l0_0 x26_2) 0 2 true _ A14.out).mono ?_); rintro e w' ⟨rfl, ⟨nd, rfl⟩⟩; refine ⟨_, rfl, ?_⟩; obtain ⟨hcz22_0, hcz22_1, hcz22_2⟩ := bcs3_ BK435; have p438 : 0 ≤ (x26_2 : Int) := od_; have q438 : x26_2 < (l0_1.length : Int) := od_; obtain ⟨ad438, e438, hx438_0⟩ := Kd.at_int HR0_1.out x26_2 p438 q438; cases e438; replace hx438_0 := hc_ HB hx438_0; replace p438 := eq_true p438; replace q438 := eq_true q438) | (go_at_call 28; (with_reducible refine (spec_l1In.calls (rd l0_1 x26_2) 0 3 false _ A17.out).mono ?_); rintro e w' ⟨rfl, ⟨nd, rfl⟩⟩))
      go_ret
      exact ⟨rt_, hB HB⟩
     subst c18
     rw [if_pos rfl] at H
     by_cases c19 : (((rd l0_1 x26_2) == 0) != ((rd l0_0 x26_2) == 0)) = true
     rotate_left
     ·rw [if_neg c19] at H
      have c19b0 : (((rd l0_1 x26_2) == 0) != ((rd l0_0 x26_2) == 0)) = false := by simpa using c19
      (try (have c19b1 : decide (((rd l0_1 x26_2) == 0) = ((rd l0_0 x26_2) == 0)) = true := by simpa using c19))
      (try (have c19b2 : (((rd l0_1 x26_2) == 0) == ((rd l0_0 x26_2) == 0)) = true := by simpa using c19))
      clear c19
      have H' := Aside0.mk H
      clear H
      have p436 : 0 ≤ (x26_2 : Int) := od_
      have q436 : x26_2 < (l0_0.length : Int) := od_
      obtain ⟨ad436, e436, hx436_0⟩ := Kd.at_int HR0_0.out x26_2 p436 q436
      cases e436
      replace hx436_0 := hc_ HB hx436_0
      replace p436 := eq_true p436
      replace q436 := eq_true q436
      go_wp2_with (first | ((with_reducible refine gate_dst (N := 32) rfl ?_); refine goesL_ (some 32) rfl rfl Try.func28 (by kernel_rfl) rfl #[.int .i64 (rd l0_0 x26_2), .int .i64 0, .int .i64 2] rfl tm_ ?_; (with_reducible refine (spec_l1In.calls (rd l0_0 x26_2) 0 2 true _ A14.out).mono ?_); rintro e w' ⟨rfl, ⟨nd, rfl⟩⟩; refine ⟨_, rfl, ?_⟩; obtain ⟨hcz21_0, hcz21_1, hcz21_2⟩ := bcs3_ BK435; have p438 : 0 ≤ (x26_2 : Int) := od_; have q438 : x26_2 < (l0_1.length : Int) := od_; obtain ⟨ad438, e438, hx438_0⟩ := Kd.at_int HR0_1.out x26_2 p438 q438; cases e438; replace hx438_0 := hc_ HB hx438_0; replace p438 := eq_true p438; replace q438 := eq_true q438) | (go_at_call 28; (with_reducible refine (spec_l1In.calls (rd l0_1 x26_2) 0 3 true _ A17.out).mono ?_); rintro e w' ⟨rfl, ⟨nd, rfl⟩⟩; have p440 : 0 ≤ (x26_2 : Int) := od_; have q440 : x26_2 < (l0_1.length : Int) := od_; obtain ⟨ad440, e440, hx440_0⟩ := Kd.at_int HR0_1.out x26_2 p440 q440; obtain rfl : ad438 = ad440 := (by injection e440); replace hx440_0 := hc_ HB hx440_0; replace p440 := eq_true p440; replace q440 := eq_true q440))
      go_roundg k2
      case measure => have := HJ1.out; have := HK2.out; omega
      case rel => exact ⟨(wrap64 (x26_2 + 1)), (by first | rfl | (simp; done) | (simp [*]; done)), H', ⟨by have := HJ1.out; have := HK2.out; omega⟩, ⟨bw0_ BK435⟩, ⟨hB HB⟩⟩
     rw [if_pos c19] at H
     have c19b0 : (((rd l0_1 x26_2) == 0) != ((rd l0_0 x26_2) == 0)) = true := c19
     (try (have c19b1 : decide (((rd l0_1 x26_2) == 0) = ((rd l0_0 x26_2) == 0)) = false := by simpa using c19))
     (try (have c19b2 : (((rd l0_1 x26_2) == 0) == ((rd l0_0 x26_2) == 0)) = false := by simpa using c19))
     (try (have c19b3 : ¬ (((rd l0_1 x26_2) == 0) = ((rd l0_0 x26_2) == 0)) := by simpa using c19))
     clear c19
     obtain rfl := Option.some.inj H
     have p436 : 0 ≤ (x26_2 : Int) := od_
     have q436 : x26_2 < (l0_0.length : Int) := od_
     obtain ⟨ad436, e436, hx436_0⟩ := Kd.at_int HR0_0.out x26_2 p436 q436
     cases e436
     replace hx436_0 := hc_ HB hx436_0
     replace p436 := eq_true p436
     replace q436 := eq_true q436
     go_wp2_with (first | ((with_reducible refine gate_dst (N := 32) rfl ?_); refine goesL_ (some 32) rfl rfl Try.func28 (by kernel_rfl) rfl #[.int .i64 (rd l0_0 x26_2), .int .i64 0, .int .i64 2] rfl tm_ ?_; (with_reducible refine (spec_l1In.calls (rd l0_0 x26_2) 0 2 true _ A14.out).mono ?_); rintro e w' ⟨rfl, ⟨nd, rfl⟩⟩; refine ⟨_, rfl, ?_⟩; obtain ⟨hcz20_0, hcz20_1, hcz20_2⟩ := bcs3_ BK435; have p438 : 0 ≤ (x26_2 : Int) := od_; have q438 : x26_2 < (l0_1.length : Int) := od_; obtain ⟨ad438, e438, hx438_0⟩ := Kd.at_int HR0_1.out x26_2 p438 q438; cases e438; replace hx438_0 := hc_ HB hx438_0; replace p438 := eq_true p438; replace q438 := eq_true q438) | (go_at_call 28; (with_reducible refine (spec_l1In.calls (rd l0_1 x26_2) 0 3 true _ A17.out).mono ?_); rintro e w' ⟨rfl, ⟨nd, rfl⟩⟩; have p440 : 0 ≤ (x26_2 : Int) := od_; have q440 : x26_2 < (l0_1.length : Int) := od_; obtain ⟨ad440, e440, hx440_0⟩ := Kd.at_int HR0_1.out x26_2 p440 q440; obtain rfl : ad438 = ad440 := (by injection e440); replace hx440_0 := hc_ HB hx440_0; replace p440 := eq_true p440; replace q440 := eq_true q440))
     go_ret
     exact ⟨rt_, hB HB⟩

end Go.Proofs.Ytefdgdloghhnaaa.P
