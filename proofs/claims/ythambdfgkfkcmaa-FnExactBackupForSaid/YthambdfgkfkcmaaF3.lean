import Derived.Test.YthambdfgkfkcmaaF0
namespace Go.Proofs.Ythambdfgkfkcmaa.P
open Go.RowKit Go.Proofs.YthambdfgkfkcmaaW.PrintWords Go.Proofs.YthambdfgkfkcmaaW.PrintLast Go.Proofs.YthambdfgkfkcmaaW.PrintMore
attribute [local go_sem] max2_int min2_int max_two min_two max_three min_three max_four min_four   -- for this text's walks alone
set_option linter.unusedVariables false
set_option linter.unusedSimpArgs false
attribute [local go_sem high] eqA47

def spec_l1In.f (a0 : Int) (a1 : Int) (a2 : Int) : Option (Bool) := if a0 ≥ a1 then (some (decide (a0 ≤ a2))) else (some false)
set_option maxHeartbeats 8000000 in
set_option maxRecDepth 100000 in
theorem spec_l1In.calls (a0 : Int) (a1 : Int) (a2 : Int) (r : Bool) (w : World) (h : spec_l1In.f a0 a1 a2 = some r) :
  Calls Try.prog 96 #[.int .i64 a0, .int .i64 a1, .int .i64 a2] w fun e w' => e = .returned (.bool r) ∧ Drawn0 w w' := by
 have H : (if a0 ≥ a1 then (some (decide (a0 ≤ a2))) else (some false)) = some r := h
 clear h
 by_cases c4 : a0 ≥ a1
 ·rw [if_pos c4] at H
  have c4b0 : decide (a1 ≤ a0) = true := decide_eq_true c4
  clear c4
  obtain rfl := Option.some.inj H
  go_enter Try.func96, Try.ntmps96
  go_wp2
  go_ret
  exact ⟨by first | rfl | (simp; done) | (simp [*]; done), by repeat (first | exact Drawn0.refl _ | apply Drawn0.step)⟩
 rw [if_neg c4] at H
 have c4b0 : decide (a1 ≤ a0) = false := decide_eq_false c4
 clear c4
 obtain rfl := Option.some.inj H
 go_enter Try.func96, Try.ntmps96
 go_wp2
 go_ret
 exact ⟨by first | rfl | (simp; done) | (simp [*]; done), by repeat (first | exact Drawn0.refl _ | apply Drawn0.step)⟩

mutual
def spec_GoodEdges.l0 : Nat → Int → List (S47) → List (S47) → Int → Int → Option (Bool)
 | 0, _, _, _, _, _ => none
 | k + 1, x0, x1, x7, x8, x9 => if x9 < x8 then (if 0 ≤ x9 then (if x9 < (x7.length : Int) then ((spec_l1In.f ((rd_T47 x7 x9).f0) 0 (wrap64 (x0 - 1))).bind fun t104 => (if t104 = true then ((spec_l1In.f ((rd_T47 x7 x9).f1) 0 (wrap64 (x0 - 1))).bind fun t105 => (if t105 = true then (if ((rd_T47 x7 x9).f0) ≥ ((rd_T47 x7 x9).f1) then (spec_GoodEdges.j1 k x0 x1 x9 x7 x8 x9 true ((rd_T47 x7 x9).f0) ((rd_T47 x7 x9).f1) ((rd_T47 x7 x9).f2)) else ((spec_l1In.f ((rd_T47 x7 x9).f2) 1 100).bind fun t106 => (spec_GoodEdges.j1 k x0 x1 x9 x7 x8 x9 (!t106) ((rd_T47 x7 x9).f0) ((rd_T47 x7 x9).f1) ((rd_T47 x7 x9).f2)))) else (spec_GoodEdges.j1 k x0 x1 x9 x7 x8 x9 true ((rd_T47 x7 x9).f0) ((rd_T47 x7 x9).f1) ((rd_T47 x7 x9).f2)))) else (spec_GoodEdges.j1 k x0 x1 x9 x7 x8 x9 true ((rd_T47 x7 x9).f0) ((rd_T47 x7 x9).f1) ((rd_T47 x7 x9).f2)))) else (none)) else (none)) else ((spec_l1In.f x0 1 12).bind fun t101 => (if t101 = true then (some (decide ((x1.length : Int) ≤ 40))) else (some false)))
def spec_GoodEdges.j1 : Nat → Int → List (S47) → Int → List (S47) → Int → Int → Bool → Int → Int → Int → Option (Bool)
 | 0, _, _, _, _, _, _, _, _, _, _ => none
 | k + 1, x0, x1, x5, x7, x8, x9, x40, x104000, x104001, x104002 => if x40 = true then (some false) else (if x5 > 0 then (if 0 ≤ (wrap64 (x5 - 1)) then (if (wrap64 (x5 - 1)) < (x1.length : Int) then (if ((rd_T47 x1 (wrap64 (x5 - 1))).f0) > x104000 then (some false) else (if ((rd_T47 x1 (wrap64 (x5 - 1))).f0) = x104000 then (if ((rd_T47 x1 (wrap64 (x5 - 1))).f1) ≥ x104001 then (some false) else (spec_GoodEdges.l0 k x0 x1 x7 x8 (wrap64 (x9 + 1)))) else (spec_GoodEdges.l0 k x0 x1 x7 x8 (wrap64 (x9 + 1))))) else (none)) else (none)) else (spec_GoodEdges.l0 k x0 x1 x7 x8 (wrap64 (x9 + 1))))
end
def spec_GoodEdges.f (k : Nat) (a0 : Int) (l1 : List (S47)) : Option (Bool) := spec_GoodEdges.l0 k a0 l1 l1 (l1.length : Int) 0
theorem spec_GoodEdges.mono_l : ∀ k, (∀ y0 y1 y2 y3 y4, LeO (spec_GoodEdges.l0 k y0 y1 y2 y3 y4) (spec_GoodEdges.l0 (k + 1) y0 y1 y2 y3 y4)) ∧ (∀ y0 y1 y2 y3 y4 y5 y6 y7 y8 y9, LeO (spec_GoodEdges.j1 k y0 y1 y2 y3 y4 y5 y6 y7 y8 y9) (spec_GoodEdges.j1 (k + 1) y0 y1 y2 y3 y4 y5 y6 y7 y8 y9))
 | 0 => ⟨fun _ _ _ _ _ r h => by simp [spec_GoodEdges.l0] at h, fun _ _ _ _ _ _ _ _ _ _ r h => by simp [spec_GoodEdges.j1] at h⟩
 | k + 1 => by
  obtain ⟨ih0, ih1⟩ := spec_GoodEdges.mono_l k
  refine ⟨?_, ?_⟩
  ·intro y0 y1 y2 y3 y4
   unfold spec_GoodEdges.l0
   repeat' first
   | (with_reducible exact ih0 _ _ _ _ _)
   | (with_reducible exact ih1 _ _ _ _ _ _ _ _ _ _)
   | with_reducible first | exact LeO.refl _ | exact LeO.none _ | refine LeO.ite ?_ ?_ | refine LeO.bind ?_ fun _ => ?_
  ·intro y0 y1 y2 y3 y4 y5 y6 y7 y8 y9
   unfold spec_GoodEdges.j1
   repeat' first
   | (with_reducible exact ih0 _ _ _ _ _)
   | (with_reducible exact ih1 _ _ _ _ _ _ _ _ _ _)
   | with_reducible first | exact LeO.refl _ | exact LeO.none _ | refine LeO.ite ?_ ?_ | refine LeO.bind ?_ fun _ => ?_
theorem spec_GoodEdges.mono : ∀ a0 a1 k, LeO (spec_GoodEdges.f k a0 a1) (spec_GoodEdges.f (k + 1) a0 a1) := by
 intro a0 a1 k
 obtain ⟨ih0, ih1⟩ := spec_GoodEdges.mono_l k
 unfold spec_GoodEdges.f
 repeat' first
   | (with_reducible exact ih0 _ _ _ _ _)
   | (with_reducible exact ih1 _ _ _ _ _ _ _ _ _ _)
   | with_reducible first | exact LeO.refl _ | exact LeO.none _ | refine LeO.ite ?_ ?_ | refine LeO.bind ?_ fun _ => ?_
set_option maxHeartbeats 8000000 in
set_option maxRecDepth 100000 in
theorem spec_GoodEdges.calls (k : Nat) (a0 : Int) (A1 : Option Addr) (c1 : Nat) (l1 : List (S47)) (r : Bool) (w : World) (hr1 : Kd.C k47 w A1 l1.length l1) (hc1 : l1.length ≤ c1) (h : spec_GoodEdges.f k a0 l1 = some r) :
  Calls Try.prog 70 #[.int .i64 a0, .slice A1 l1.length c1] w fun e w' => e = .returned (.bool r) ∧ Below w.heap.size w w' := by
 have hu47 := Try.underlying47
 have HR1 := Aside0.mk hr1
 have HC1 := Aside0.mk hc1
 clear hr1 hc1
 have HB := Aside0.mk (Below.refl w.heap.size w)
 have H : (spec_GoodEdges.l0 k a0 l1 l1 (l1.length : Int) 0) = some r := h
 clear h
 have H' := Aside0.mk H
 clear H
 go_enter Try.func70, Try.ntmps70
 go_wp2
 repeat (go_quiet (fail); try go_wp2)
 go_loopg [9] k (fun kq v9 w' => ∃ (x9_1 : Int), v9 = .int .i64 x9_1 ∧ Aside0 (spec_GoodEdges.l0 kq a0 l1 l1 (l1.length : Int) x9_1 = some r) ∧ Aside0 (kq ≤ k) ∧ Aside0 (Below w.heap.size w w'))
 case atStart => exact ⟨(0), (by first | rfl | (simp; done) | (simp [*]; done)), H', ⟨Nat.le_refl _⟩, ⟨hB HB⟩⟩
 case round =>
  clear H'
  try clear c1
  obtain ⟨x9_1, rfl, HA, HK1, HB⟩ := hrel
  cases gk with
  | zero => exact absurd HA.out (by simp [spec_GoodEdges.l0])
  | succ k1 =>
   have H := HA.out
   clear HA
   simp only [spec_GoodEdges.l0] at H
   by_cases c3 : x9_1 < (l1.length : Int)
   rotate_left
   ·rw [if_neg c3] at H
    have c3b0 : decide (x9_1 < (l1.length : Int)) = false := decide_eq_false c3
    clear c3
    replace H := Option.bind_eq_some_iff.mp H
    obtain ⟨t101, A310, H⟩ := H
    replace H : (if t101 = true then (some (decide ((l1.length : Int) ≤ 40))) else (some false)) = some r := H
    have A31 := Aside0.mk A310
    clear A310
    by_cases c32 : t101 = true
    ·subst c32
     rw [if_pos rfl] at H
     obtain rfl := Option.some.inj H
     go_wp2_with (first | (go_at_call 96; (with_reducible refine (spec_l1In.calls a0 1 12 true _ A31.out).mono ?_); rintro e w' ⟨rfl, ⟨nd, rfl⟩⟩; (try first | exact ⟨rfl, _, World.drewN_drewN _ _ _⟩ | exact ⟨rfl, _, Eq.trans (World.drewN_drewN _ _ _) (congrArg (World.drewN _) (Nat.add_assoc _ _ _))⟩)))
     repeat (go_quiet (first | (go_at_call 96; (with_reducible refine (spec_l1In.calls a0 1 12 true _ A31.out).mono ?_); rintro e w' ⟨rfl, ⟨nd, rfl⟩⟩; (try first | exact ⟨rfl, _, World.drewN_drewN _ _ _⟩ | exact ⟨rfl, _, Eq.trans (World.drewN_drewN _ _ _) (congrArg (World.drewN _) (Nat.add_assoc _ _ _))⟩))); try go_wp2_with (first | (go_at_call 96; (with_reducible refine (spec_l1In.calls a0 1 12 true _ A31.out).mono ?_); rintro e w' ⟨rfl, ⟨nd, rfl⟩⟩; (try first | exact ⟨rfl, _, World.drewN_drewN _ _ _⟩ | exact ⟨rfl, _, Eq.trans (World.drewN_drewN _ _ _) (congrArg (World.drewN _) (Nat.add_assoc _ _ _))⟩))))
     go_ret
     exact ⟨rt_, hB HB⟩
    replace c32 := Bool.eq_false_iff.mpr c32
    subst c32
    rw [if_neg (show ¬ (false = true) by decide)] at H
    obtain rfl := Option.some.inj H
    go_wp2_with (first | (go_at_call 96; (with_reducible refine (spec_l1In.calls a0 1 12 false _ A31.out).mono ?_); rintro e w' ⟨rfl, ⟨nd, rfl⟩⟩; (try first | exact ⟨rfl, _, World.drewN_drewN _ _ _⟩ | exact ⟨rfl, _, Eq.trans (World.drewN_drewN _ _ _) (congrArg (World.drewN _) (Nat.add_assoc _ _ _))⟩)))
    repeat (go_quiet (first | (go_at_call 96; (with_reducible refine (spec_l1In.calls a0 1 12 false _ A31.out).mono ?_); rintro e w' ⟨rfl, ⟨nd, rfl⟩⟩; (try first | exact ⟨rfl, _, World.drewN_drewN _ _ _⟩ | exact ⟨rfl, _, Eq.trans (World.drewN_drewN _ _ _) (congrArg (World.drewN _) (Nat.add_assoc _ _ _))⟩))); try go_wp2_with (first | (go_at_call 96; (with_reducible refine (spec_l1In.calls a0 1 12 false _ A31.out).mono ?_); rintro e w' ⟨rfl, ⟨nd, rfl⟩⟩; (try first | exact ⟨rfl, _, World.drewN_drewN _ _ _⟩ | exact ⟨rfl, _, Eq.trans (World.drewN_drewN _ _ _) (congrArg (World.drewN _) (Nat.add_assoc _ _ _))⟩))))
    go_ret
    exact ⟨rt_, hB HB⟩
   rw [if_pos c3] at H
   have c3b0 : decide (x9_1 < (l1.length : Int)) = true := decide_eq_true c3
   clear c3
   by_cases c4 : 0 ≤ x9_1
   rotate_left
   ·rw [if_neg c4] at H
    exact absurd H (by simp)
   rw [if_pos c4] at H
   have c4b0 : decide (0 ≤ x9_1) = true := decide_eq_true c4
   clear c4
   by_cases c5 : x9_1 < (l1.length : Int)
   rotate_left
   ·rw [if_neg c5] at H
    exact absurd H (by simp)
   rw [if_pos c5] at H
   have c5b0 : decide (x9_1 < (l1.length : Int)) = true := decide_eq_true c5
   clear c5
   have HC6 := Aside0.mk H
   clear H
   have p102 : 0 ≤ (x9_1 : Int) := od_
   have q102 : x9_1 < (l1.length : Int) := od_
   obtain ⟨ad102, e102, hx102_0, hx102_1, hx102_2⟩ := at_T47 HR1.out x9_1 p102 q102
   cases e102
   replace hx102_0 := hc_ HB hx102_0
   replace hx102_1 := hc_ HB hx102_1
   replace hx102_2 := hc_ HB hx102_2
   replace p102 := eq_true p102
   replace q102 := eq_true q102
   go_upto_region 4 with (first | ((with_reducible refine gate_dst (N := 6) rfl ?_); (try (refine gate_guard (by rfl) ?_; dsimp only)); refine bx_ev 6 #[.int .i64 0, .int .i64 0, .int .i64 0] 47 ?_; intro gb103 hg w7 hbox hb; have BK103 := Aside0.mk (hbox); have GW103 := gw_ hg HB; have GE103 := gw_ hg HB; replace HB := bst_ HB hb; clear hb hbox hg; obtain ⟨hcz8_0, hcz8_1, hcz8_2⟩ := bcs3_ BK103; obtain ⟨hfz8_0, hfz8_1, hfz8_2⟩ := bz3_ BK103))
   repeat (go_quiet (first | ((with_reducible refine gate_dst (N := 6) rfl ?_); (try (refine gate_guard (by rfl) ?_; dsimp only)); refine bx_ev 6 #[.int .i64 0, .int .i64 0, .int .i64 0] 47 ?_; intro gb103 hg w7 hbox hb; have BK103 := Aside0.mk (hbox); have GW103 := gw_ hg HB; have GE103 := gw_ hg HB; replace HB := bst_ HB hb; clear hb hbox hg; obtain ⟨hcz8_0, hcz8_1, hcz8_2⟩ := bcs3_ BK103; obtain ⟨hfz8_0, hfz8_1, hfz8_2⟩ := bz3_ BK103)); go_upto_region 4 with (first | ((with_reducible refine gate_dst (N := 6) rfl ?_); (try (refine gate_guard (by rfl) ?_; dsimp only)); refine bx_ev 6 #[.int .i64 0, .int .i64 0, .int .i64 0] 47 ?_; intro gb103 hg w7 hbox hb; have BK103 := Aside0.mk (hbox); have GW103 := gw_ hg HB; have GE103 := gw_ hg HB; replace HB := bst_ HB hb; clear hb hbox hg; obtain ⟨hcz8_0, hcz8_1, hcz8_2⟩ := bcs3_ BK103; obtain ⟨hfz8_0, hfz8_1, hfz8_2⟩ := bz3_ BK103)))
   (try simp only [Act.put, List.setIfInBounds_toArray, List.set_cons_zero, List.set_cons_succ])
   go_cut [40] (fun v40 wc => ∃ (kq : Nat) (x40_5 : Bool), v40 = .bool x40_5 ∧ Aside0 (spec_GoodEdges.j1 kq a0 l1 x9_1 l1 (l1.length : Int) x9_1 x40_5 ((rd_T47 l1 x9_1).f0) ((rd_T47 l1 x9_1).f1) ((rd_T47 l1 x9_1).f2) = some r) ∧ Aside0 (kq ≤ k1) ∧ Aside0 (wc.heap[gb103]? = some (.cells #[.int .i64 ((rd_T47 l1 x9_1).f0), .int .i64 ((rd_T47 l1 x9_1).f1), .int .i64 ((rd_T47 l1 x9_1).f2)] 47 (0, 0))) ∧ Aside0 (Below w.heap.size w wc))
   case first =>
    have H := HC6.out
    clear HC6
    replace H := Option.bind_eq_some_iff.mp H
    obtain ⟨t104, A90, H⟩ := H
    replace H : (if t104 = true then ((spec_l1In.f ((rd_T47 l1 x9_1).f1) 0 (wrap64 (a0 - 1))).bind fun t105 => (if t105 = true then (if ((rd_T47 l1 x9_1).f0) ≥ ((rd_T47 l1 x9_1).f1) then (spec_GoodEdges.j1 k1 a0 l1 x9_1 l1 (l1.length : Int) x9_1 true ((rd_T47 l1 x9_1).f0) ((rd_T47 l1 x9_1).f1) ((rd_T47 l1 x9_1).f2)) else ((spec_l1In.f ((rd_T47 l1 x9_1).f2) 1 100).bind fun t106 => (spec_GoodEdges.j1 k1 a0 l1 x9_1 l1 (l1.length : Int) x9_1 (!t106) ((rd_T47 l1 x9_1).f0) ((rd_T47 l1 x9_1).f1) ((rd_T47 l1 x9_1).f2)))) else (spec_GoodEdges.j1 k1 a0 l1 x9_1 l1 (l1.length : Int) x9_1 true ((rd_T47 l1 x9_1).f0) ((rd_T47 l1 x9_1).f1) ((rd_T47 l1 x9_1).f2)))) else (spec_GoodEdges.j1 k1 a0 l1 x9_1 l1 (l1.length : Int) x9_1 true ((rd_T47 l1 x9_1).f0) ((rd_T47 l1 x9_1).f1) ((rd_T47 l1 x9_1).f2))) = some r := H
    have A9 := Aside0.mk A90
    clear A90
    by_cases c10 : t104 = true
    rotate_left
    ·replace c10 := Bool.eq_false_iff.mpr c10
     subst c10
     rw [if_neg (show ¬ (false = true) by decide)] at H
     have H' := Aside0.mk H
     clear H
     obtain ⟨hcz18_0, hcz18_1, hcz18_2⟩ := bcs3_ BK103
     obtain ⟨hfz18_0, hfz18_1, hfz18_2⟩ := bz3_ BK103
     go_wp2_with (first | (go_at_call 96; (with_reducible refine (spec_l1In.calls ((rd_T47 l1 x9_1).f0) 0 (wrap64 (a0 - 1)) false _ A9.out).mono ?_); rintro e w' ⟨rfl, ⟨nd, rfl⟩⟩; (try first | exact ⟨rfl, _, World.drewN_drewN _ _ _⟩ | exact ⟨rfl, _, Eq.trans (World.drewN_drewN _ _ _) (congrArg (World.drewN _) (Nat.add_assoc _ _ _))⟩)))
     repeat (go_quiet (first | (go_at_call 96; (with_reducible refine (spec_l1In.calls ((rd_T47 l1 x9_1).f0) 0 (wrap64 (a0 - 1)) false _ A9.out).mono ?_); rintro e w' ⟨rfl, ⟨nd, rfl⟩⟩; (try first | exact ⟨rfl, _, World.drewN_drewN _ _ _⟩ | exact ⟨rfl, _, Eq.trans (World.drewN_drewN _ _ _) (congrArg (World.drewN _) (Nat.add_assoc _ _ _))⟩))); try go_wp2_with (first | (go_at_call 96; (with_reducible refine (spec_l1In.calls ((rd_T47 l1 x9_1).f0) 0 (wrap64 (a0 - 1)) false _ A9.out).mono ?_); rintro e w' ⟨rfl, ⟨nd, rfl⟩⟩; (try first | exact ⟨rfl, _, World.drewN_drewN _ _ _⟩ | exact ⟨rfl, _, Eq.trans (World.drewN_drewN _ _ _) (congrArg (World.drewN _) (Nat.add_assoc _ _ _))⟩))))
     go_meet
     case rel => exact ⟨_, (true), (by first | rfl | (simp; done) | (simp [*]; done)), H', ⟨by have := HK1.out; first | omega | exact Nat.le_refl _⟩, ⟨bw0_ BK103⟩, ⟨hB HB⟩⟩
    subst c10
    rw [if_pos rfl] at H
    replace H := Option.bind_eq_some_iff.mp H
    obtain ⟨t105, A110, H⟩ := H
    replace H : (if t105 = true then (if ((rd_T47 l1 x9_1).f0) ≥ ((rd_T47 l1 x9_1).f1) then (spec_GoodEdges.j1 k1 a0 l1 x9_1 l1 (l1.length : Int) x9_1 true ((rd_T47 l1 x9_1).f0) ((rd_T47 l1 x9_1).f1) ((rd_T47 l1 x9_1).f2)) else ((spec_l1In.f ((rd_T47 l1 x9_1).f2) 1 100).bind fun t106 => (spec_GoodEdges.j1 k1 a0 l1 x9_1 l1 (l1.length : Int) x9_1 (!t106) ((rd_T47 l1 x9_1).f0) ((rd_T47 l1 x9_1).f1) ((rd_T47 l1 x9_1).f2)))) else (spec_GoodEdges.j1 k1 a0 l1 x9_1 l1 (l1.length : Int) x9_1 true ((rd_T47 l1 x9_1).f0) ((rd_T47 l1 x9_1).f1) ((rd_T47 l1 x9_1).f2))) = some r := H
    have A11 := Aside0.mk A110
    clear A110
    by_cases c12 : t105 = true
    rotate_left
    ·replace c12 := Bool.eq_false_iff.mpr c12
     subst c12
     rw [if_neg (show ¬ (false = true) by decide)] at H
     have H' := Aside0.mk H
     clear H
     obtain ⟨hcz17_0, hcz17_1, hcz17_2⟩ := bcs3_ BK103
     obtain ⟨hfz17_0, hfz17_1, hfz17_2⟩ := bz3_ BK103
     go_wp2_with (first | (go_at_call 96; (with_reducible refine (spec_l1In.calls ((rd_T47 l1 x9_1).f0) 0 (wrap64 (a0 - 1)) true _ A9.out).mono ?_); rintro e w' ⟨rfl, ⟨nd, rfl⟩⟩; (try first | exact ⟨rfl, _, World.drewN_drewN _ _ _⟩ | exact ⟨rfl, _, Eq.trans (World.drewN_drewN _ _ _) (congrArg (World.drewN _) (Nat.add_assoc _ _ _))⟩)) | (go_at_call 96; (with_reducible refine (spec_l1In.calls ((rd_T47 l1 x9_1).f1) 0 (wrap64 (a0 - 1)) false _ A11.out).mono ?_); rintro e w' ⟨rfl, ⟨nd, rfl⟩⟩; (try first | exact ⟨rfl, _, World.drewN_drewN _ _ _⟩ | exact ⟨rfl, _, Eq.trans (World.drewN_drewN _ _ _) (congrArg (World.drewN _) (Nat.add_assoc _ _ _))⟩)))
     repeat (go_quiet (first | (go_at_call 96; (with_reducible refine (spec_l1In.calls ((rd_T47 l1 x9_1).f0) 0 (wrap64 (a0 - 1)) true _ A9.out).mono ?_); rintro e w' ⟨rfl, ⟨nd, rfl⟩⟩; (try first | exact ⟨rfl, _, World.drewN_drewN _ _ _⟩ | exact ⟨rfl, _, Eq.trans (World.drewN_drewN _ _ _) (congrArg (World.drewN _) (Nat.add_assoc _ _ _))⟩)) | (go_at_call 96; (with_reducible refine (spec_l1In.calls ((rd_T47 l1 x9_1).f1) 0 (wrap64 (a0 - 1)) false _ A11.out).mono ?_); rintro e w' ⟨rfl, ⟨nd, rfl⟩⟩; (try first | exact ⟨rfl, _, World.drewN_drewN _ _ _⟩ | exact ⟨rfl, _, Eq.trans (World.drewN_drewN _ _ _) (congrArg (World.drewN _) (Nat.add_assoc _ _ _))⟩))); try go_wp2_with (first | (go_at_call 96; (with_reducible refine (spec_l1In.calls ((rd_T47 l1 x9_1).f0) 0 (wrap64 (a0 - 1)) true _ A9.out).mono ?_); rintro e w' ⟨rfl, ⟨nd, rfl⟩⟩; (try first | exact ⟨rfl, _, World.drewN_drewN _ _ _⟩ | exact ⟨rfl, _, Eq.trans (World.drewN_drewN _ _ _) (congrArg (World.drewN _) (Nat.add_assoc _ _ _))⟩)) | (go_at_call 96; (with_reducible refine (spec_l1In.calls ((rd_T47 l1 x9_1).f1) 0 (wrap64 (a0 - 1)) false _ A11.out).mono ?_); rintro e w' ⟨rfl, ⟨nd, rfl⟩⟩; (try first | exact ⟨rfl, _, World.drewN_drewN _ _ _⟩ | exact ⟨rfl, _, Eq.trans (World.drewN_drewN _ _ _) (congrArg (World.drewN _) (Nat.add_assoc _ _ _))⟩))))
     go_meet
     case rel => exact ⟨_, (true), (by first | rfl | (simp; done) | (simp [*]; done)), H', ⟨by have := HK1.out; first | omega | exact Nat.le_refl _⟩, ⟨bw0_ BK103⟩, ⟨hB HB⟩⟩
    subst c12
    rw [if_pos rfl] at H
    by_cases c13 : ((rd_T47 l1 x9_1).f0) ≥ ((rd_T47 l1 x9_1).f1)
    ·rw [if_pos c13] at H
     have c13b0 : decide (((rd_T47 l1 x9_1).f1) ≤ ((rd_T47 l1 x9_1).f0)) = true := decide_eq_true c13
     clear c13
     (first | rw [c13b0] | (simp only [i64_w, i32_w]; rw [c13b0]) | skip)
     have H' := Aside0.mk H
     clear H
     obtain ⟨hcz14_0, hcz14_1, hcz14_2⟩ := bcs3_ BK103
     obtain ⟨hfz14_0, hfz14_1, hfz14_2⟩ := bz3_ BK103
     go_wp2_with (first | (go_at_call 96; (with_reducible refine (spec_l1In.calls ((rd_T47 l1 x9_1).f0) 0 (wrap64 (a0 - 1)) true _ A9.out).mono ?_); rintro e w' ⟨rfl, ⟨nd, rfl⟩⟩; (try first | exact ⟨rfl, _, World.drewN_drewN _ _ _⟩ | exact ⟨rfl, _, Eq.trans (World.drewN_drewN _ _ _) (congrArg (World.drewN _) (Nat.add_assoc _ _ _))⟩)) | (go_at_call 96; (with_reducible refine (spec_l1In.calls ((rd_T47 l1 x9_1).f1) 0 (wrap64 (a0 - 1)) true _ A11.out).mono ?_); rintro e w' ⟨rfl, ⟨nd, rfl⟩⟩; (try first | exact ⟨rfl, _, World.drewN_drewN _ _ _⟩ | exact ⟨rfl, _, Eq.trans (World.drewN_drewN _ _ _) (congrArg (World.drewN _) (Nat.add_assoc _ _ _))⟩)))
     repeat (go_quiet (first | (go_at_call 96; (with_reducible refine (spec_l1In.calls ((rd_T47 l1 x9_1).f0) 0 (wrap64 (a0 - 1)) true _ A9.out).mono ?_); rintro e w' ⟨rfl, ⟨nd, rfl⟩⟩; (try first | exact ⟨rfl, _, World.drewN_drewN _ _ _⟩ | exact ⟨rfl, _, Eq.trans (World.drewN_drewN _ _ _) (congrArg (World.drewN _) (Nat.add_assoc _ _ _))⟩)) | (go_at_call 96; (with_reducible refine (spec_l1In.calls ((rd_T47 l1 x9_1).f1) 0 (wrap64 (a0 - 1)) true _ A11.out).mono ?_); rintro e w' ⟨rfl, ⟨nd, rfl⟩⟩; (try first | exact ⟨rfl, _, World.drewN_drewN _ _ _⟩ | exact ⟨rfl, _, Eq.trans (World.drewN_drewN _ _ _) (congrArg (World.drewN _) (Nat.add_assoc _ _ _))⟩))); try go_wp2_with (first | (go_at_call 96; (with_reducible refine (spec_l1In.calls ((rd_T47 l1 x9_1).f0) 0 (wrap64 (a0 - 1)) true _ A9.out).mono ?_); rintro e w' ⟨rfl, ⟨nd, rfl⟩⟩; (try first | exact ⟨rfl, _, World.drewN_drewN _ _ _⟩ | exact ⟨rfl, _, Eq.trans (World.drewN_drewN _ _ _) (congrArg (World.drewN _) (Nat.add_assoc _ _ _))⟩)) | (go_at_call 96; (with_reducible refine (spec_l1In.calls ((rd_T47 l1 x9_1).f1) 0 (wrap64 (a0 - 1)) true _ A11.out).mono ?_); rintro e w' ⟨rfl, ⟨nd, rfl⟩⟩; (try first | exact ⟨rfl, _, World.drewN_drewN _ _ _⟩ | exact ⟨rfl, _, Eq.trans (World.drewN_drewN _ _ _) (congrArg (World.drewN _) (Nat.add_assoc _ _ _))⟩))))
     go_meet
     case rel => exact ⟨_, (true), (by first | rfl | (simp; done) | (simp [*]; done)), H', ⟨by have := HK1.out; first | omega | exact Nat.le_refl _⟩, ⟨bw0_ BK103⟩, ⟨hB HB⟩⟩
    rw [if_neg c13] at H
    have c13b0 : decide (((rd_T47 l1 x9_1).f1) ≤ ((rd_T47 l1 x9_1).f0)) = false := decide_eq_false c13
    clear c13
    (first | rw [c13b0] | (simp only [i64_w, i32_w]; rw [c13b0]) | skip)
    replace H := Option.bind_eq_some_iff.mp H
    obtain ⟨t106, A150, H⟩ := H
    replace H : (spec_GoodEdges.j1 k1 a0 l1 x9_1 l1 (l1.length : Int) x9_1 (!t106) ((rd_T47 l1 x9_1).f0) ((rd_T47 l1 x9_1).f1) ((rd_T47 l1 x9_1).f2)) = some r := H
    have A15 := Aside0.mk A150
    clear A150
    have H' := Aside0.mk H
    clear H
    obtain ⟨hcz16_0, hcz16_1, hcz16_2⟩ := bcs3_ BK103
    obtain ⟨hfz16_0, hfz16_1, hfz16_2⟩ := bz3_ BK103
    go_wp2_with (first | (go_at_call 96; (with_reducible refine (spec_l1In.calls ((rd_T47 l1 x9_1).f0) 0 (wrap64 (a0 - 1)) true _ A9.out).mono ?_); rintro e w' ⟨rfl, ⟨nd, rfl⟩⟩; (try first | exact ⟨rfl, _, World.drewN_drewN _ _ _⟩ | exact ⟨rfl, _, Eq.trans (World.drewN_drewN _ _ _) (congrArg (World.drewN _) (Nat.add_assoc _ _ _))⟩)) | (go_at_call 96; (with_reducible refine (spec_l1In.calls ((rd_T47 l1 x9_1).f1) 0 (wrap64 (a0 - 1)) true _ A11.out).mono ?_); rintro e w' ⟨rfl, ⟨nd, rfl⟩⟩; (try first | exact ⟨rfl, _, World.drewN_drewN _ _ _⟩ | exact ⟨rfl, _, Eq.trans (World.drewN_drewN _ _ _) (congrArg (World.drewN _) (Nat.add_assoc _ _ _))⟩)) | (go_at_call 96; (with_reducible refine (spec_l1In.calls ((rd_T47 l1 x9_1).f2) 1 100 t106 _ A15.out).mono ?_); rintro e w' ⟨rfl, ⟨nd, rfl⟩⟩; (try first | exact ⟨rfl, _, World.drewN_drewN _ _ _⟩ | exact ⟨rfl, _, Eq.trans (World.drewN_drewN _ _ _) (congrArg (World.drewN _) (Nat.add_assoc _ _ _))⟩)))
    repeat (go_quiet (first | (go_at_call 96; (with_reducible refine (spec_l1In.calls ((rd_T47 l1 x9_1).f0) 0 (wrap64 (a0 - 1)) true _ A9.out).mono ?_); rintro e w' ⟨rfl, ⟨nd, rfl⟩⟩; (try first | exact ⟨rfl, _, World.drewN_drewN _ _ _⟩ | exact ⟨rfl, _, Eq.trans (World.drewN_drewN _ _ _) (congrArg (World.drewN _) (Nat.add_assoc _ _ _))⟩)) | (go_at_call 96; (with_reducible refine (spec_l1In.calls ((rd_T47 l1 x9_1).f1) 0 (wrap64 (a0 - 1)) true _ A11.out).mono ?_); rintro e w' ⟨rfl, ⟨nd, rfl⟩⟩; (try first | exact ⟨rfl, _, World.drewN_drewN _ _ _⟩ | exact ⟨rfl, _, Eq.trans (World.drewN_drewN _ _ _) (congrArg (World.drewN _) (Nat.add_assoc _ _ _))⟩)) | (go_at_call 96; (with_reducible refine (spec_l1In.calls ((rd_T47 l1 x9_1).f2) 1 100 t106 _ A15.out).mono ?_); rintro e w' ⟨rfl, ⟨nd, rfl⟩⟩; (try first | exact ⟨rfl, _, World.drewN_drewN _ _ _⟩ | exact ⟨rfl, _, Eq.trans (World.drewN_drewN _ _ _) (congrArg (World.drewN _) (Nat.add_assoc _ _ _))⟩))); try go_wp2_with (first | (go_at_call 96; (with_reducible refine (spec_l1In.calls ((rd_T47 l1 x9_1).f0) 0 (wrap64 (a0 - 1)) true _ A9.out).mono ?_); rintro e w' ⟨rfl, ⟨nd, rfl⟩⟩; (try first | exact ⟨rfl, _, World.drewN_drewN _ _ _⟩ | exact ⟨rfl, _, Eq.trans (World.drewN_drewN _ _ _) (congrArg (World.drewN _) (Nat.add_assoc _ _ _))⟩)) | (go_at_call 96; (with_reducible refine (spec_l1In.calls ((rd_T47 l1 x9_1).f1) 0 (wrap64 (a0 - 1)) true _ A11.out).mono ?_); rintro e w' ⟨rfl, ⟨nd, rfl⟩⟩; (try first | exact ⟨rfl, _, World.drewN_drewN _ _ _⟩ | exact ⟨rfl, _, Eq.trans (World.drewN_drewN _ _ _) (congrArg (World.drewN _) (Nat.add_assoc _ _ _))⟩)) | (go_at_call 96; (with_reducible refine (spec_l1In.calls ((rd_T47 l1 x9_1).f2) 1 100 t106 _ A15.out).mono ?_); rintro e w' ⟨rfl, ⟨nd, rfl⟩⟩; (try first | exact ⟨rfl, _, World.drewN_drewN _ _ _⟩ | exact ⟨rfl, _, Eq.trans (World.drewN_drewN _ _ _) (congrArg (World.drewN _) (Nat.add_assoc _ _ _))⟩))))
    go_meet
    case rel => exact ⟨_, (!t106), (by first | rfl | (simp; done) | (simp [*]; done)), H', ⟨by have := HK1.out; first | omega | exact Nat.le_refl _⟩, ⟨bw0_ BK103⟩, ⟨hB HB⟩⟩
   case rest =>
    clear HC6
    try clear c1
    try clear c3
    try clear c3b0
    try clear c4
    try clear c4b0
    try clear c5
    try clear c5b0
    try clear hcz8_0
    try clear hcz8_1
    try clear hcz8_2
    try clear hfz8_0
    try clear hfz8_1
    try clear hfz8_2
    try clear hx102_0
    try clear hx102_1
    try clear hx102_2
    try clear p102
    try clear q102
    obtain ⟨kq, x40_5, rfl, HA, HJ5, BK103, HB⟩ := hcut
    cases kq with
    | zero => exact absurd HA.out (by simp [spec_GoodEdges.j1])
    | succ kj5 =>
     have H := HA.out
     clear HA
     simp only [spec_GoodEdges.j1] at H
     by_cases c19 : x40_5 = true
     ·subst c19
      rw [if_pos rfl] at H
      obtain rfl := Option.some.inj H
      go_wp2
      repeat (go_quiet (fail); try go_wp2)
      go_ret
      exact ⟨rt_, hB HB⟩
     replace c19 := Bool.eq_false_iff.mpr c19
     subst c19
     rw [if_neg (show ¬ (false = true) by decide)] at H
     by_cases c20 : x9_1 > 0
     rotate_left
     ·rw [if_neg c20] at H
      have c20b0 : decide (0 < x9_1) = false := decide_eq_false c20
      clear c20
      have H' := Aside0.mk H
      clear H
      go_wp2
      repeat (go_quiet (fail); try go_wp2)
      go_roundg kj5
      case measure => have := HK1.out; have := HJ5.out; omega
      case rel => exact ⟨(wrap64 (x9_1 + 1)), (by first | rfl | (simp; done) | (simp [*]; done)), H', ⟨by have := HK1.out; have := HJ5.out; omega⟩, ⟨hB HB⟩⟩
     rw [if_pos c20] at H
     have c20b0 : decide (0 < x9_1) = true := decide_eq_true c20
     clear c20
     obtain ⟨ji21, hji21⟩ : ∃ j_ : Int, (wrap64 (x9_1 - 1)) = j_ := ⟨_, rfl⟩
     replace H : (if 0 ≤ (ji21) then (if (ji21) < (l1.length : Int) then (if ((rd_T47 l1 (ji21)).f0) > ((rd_T47 l1 x9_1).f0) then (some false) else (if ((rd_T47 l1 (ji21)).f0) = ((rd_T47 l1 x9_1).f0) then (if ((rd_T47 l1 (ji21)).f1) ≥ ((rd_T47 l1 x9_1).f1) then (some false) else (spec_GoodEdges.l0 kj5 a0 l1 l1 (l1.length : Int) (wrap64 (x9_1 + 1)))) else (spec_GoodEdges.l0 kj5 a0 l1 l1 (l1.length : Int) (wrap64 (x9_1 + 1))))) else (none)) else (none)) = some r := by first | (rw [hji21] at H; exact H) | (simp only [hji21] at H ⊢; exact H)
     have hji21w : (IntKind.i64.wrap (x9_1 - 1)) = ji21 := (i64_w _).trans hji21
     by_cases c22 : 0 ≤ (ji21)
     rotate_left
     ·rw [if_neg c22] at H
      exact absurd H (by simp)
     rw [if_pos c22] at H
     have c22b0 : decide (0 ≤ (ji21)) = true := decide_eq_true c22
     clear c22
     by_cases c23 : (ji21) < (l1.length : Int)
     rotate_left
     ·rw [if_neg c23] at H
      exact absurd H (by simp)
     rw [if_pos c23] at H
     have c23b0 : decide ((ji21) < (l1.length : Int)) = true := decide_eq_true c23
     clear c23
     by_cases c24 : ((rd_T47 l1 (ji21)).f0) > ((rd_T47 l1 x9_1).f0)
     ·rw [if_pos c24] at H
      have c24b0 : decide (((rd_T47 l1 x9_1).f0) < ((rd_T47 l1 (ji21)).f0)) = true := decide_eq_true c24
      clear c24
      obtain rfl := Option.some.inj H
      have p107 : 0 ≤ ((ji21) : Int) := od_
      have q107 : (ji21) < (l1.length : Int) := od_
      obtain ⟨ad107, e107, hx107_0, hx107_1, hx107_2⟩ := at_T47 HR1.out (ji21) p107 q107
      obtain rfl : ad102 = ad107 := (by injection e107)
      replace hx107_0 := hc_ HB hx107_0
      replace hx107_1 := hc_ HB hx107_1
      replace hx107_2 := hc_ HB hx107_2
      replace p107 := eq_true p107
      replace q107 := eq_true q107
      obtain ⟨hcz25_0, hcz25_1, hcz25_2⟩ := bcs3_ BK103
      obtain ⟨hfz25_0, hfz25_1, hfz25_2⟩ := bz3_ BK103
      go_wp2
      repeat (go_quiet (fail); try go_wp2)
      go_ret
      exact ⟨by first | rfl | (simp [errW_none, errW_some] <;> rfl) | (simp only [← hji21]; first | rfl | (simp [errW_none, errW_some] <;> rfl)) | (simp [*, errW_none, errW_some] <;> rfl), hB HB⟩
     rw [if_neg c24] at H
     have c24b0 : decide (((rd_T47 l1 x9_1).f0) < ((rd_T47 l1 (ji21)).f0)) = false := decide_eq_false c24
     clear c24
     by_cases c26 : ((rd_T47 l1 (ji21)).f0) = ((rd_T47 l1 x9_1).f0)
     rotate_left
     ·rw [if_neg c26] at H
      have c26b0 : (((rd_T47 l1 (ji21)).f0) == ((rd_T47 l1 x9_1).f0)) = false := beq_eq_false_iff_ne.mpr c26
      have c26b1 : (((rd_T47 l1 (ji21)).f0) != ((rd_T47 l1 x9_1).f0)) = true := bne_iff_ne.mpr c26
      have H' := Aside0.mk H
      clear H
      have p107 : 0 ≤ ((ji21) : Int) := od_
      have q107 : (ji21) < (l1.length : Int) := od_
      obtain ⟨ad107, e107, hx107_0, hx107_1, hx107_2⟩ := at_T47 HR1.out (ji21) p107 q107
      obtain rfl : ad102 = ad107 := (by injection e107)
      replace hx107_0 := hc_ HB hx107_0
      replace hx107_1 := hc_ HB hx107_1
      replace hx107_2 := hc_ HB hx107_2
      replace p107 := eq_true p107
      replace q107 := eq_true q107
      obtain ⟨hcz30_0, hcz30_1, hcz30_2⟩ := bcs3_ BK103
      obtain ⟨hfz30_0, hfz30_1, hfz30_2⟩ := bz3_ BK103
      have p108 : 0 ≤ ((ji21) : Int) := od_
      have q108 : (ji21) < (l1.length : Int) := od_
      obtain ⟨ad108, e108, hx108_0, hx108_1, hx108_2⟩ := at_T47 HR1.out (ji21) p108 q108
      obtain rfl : ad102 = ad108 := (by injection e108)
      replace hx108_0 := hc_ HB hx108_0
      replace hx108_1 := hc_ HB hx108_1
      replace hx108_2 := hc_ HB hx108_2
      replace p108 := eq_true p108
      replace q108 := eq_true q108
      go_wp2
      repeat (go_quiet (fail); try go_wp2)
      go_roundg kj5
      case measure => have := HK1.out; have := HJ5.out; omega
      case rel => exact ⟨(wrap64 (x9_1 + 1)), (by first | rfl | (simp; done) | (simp [*]; done)), H', ⟨by have := HK1.out; have := HJ5.out; omega⟩, ⟨hB HB⟩⟩
     rw [if_pos c26] at H
     have c26b0 : (((rd_T47 l1 (ji21)).f0) == ((rd_T47 l1 x9_1).f0)) = true := beq_iff_eq.mpr c26
     have c26b1 : (((rd_T47 l1 (ji21)).f0) != ((rd_T47 l1 x9_1).f0)) = false := bne_eq_false_iff_eq.mpr c26
     clear c26
     by_cases c27 : ((rd_T47 l1 (ji21)).f1) ≥ ((rd_T47 l1 x9_1).f1)
     rotate_left
     ·rw [if_neg c27] at H
      have c27b0 : decide (((rd_T47 l1 x9_1).f1) ≤ ((rd_T47 l1 (ji21)).f1)) = false := decide_eq_false c27
      clear c27
      have H' := Aside0.mk H
      clear H
      have p107 : 0 ≤ ((ji21) : Int) := od_
      have q107 : (ji21) < (l1.length : Int) := od_
      obtain ⟨ad107, e107, hx107_0, hx107_1, hx107_2⟩ := at_T47 HR1.out (ji21) p107 q107
      obtain rfl : ad102 = ad107 := (by injection e107)
      replace hx107_0 := hc_ HB hx107_0
      replace hx107_1 := hc_ HB hx107_1
      replace hx107_2 := hc_ HB hx107_2
      replace p107 := eq_true p107
      replace q107 := eq_true q107
      obtain ⟨hcz29_0, hcz29_1, hcz29_2⟩ := bcs3_ BK103
      obtain ⟨hfz29_0, hfz29_1, hfz29_2⟩ := bz3_ BK103
      have p108 : 0 ≤ ((ji21) : Int) := od_
      have q108 : (ji21) < (l1.length : Int) := od_
      obtain ⟨ad108, e108, hx108_0, hx108_1, hx108_2⟩ := at_T47 HR1.out (ji21) p108 q108
      obtain rfl : ad102 = ad108 := (by injection e108)
      replace hx108_0 := hc_ HB hx108_0
      replace hx108_1 := hc_ HB hx108_1
      replace hx108_2 := hc_ HB hx108_2
      replace p108 := eq_true p108
      replace q108 := eq_true q108
      have p109 : 0 ≤ ((ji21) : Int) := od_
      have q109 : (ji21) < (l1.length : Int) := od_
      obtain ⟨ad109, e109, hx109_0, hx109_1, hx109_2⟩ := at_T47 HR1.out (ji21) p109 q109
      obtain rfl : ad102 = ad109 := (by injection e109)
      replace hx109_0 := hc_ HB hx109_0
      replace hx109_1 := hc_ HB hx109_1
      replace hx109_2 := hc_ HB hx109_2
      replace p109 := eq_true p109
      replace q109 := eq_true q109
      go_wp2
      repeat (go_quiet (fail); try go_wp2)
      go_roundg kj5
      case measure => have := HK1.out; have := HJ5.out; omega
      case rel => exact ⟨(wrap64 (x9_1 + 1)), (by first | rfl | (simp; done) | (simp [*]; done)), H', ⟨by have := HK1.out; have := HJ5.out; omega⟩, ⟨hB HB⟩⟩
     rw [if_pos c27] at H
     have c27b0 : decide (((rd_T47 l1 x9_1).f1) ≤ ((rd_T47 l1 (ji21)).f1)) = true := decide_eq_true c27
     clear c27
     obtain rfl := Option.some.inj H
     have p107 : 0 ≤ ((ji21) : Int) := od_
     have q107 : (ji21) < (l1.length : Int) := od_
     obtain ⟨ad107, e107, hx107_0, hx107_1, hx107_2⟩ := at_T47 HR1.out (ji21) p107 q107
     obtain rfl : ad102 = ad107 := (by injection e107)
     replace hx107_0 := hc_ HB hx107_0
     replace hx107_1 := hc_ HB hx107_1
     replace hx107_2 := hc_ HB hx107_2
     replace p107 := eq_true p107
     replace q107 := eq_true q107
     obtain ⟨hcz28_0, hcz28_1, hcz28_2⟩ := bcs3_ BK103
     obtain ⟨hfz28_0, hfz28_1, hfz28_2⟩ := bz3_ BK103
     have p108 : 0 ≤ ((ji21) : Int) := od_
     have q108 : (ji21) < (l1.length : Int) := od_
     obtain ⟨ad108, e108, hx108_0, hx108_1, hx108_2⟩ := at_T47 HR1.out (ji21) p108 q108
     obtain rfl : ad102 = ad108 := (by injection e108)
     replace hx108_0 := hc_ HB hx108_0
     replace hx108_1 := hc_ HB hx108_1
     replace hx108_2 := hc_ HB hx108_2
     replace p108 := eq_true p108
     replace q108 := eq_true q108
     have p109 : 0 ≤ ((ji21) : Int) := od_
     have q109 : (ji21) < (l1.length : Int) := od_
     obtain ⟨ad109, e109, hx109_0, hx109_1, hx109_2⟩ := at_T47 HR1.out (ji21) p109 q109
     obtain rfl : ad102 = ad109 := (by injection e109)
     replace hx109_0 := hc_ HB hx109_0
     replace hx109_1 := hc_ HB hx109_1
     replace hx109_2 := hc_ HB hx109_2
     replace p109 := eq_true p109
     replace q109 := eq_true q109
     go_wp2
     repeat (go_quiet (fail); try go_wp2)
     go_ret
     exact ⟨by first | rfl | (simp [errW_none, errW_some] <;> rfl) | (simp only [← hji21]; first | rfl | (simp [errW_none, errW_some] <;> rfl)) | (simp [*, errW_none, errW_some] <;> rfl), hB HB⟩

def spec_l15Number.l0 : Nat → Int → Int → List (S47) → Int → Int → Option (Int)
 | 0, _, _, _, _, _ => none
 | k + 1, x1, x2, x9, x10, x11 => if x11 < x10 then (if 0 ≤ x11 then (if x11 < (x9.length : Int) then (if ((rd_T47 x9 x11).f0) = x1 then (if ((rd_T47 x9 x11).f1) = x2 then (some x11) else (if ((rd_T47 x9 x11).f0) = x2 then (if ((rd_T47 x9 x11).f1) = x1 then (some x11) else (spec_l15Number.l0 k x1 x2 x9 x10 (wrap64 (x11 + 1)))) else (spec_l15Number.l0 k x1 x2 x9 x10 (wrap64 (x11 + 1))))) else (if ((rd_T47 x9 x11).f0) = x2 then (if ((rd_T47 x9 x11).f1) = x1 then (some x11) else (spec_l15Number.l0 k x1 x2 x9 x10 (wrap64 (x11 + 1)))) else (spec_l15Number.l0 k x1 x2 x9 x10 (wrap64 (x11 + 1))))) else (none)) else (none)) else (some (-1))
def spec_l15Number.f (k : Nat) (l0 : List (S47)) (a1 : Int) (a2 : Int) : Option (Int) := spec_l15Number.l0 k a1 a2 l0 (l0.length : Int) 0
theorem spec_l15Number.mono_l : ∀ k, (∀ y0 y1 y2 y3 y4, LeO (spec_l15Number.l0 k y0 y1 y2 y3 y4) (spec_l15Number.l0 (k + 1) y0 y1 y2 y3 y4))
 | 0 => fun _ _ _ _ _ r h => by simp [spec_l15Number.l0] at h
 | k + 1 => by
  have ih0 := spec_l15Number.mono_l k
  ·intro y0 y1 y2 y3 y4
   unfold spec_l15Number.l0
   repeat' first
   | (with_reducible exact ih0 _ _ _ _ _)
   | with_reducible first | exact LeO.refl _ | exact LeO.none _ | refine LeO.ite ?_ ?_ | refine LeO.bind ?_ fun _ => ?_
theorem spec_l15Number.mono : ∀ a0 a1 a2 k, LeO (spec_l15Number.f k a0 a1 a2) (spec_l15Number.f (k + 1) a0 a1 a2) := by
 intro a0 a1 a2 k
 have ih0 := spec_l15Number.mono_l k
 unfold spec_l15Number.f
 repeat' first
   | (with_reducible exact ih0 _ _ _ _ _)
   | with_reducible first | exact LeO.refl _ | exact LeO.none _ | refine LeO.ite ?_ ?_ | refine LeO.bind ?_ fun _ => ?_
set_option maxHeartbeats 8000000 in
set_option maxRecDepth 100000 in
theorem spec_l15Number.calls (k : Nat) (A0 : Option Addr) (c0 : Nat) (l0 : List (S47)) (a1 : Int) (a2 : Int) (r : Int) (w : World) (hr0 : Kd.C k47 w A0 l0.length l0) (hc0 : l0.length ≤ c0) (h : spec_l15Number.f k l0 a1 a2 = some r) :
  Calls Try.prog 90 #[.slice A0 l0.length c0, .int .i64 a1, .int .i64 a2] w fun e w' => e = .returned (.int .i64 r) ∧ Below w.heap.size w w' := by
 have hu47 := Try.underlying47
 have HR0 := Aside0.mk hr0
 have HC0 := Aside0.mk hc0
 clear hr0 hc0
 have HB := Aside0.mk (Below.refl w.heap.size w)
 have H : (spec_l15Number.l0 k a1 a2 l0 (l0.length : Int) 0) = some r := h
 clear h
 have H' := Aside0.mk H
 clear H
 go_enter Try.func90, Try.ntmps90
 go_wp2
 go_loopg [11] k (fun kq v11 w' => ∃ (x11_1 : Int), v11 = .int .i64 x11_1 ∧ Aside0 (spec_l15Number.l0 kq a1 a2 l0 (l0.length : Int) x11_1 = some r) ∧ Aside0 (kq ≤ k) ∧ Aside0 (Below w.heap.size w w'))
 case atStart => exact ⟨(0), (by first | rfl | (simp; done) | (simp [*]; done)), H', ⟨Nat.le_refl _⟩, ⟨hB HB⟩⟩
 case round =>
  clear H'
  obtain ⟨x11_1, rfl, HA, HK1, HB⟩ := hrel
  cases gk with
  | zero => exact absurd HA.out (by simp [spec_l15Number.l0])
  | succ k1 =>
   have H := HA.out
   clear HA
   simp only [spec_l15Number.l0] at H
   by_cases c4 : x11_1 < (l0.length : Int)
   rotate_left
   ·rw [if_neg c4] at H
    have c4b0 : decide (x11_1 < (l0.length : Int)) = false := decide_eq_false c4
    clear c4
    obtain rfl := Option.some.inj H
    go_wp2
    go_ret
    exact ⟨rt_, hB HB⟩
   rw [if_pos c4] at H
   have c4b0 : decide (x11_1 < (l0.length : Int)) = true := decide_eq_true c4
   clear c4
   by_cases c5 : 0 ≤ x11_1
   rotate_left
   ·rw [if_neg c5] at H
    exact absurd H (by simp)
   rw [if_pos c5] at H
   have c5b0 : decide (0 ≤ x11_1) = true := decide_eq_true c5
   clear c5
   by_cases c6 : x11_1 < (l0.length : Int)
   rotate_left
   ·rw [if_neg c6] at H
    exact absurd H (by simp)
   rw [if_pos c6] at H
   have c6b0 : decide (x11_1 < (l0.length : Int)) = true := decide_eq_true c6
   clear c6
   by_cases c7 : ((rd_T47 l0 x11_1).f0) = a1
   rotate_left
   ·rw [if_neg c7] at H
    have c7b0 : (((rd_T47 l0 x11_1).f0) == a1) = false := beq_eq_false_iff_ne.mpr c7
    have c7b1 : (((rd_T47 l0 x11_1).f0) != a1) = true := bne_iff_ne.mpr c7
    by_cases c19 : ((rd_T47 l0 x11_1).f0) = a2
    rotate_left
    ·rw [if_neg c19] at H
     have c19b0 : (((rd_T47 l0 x11_1).f0) == a2) = false := beq_eq_false_iff_ne.mpr c19
     have c19b1 : (((rd_T47 l0 x11_1).f0) != a2) = true := bne_iff_ne.mpr c19
     have H' := Aside0.mk H
     clear H
     have p167 : 0 ≤ (x11_1 : Int) := od_
     have q167 : x11_1 < (l0.length : Int) := od_
     obtain ⟨ad167, e167, hx167_0, hx167_1, hx167_2⟩ := at_T47 HR0.out x11_1 p167 q167
     cases e167
     replace hx167_0 := hc_ HB hx167_0
     replace hx167_1 := hc_ HB hx167_1
     replace hx167_2 := hc_ HB hx167_2
     replace p167 := eq_true p167
     replace q167 := eq_true q167
     go_wp2_with (first | ((with_reducible refine gate_dst (N := 8) rfl ?_); refine bx_ev 8 #[.int .i64 0, .int .i64 0, .int .i64 0] 47 ?_; intro gb168 hg w25 hbox hb; have BK168 := Aside0.mk (hbox); have GW168 := gw_ hg HB; have GE168 := gw_ hg HB; replace HB := bst_ HB hb; clear hb hbox hg; obtain ⟨hcz26_0, hcz26_1, hcz26_2⟩ := bcs3_ BK168; obtain ⟨hfz26_0, hfz26_1, hfz26_2⟩ := bz3_ BK168))
     go_roundg k1
     case measure => have := HK1.out; omega
     case rel => exact ⟨(wrap64 (x11_1 + 1)), (by first | rfl | (simp; done) | (simp [*]; done)), H', ⟨by have := HK1.out; omega⟩, ⟨hB HB⟩⟩
    rw [if_pos c19] at H
    have c19b0 : (((rd_T47 l0 x11_1).f0) == a2) = true := beq_iff_eq.mpr c19
    have c19b1 : (((rd_T47 l0 x11_1).f0) != a2) = false := bne_eq_false_iff_eq.mpr c19
    clear c19
    by_cases c20 : ((rd_T47 l0 x11_1).f1) = a1
    rotate_left
    ·rw [if_neg c20] at H
     have c20b0 : (((rd_T47 l0 x11_1).f1) == a1) = false := beq_eq_false_iff_ne.mpr c20
     have c20b1 : (((rd_T47 l0 x11_1).f1) != a1) = true := bne_iff_ne.mpr c20
     have H' := Aside0.mk H
     clear H
     have p167 : 0 ≤ (x11_1 : Int) := od_
     have q167 : x11_1 < (l0.length : Int) := od_
     obtain ⟨ad167, e167, hx167_0, hx167_1, hx167_2⟩ := at_T47 HR0.out x11_1 p167 q167
     cases e167
     replace hx167_0 := hc_ HB hx167_0
     replace hx167_1 := hc_ HB hx167_1
     replace hx167_2 := hc_ HB hx167_2
     replace p167 := eq_true p167
     replace q167 := eq_true q167
     go_wp2_with (first | ((with_reducible refine gate_dst (N := 8) rfl ?_); refine bx_ev 8 #[.int .i64 0, .int .i64 0, .int .i64 0] 47 ?_; intro gb168 hg w23 hbox hb; have BK168 := Aside0.mk (hbox); have GW168 := gw_ hg HB; have GE168 := gw_ hg HB; replace HB := bst_ HB hb; clear hb hbox hg; obtain ⟨hcz24_0, hcz24_1, hcz24_2⟩ := bcs3_ BK168; obtain ⟨hfz24_0, hfz24_1, hfz24_2⟩ := bz3_ BK168))
     go_roundg k1
     case measure => have := HK1.out; omega
     case rel => exact ⟨(wrap64 (x11_1 + 1)), (by first | rfl | (simp; done) | (simp [*]; done)), H', ⟨by have := HK1.out; omega⟩, ⟨hB HB⟩⟩
    rw [if_pos c20] at H
    have c20b0 : (((rd_T47 l0 x11_1).f1) == a1) = true := beq_iff_eq.mpr c20
    have c20b1 : (((rd_T47 l0 x11_1).f1) != a1) = false := bne_eq_false_iff_eq.mpr c20
    clear c20
    obtain rfl := Option.some.inj H
    have p167 : 0 ≤ (x11_1 : Int) := od_
    have q167 : x11_1 < (l0.length : Int) := od_
    obtain ⟨ad167, e167, hx167_0, hx167_1, hx167_2⟩ := at_T47 HR0.out x11_1 p167 q167
    cases e167
    replace hx167_0 := hc_ HB hx167_0
    replace hx167_1 := hc_ HB hx167_1
    replace hx167_2 := hc_ HB hx167_2
    replace p167 := eq_true p167
    replace q167 := eq_true q167
    go_wp2_with (first | ((with_reducible refine gate_dst (N := 8) rfl ?_); refine bx_ev 8 #[.int .i64 0, .int .i64 0, .int .i64 0] 47 ?_; intro gb168 hg w21 hbox hb; have BK168 := Aside0.mk (hbox); have GW168 := gw_ hg HB; have GE168 := gw_ hg HB; replace HB := bst_ HB hb; clear hb hbox hg; obtain ⟨hcz22_0, hcz22_1, hcz22_2⟩ := bcs3_ BK168; obtain ⟨hfz22_0, hfz22_1, hfz22_2⟩ := bz3_ BK168))
    go_ret
    exact ⟨rt_, hB HB⟩
   rw [if_pos c7] at H
   have c7b0 : (((rd_T47 l0 x11_1).f0) == a1) = true := beq_iff_eq.mpr c7
   have c7b1 : (((rd_T47 l0 x11_1).f0) != a1) = false := bne_eq_false_iff_eq.mpr c7
   clear c7
   by_cases c8 : ((rd_T47 l0 x11_1).f1) = a2
   ·rw [if_pos c8] at H
    have c8b0 : (((rd_T47 l0 x11_1).f1) == a2) = true := beq_iff_eq.mpr c8
    have c8b1 : (((rd_T47 l0 x11_1).f1) != a2) = false := bne_eq_false_iff_eq.mpr c8
    clear c8
    obtain rfl := Option.some.inj H
    have p167 : 0 ≤ (x11_1 : Int) := od_
    have q167 : x11_1 < (l0.length : Int) := od_
    obtain ⟨ad167, e167, hx167_0, hx167_1, hx167_2⟩ := at_T47 HR0.out x11_1 p167 q167
    cases e167
    replace hx167_0 := hc_ HB hx167_0
    replace hx167_1 := hc_ HB hx167_1
    replace hx167_2 := hc_ HB hx167_2
    replace p167 := eq_true p167
    replace q167 := eq_true q167
    go_wp2_with (first | ((with_reducible refine gate_dst (N := 8) rfl ?_); refine bx_ev 8 #[.int .i64 0, .int .i64 0, .int .i64 0] 47 ?_; intro gb168 hg w9 hbox hb; have BK168 := Aside0.mk (hbox); have GW168 := gw_ hg HB; have GE168 := gw_ hg HB; replace HB := bst_ HB hb; clear hb hbox hg; obtain ⟨hcz10_0, hcz10_1, hcz10_2⟩ := bcs3_ BK168; obtain ⟨hfz10_0, hfz10_1, hfz10_2⟩ := bz3_ BK168))
    go_ret
    exact ⟨rt_, hB HB⟩
   rw [if_neg c8] at H
   have c8b0 : (((rd_T47 l0 x11_1).f1) == a2) = false := beq_eq_false_iff_ne.mpr c8
   have c8b1 : (((rd_T47 l0 x11_1).f1) != a2) = true := bne_iff_ne.mpr c8
   by_cases c11 : ((rd_T47 l0 x11_1).f0) = a2
   rotate_left
   ·rw [if_neg c11] at H
    have c11b0 : (((rd_T47 l0 x11_1).f0) == a2) = false := beq_eq_false_iff_ne.mpr c11
    have c11b1 : (((rd_T47 l0 x11_1).f0) != a2) = true := bne_iff_ne.mpr c11
    have H' := Aside0.mk H
    clear H
    have p167 : 0 ≤ (x11_1 : Int) := od_
    have q167 : x11_1 < (l0.length : Int) := od_
    obtain ⟨ad167, e167, hx167_0, hx167_1, hx167_2⟩ := at_T47 HR0.out x11_1 p167 q167
    cases e167
    replace hx167_0 := hc_ HB hx167_0
    replace hx167_1 := hc_ HB hx167_1
    replace hx167_2 := hc_ HB hx167_2
    replace p167 := eq_true p167
    replace q167 := eq_true q167
    go_wp2_with (first | ((with_reducible refine gate_dst (N := 8) rfl ?_); refine bx_ev 8 #[.int .i64 0, .int .i64 0, .int .i64 0] 47 ?_; intro gb168 hg w17 hbox hb; have BK168 := Aside0.mk (hbox); have GW168 := gw_ hg HB; have GE168 := gw_ hg HB; replace HB := bst_ HB hb; clear hb hbox hg; obtain ⟨hcz18_0, hcz18_1, hcz18_2⟩ := bcs3_ BK168; obtain ⟨hfz18_0, hfz18_1, hfz18_2⟩ := bz3_ BK168))
    go_roundg k1
    case measure => have := HK1.out; omega
    case rel => exact ⟨(wrap64 (x11_1 + 1)), (by first | rfl | (simp; done) | (simp [*]; done)), H', ⟨by have := HK1.out; omega⟩, ⟨hB HB⟩⟩
   rw [if_pos c11] at H
   have c11b0 : (((rd_T47 l0 x11_1).f0) == a2) = true := beq_iff_eq.mpr c11
   have c11b1 : (((rd_T47 l0 x11_1).f0) != a2) = false := bne_eq_false_iff_eq.mpr c11
   clear c11
   by_cases c12 : ((rd_T47 l0 x11_1).f1) = a1
   rotate_left
   ·rw [if_neg c12] at H
    have c12b0 : (((rd_T47 l0 x11_1).f1) == a1) = false := beq_eq_false_iff_ne.mpr c12
    have c12b1 : (((rd_T47 l0 x11_1).f1) != a1) = true := bne_iff_ne.mpr c12
    have H' := Aside0.mk H
    clear H
    have p167 : 0 ≤ (x11_1 : Int) := od_
    have q167 : x11_1 < (l0.length : Int) := od_
    obtain ⟨ad167, e167, hx167_0, hx167_1, hx167_2⟩ := at_T47 HR0.out x11_1 p167 q167
    cases e167
    replace hx167_0 := hc_ HB hx167_0
    replace hx167_1 := hc_ HB hx167_1
    replace hx167_2 := hc_ HB hx167_2
    replace p167 := eq_true p167
    replace q167 := eq_true q167
    go_wp2_with (first | ((with_reducible refine gate_dst (N := 8) rfl ?_); refine bx_ev 8 #[.int .i64 0, .int .i64 0, .int .i64 0] 47 ?_; intro gb168 hg w15 hbox hb; have BK168 := Aside0.mk (hbox); have GW168 := gw_ hg HB; have GE168 := gw_ hg HB; replace HB := bst_ HB hb; clear hb hbox hg; obtain ⟨hcz16_0, hcz16_1, hcz16_2⟩ := bcs3_ BK168; obtain ⟨hfz16_0, hfz16_1, hfz16_2⟩ := bz3_ BK168))
    go_roundg k1
    case measure => have := HK1.out; omega
    case rel => exact ⟨(wrap64 (x11_1 + 1)), (by first | rfl | (simp; done) | (simp [*]; done)), H', ⟨by have := HK1.out; omega⟩, ⟨hB HB⟩⟩
   rw [if_pos c12] at H
   have c12b0 : (((rd_T47 l0 x11_1).f1) == a1) = true := beq_iff_eq.mpr c12
   have c12b1 : (((rd_T47 l0 x11_1).f1) != a1) = false := bne_eq_false_iff_eq.mpr c12
   clear c12
   obtain rfl := Option.some.inj H
   have p167 : 0 ≤ (x11_1 : Int) := od_
   have q167 : x11_1 < (l0.length : Int) := od_
   obtain ⟨ad167, e167, hx167_0, hx167_1, hx167_2⟩ := at_T47 HR0.out x11_1 p167 q167
   cases e167
   replace hx167_0 := hc_ HB hx167_0
   replace hx167_1 := hc_ HB hx167_1
   replace hx167_2 := hc_ HB hx167_2
   replace p167 := eq_true p167
   replace q167 := eq_true q167
   go_wp2_with (first | ((with_reducible refine gate_dst (N := 8) rfl ?_); refine bx_ev 8 #[.int .i64 0, .int .i64 0, .int .i64 0] 47 ?_; intro gb168 hg w13 hbox hb; have BK168 := Aside0.mk (hbox); have GW168 := gw_ hg HB; have GE168 := gw_ hg HB; replace HB := bst_ HB hb; clear hb hbox hg; obtain ⟨hcz14_0, hcz14_1, hcz14_2⟩ := bcs3_ BK168; obtain ⟨hfz14_0, hfz14_1, hfz14_2⟩ := bz3_ BK168))
   go_ret
   exact ⟨rt_, hB HB⟩

def impl_in.f (a0 : Int) (a1 : Int) (a2 : Int) : Option (Bool) := if a0 ≥ a1 then (some (decide (a0 ≤ a2))) else (some false)
set_option maxHeartbeats 8000000 in
set_option maxRecDepth 100000 in
theorem impl_in.calls (a0 : Int) (a1 : Int) (a2 : Int) (r : Bool) (w : World) (h : impl_in.f a0 a1 a2 = some r) :
  Calls Try.prog 99 #[.int .i64 a0, .int .i64 a1, .int .i64 a2] w fun e w' => e = .returned (.bool r) ∧ Drawn0 w w' := by
 have H : (if a0 ≥ a1 then (some (decide (a0 ≤ a2))) else (some false)) = some r := h
 clear h
 by_cases c4 : a0 ≥ a1
 ·rw [if_pos c4] at H
  have c4b0 : decide (a1 ≤ a0) = true := decide_eq_true c4
  clear c4
  obtain rfl := Option.some.inj H
  go_enter Try.func99, Try.ntmps99
  go_wp2
  go_ret
  exact ⟨by first | rfl | (simp; done) | (simp [*]; done), by repeat (first | exact Drawn0.refl _ | apply Drawn0.step)⟩
 rw [if_neg c4] at H
 have c4b0 : decide (a1 ≤ a0) = false := decide_eq_false c4
 clear c4
 obtain rfl := Option.some.inj H
 go_enter Try.func99, Try.ntmps99
 go_wp2
 go_ret
 exact ⟨by first | rfl | (simp; done) | (simp [*]; done), by repeat (first | exact Drawn0.refl _ | apply Drawn0.step)⟩

def impl_byEnds.f (a0_0 : Int) (a0_1 : Int) (a0_2 : Int) (a1_0 : Int) (a1_1 : Int) (a1_2 : Int) : Option (Int) := if a0_0 = a1_0 then (some (wrap64 (a0_1 - a1_1))) else (some (wrap64 (a0_0 - a1_0)))
set_option maxHeartbeats 8000000 in
set_option maxRecDepth 100000 in
theorem impl_byEnds.calls (a0_0 : Int) (a0_1 : Int) (a0_2 : Int) (a1_0 : Int) (a1_1 : Int) (a1_2 : Int) (r : Int) (w : World) (h : impl_byEnds.f a0_0 a0_1 a0_2 a1_0 a1_1 a1_2 = some r) :
  Calls Try.prog 110 #[.agg #[.int .i64 a0_0, .int .i64 a0_1, .int .i64 a0_2], .agg #[.int .i64 a1_0, .int .i64 a1_1, .int .i64 a1_2]] w fun e w' => e = .returned (.int .i64 r) ∧ Below w.heap.size w w' := by
 have hu47 := Try.underlying47
 have HB := Aside0.mk (Below.refl w.heap.size w)
 have H : (if a0_0 = a1_0 then (some (wrap64 (a0_1 - a1_1))) else (some (wrap64 (a0_0 - a1_0)))) = some r := h
 clear h
 by_cases c3 : a0_0 = a1_0
 ·rw [if_pos c3] at H
  have c3b0 : (a0_0 == a1_0) = true := beq_iff_eq.mpr c3
  have c3b1 : (a0_0 != a1_0) = false := bne_eq_false_iff_eq.mpr c3
  clear c3
  obtain rfl := Option.some.inj H
  go_enter Try.func110, Try.ntmps110
  go_wp2_with (first | ((with_reducible refine gate_dst (N := 2) rfl ?_); refine bx_ev 2 #[.int .i64 a0_0, .int .i64 a0_1, .int .i64 a0_2] 47 ?_; intro gb236 hg w4 hbox hb; have BK236 := Aside0.mk (hbox); have GW236 := gw_ hg HB; have GE236 := gw_ hg HB; replace HB := bst_ HB hb; clear hb hbox hg) | ((with_reducible refine gate_dst (N := 3) rfl ?_); refine bx_ev 3 #[.int .i64 a1_0, .int .i64 a1_1, .int .i64 a1_2] 47 ?_; intro gb237 hg w5 hbox hb; have BK237 := Aside0.mk (hbox); have GW237 := gw_ hg HB; have GE237 := gw_ hg HB; have NB236_237 := nl_ hg BK236; have NB237_236 := ng_ hg BK236; replace BK236 := bb_ BK236 hb; replace HB := bst_ HB hb; clear hb hbox hg; obtain ⟨hnb6, hnc6⟩ := nn_ NB236_237; obtain ⟨hcz7_0, hcz7_1, hcz7_2⟩ := bcs3_ BK236; obtain ⟨hcz8_0, hcz8_1, hcz8_2⟩ := bcs3_ BK237))
  go_ret
  exact ⟨rt_, hB HB⟩
 rw [if_neg c3] at H
 have c3b0 : (a0_0 == a1_0) = false := beq_eq_false_iff_ne.mpr c3
 have c3b1 : (a0_0 != a1_0) = true := bne_iff_ne.mpr c3
 obtain rfl := Option.some.inj H
 go_enter Try.func110, Try.ntmps110
 go_wp2_with (first | ((with_reducible refine gate_dst (N := 2) rfl ?_); refine bx_ev 2 #[.int .i64 a0_0, .int .i64 a0_1, .int .i64 a0_2] 47 ?_; intro gb236 hg w9 hbox hb; have BK236 := Aside0.mk (hbox); have GW236 := gw_ hg HB; have GE236 := gw_ hg HB; replace HB := bst_ HB hb; clear hb hbox hg) | ((with_reducible refine gate_dst (N := 3) rfl ?_); refine bx_ev 3 #[.int .i64 a1_0, .int .i64 a1_1, .int .i64 a1_2] 47 ?_; intro gb237 hg w10 hbox hb; have BK237 := Aside0.mk (hbox); have GW237 := gw_ hg HB; have GE237 := gw_ hg HB; have NB236_237 := nl_ hg BK236; have NB237_236 := ng_ hg BK236; replace BK236 := bb_ BK236 hb; replace HB := bst_ HB hb; clear hb hbox hg; obtain ⟨hnb11, hnc11⟩ := nn_ NB236_237; obtain ⟨hcz12_0, hcz12_1, hcz12_2⟩ := bcs3_ BK236; obtain ⟨hcz13_0, hcz13_1, hcz13_2⟩ := bcs3_ BK237))
 go_ret
 exact ⟨rt_, hB HB⟩

def impl_isSpots.f (a0 : Int) : Option (Bool) := (impl_in.f a0 1 12).bind fun t238 => (some t238)
set_option maxHeartbeats 8000000 in
set_option maxRecDepth 100000 in
theorem impl_isSpots.calls (a0 : Int) (r : Bool) (w : World) (h : impl_isSpots.f a0 = some r) :
  Calls Try.prog 111 #[.int .i64 a0] w fun e w' => e = .returned (.bool r) ∧ Drawn0 w w' := by
 have H : ((impl_in.f a0 1 12).bind fun t238 => (some t238)) = some r := h
 clear h
 replace H := Option.bind_eq_some_iff.mp H
 obtain ⟨t238, A20, H⟩ := H
 replace H : (some t238) = some r := H
 have A2 := Aside0.mk A20
 clear A20
 obtain rfl := Option.some.inj H
 go_enter Try.func111, Try.ntmps111
 go_wp2_with (first | ((with_reducible refine gate_dst (N := 4) rfl ?_); refine goesL_ (some 4) rfl rfl Try.func99 (by kernel_rfl) rfl #[.int .i64 a0, .int .i64 1, .int .i64 12] rfl tm_ ?_; (with_reducible refine (impl_in.calls a0 1 12 t238 _ A2.out).mono ?_); rintro e w' ⟨rfl, ⟨nd, rfl⟩⟩; refine ⟨_, rfl, ?_⟩))
 go_ret
 exact ⟨by first | rfl | (simp; done) | (simp [*]; done), by repeat (first | exact Drawn0.refl _ | apply Drawn0.step)⟩

end Go.Proofs.Ythambdfgkfkcmaa.P
