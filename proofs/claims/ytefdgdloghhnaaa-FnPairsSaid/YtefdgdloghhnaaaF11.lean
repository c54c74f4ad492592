import Derived.Test.YtefdgdloghhnaaaF0
import Derived.Test.YtefdgdloghhnaaaF6
import Derived.Test.YtefdgdloghhnaaaF10
namespace Go.Proofs.Ytefdgdloghhnaaa.P
open Go.RowKit Go.Proofs.YtefdgdloghhnaaaW.PrintWords Go.Proofs.YtefdgdloghhnaaaW.PrintLast Go.Proofs.YtefdgdloghhnaaaW.PrintMore
attribute [local go_sem] max2_int min2_int max_two min_two max_three min_three max_four min_four   -- for this text's walks alone
set_option linter.unusedVariables false
set_option linter.unusedSimpArgs false
attribute [local go_sem high] eqA36

mutual
def laws_samePair.j0 : Nat → Bool → List Int → List Int → List (S36) → List Int → List Int → List (S36) → Option (Bool)
 | 0, _, _, _, _, _, _, _ => none
 | k + 1, x28, x480000, x480001, x480002, x481000, x481001, x481002 => if x28 = true then (some false) else (laws_samePair.l0 k (x480002.length : Int) 0 x480000 x480001 x480002 x481000 x481001 x481002)
def laws_samePair.l0 : Nat → Int → Int → List Int → List Int → List (S36) → List Int → List Int → List (S36) → Option (Bool)
 | 0, _, _, _, _, _, _, _, _ => none
 | k + 1, x31, x32, x480000, x480001, x480002, x481000, x481001, x481002 => if x32 < x31 then (if 0 ≤ x32 then (if x32 < (x480002.length : Int) then (if x32 < (x481002.length : Int) then (if (!(((rd_T36 x480002 x32).f0) == ((rd_T36 x481002 x32).f0)) || (!(((rd_T36 x480002 x32).f1) == ((rd_T36 x481002 x32).f1)))) = true then (some false) else (laws_samePair.l0 k x31 (wrap64 (x32 + 1)) x480000 x480001 x480002 x481000 x481001 x481002)) else (none)) else (none)) else (none)) else (some true)
end
def laws_samePair.f (k : Nat) (l0_0 : List Int) (l0_1 : List Int) (l0_2 : List (S36)) (l1_0 : List Int) (l1_1 : List Int) (l1_2 : List (S36)) : Option (Bool) := (laws_sameInts.f k l0_0 l1_0).bind fun t481 => (if t481 = true then ((laws_sameInts.f k l0_1 l1_1).bind fun t482 => (if t482 = true then (laws_samePair.j0 k ((l0_2.length : Int) != (l1_2.length : Int)) l0_0 l0_1 l0_2 l1_0 l1_1 l1_2) else (laws_samePair.j0 k true l0_0 l0_1 l0_2 l1_0 l1_1 l1_2))) else (laws_samePair.j0 k true l0_0 l0_1 l0_2 l1_0 l1_1 l1_2))
theorem laws_samePair.mono_l : ∀ k, (∀ y0 y1 y2 y3 y4 y5 y6, LeO (laws_samePair.j0 k y0 y1 y2 y3 y4 y5 y6) (laws_samePair.j0 (k + 1) y0 y1 y2 y3 y4 y5 y6)) ∧ (∀ y0 y1 y2 y3 y4 y5 y6 y7, LeO (laws_samePair.l0 k y0 y1 y2 y3 y4 y5 y6 y7) (laws_samePair.l0 (k + 1) y0 y1 y2 y3 y4 y5 y6 y7))
 | 0 => ⟨fun _ _ _ _ _ _ _ r h => by simp [laws_samePair.j0] at h, fun _ _ _ _ _ _ _ _ r h => by simp [laws_samePair.l0] at h⟩
 | k + 1 => by
  obtain ⟨ih0, ih1⟩ := laws_samePair.mono_l k
  refine ⟨?_, ?_⟩
  ·intro y0 y1 y2 y3 y4 y5 y6
   unfold laws_samePair.j0
   repeat' first
   | (with_reducible exact ih0 _ _ _ _ _ _ _)
   | (with_reducible exact ih1 _ _ _ _ _ _ _ _)
   | (with_reducible exact laws_sameInts.mono _ _ _)
   | with_reducible first | exact LeO.refl _ | exact LeO.none _ | refine LeO.ite ?_ ?_ | refine LeO.bind ?_ fun _ => ?_
  ·intro y0 y1 y2 y3 y4 y5 y6 y7
   unfold laws_samePair.l0
   repeat' first
   | (with_reducible exact ih0 _ _ _ _ _ _ _)
   | (with_reducible exact ih1 _ _ _ _ _ _ _ _)
   | (with_reducible exact laws_sameInts.mono _ _ _)
   | with_reducible first | exact LeO.refl _ | exact LeO.none _ | refine LeO.ite ?_ ?_ | refine LeO.bind ?_ fun _ => ?_
theorem laws_samePair.mono : ∀ a0 a1 a2 a3 a4 a5 k, LeO (laws_samePair.f k a0 a1 a2 a3 a4 a5) (laws_samePair.f (k + 1) a0 a1 a2 a3 a4 a5) := by
 intro a0 a1 a2 a3 a4 a5 k
 obtain ⟨ih0, ih1⟩ := laws_samePair.mono_l k
 unfold laws_samePair.f
 repeat' first
   | (with_reducible exact ih0 _ _ _ _ _ _ _)
   | (with_reducible exact ih1 _ _ _ _ _ _ _ _)
   | (with_reducible exact laws_sameInts.mono _ _ _)
   | with_reducible first | exact LeO.refl _ | exact LeO.none _ | refine LeO.ite ?_ ?_ | refine LeO.bind ?_ fun _ => ?_
set_option maxHeartbeats 8000000 in
set_option maxRecDepth 100000 in
theorem laws_samePair.calls (k : Nat) (A0_0 : Option Addr) (c0_0 : Nat) (l0_0 : List Int) (A0_1 : Option Addr) (c0_1 : Nat) (l0_1 : List Int) (A0_2 : Option Addr) (c0_2 : Nat) (l0_2 : List (S36)) (A1_0 : Option Addr) (c1_0 : Nat) (l1_0 : List Int) (A1_1 : Option Addr) (c1_1 : Nat) (l1_1 : List Int) (A1_2 : Option Addr) (c1_2 : Nat) (l1_2 : List (S36)) (r : Bool) (w : World) (hr0_0 : Kd.C (Kd.int .i64) w A0_0 l0_0.length l0_0) (hc0_0 : l0_0.length ≤ c0_0) (hr0_1 : Kd.C (Kd.int .i64) w A0_1 l0_1.length l0_1) (hc0_1 : l0_1.length ≤ c0_1) (hr0_2 : Kd.C k36 w A0_2 l0_2.length l0_2) (hc0_2 : l0_2.length ≤ c0_2) (hr1_0 : Kd.C (Kd.int .i64) w A1_0 l1_0.length l1_0) (hc1_0 : l1_0.length ≤ c1_0) (hr1_1 : Kd.C (Kd.int .i64) w A1_1 l1_1.length l1_1) (hc1_1 : l1_1.length ≤ c1_1) (hr1_2 : Kd.C k36 w A1_2 l1_2.length l1_2) (hc1_2 : l1_2.length ≤ c1_2) (h : laws_samePair.f k l0_0 l0_1 l0_2 l1_0 l1_1 l1_2 = some r) :
  Calls Try.prog 7 #[.agg #[.slice A0_0 l0_0.length c0_0, .slice A0_1 l0_1.length c0_1, .slice A0_2 l0_2.length c0_2], .agg #[.slice A1_0 l1_0.length c1_0, .slice A1_1 l1_1.length c1_1, .slice A1_2 l1_2.length c1_2]] w fun e w' => e = .returned (.bool r) ∧ Below w.heap.size w w' := by
 have hu26 := Try.underlying26
 have hu36 := Try.underlying36
 have HR0_0 := Aside0.mk hr0_0
 have HC0_0 := Aside0.mk hc0_0
 clear hr0_0 hc0_0
 have HR0_1 := Aside0.mk hr0_1
 have HC0_1 := Aside0.mk hc0_1
 clear hr0_1 hc0_1
 have HR0_2 := Aside0.mk hr0_2
 have HC0_2 := Aside0.mk hc0_2
 clear hr0_2 hc0_2
 have HR1_0 := Aside0.mk hr1_0
 have HC1_0 := Aside0.mk hc1_0
 clear hr1_0 hc1_0
 have HR1_1 := Aside0.mk hr1_1
 have HC1_1 := Aside0.mk hc1_1
 clear hr1_1 hc1_1
 have HR1_2 := Aside0.mk hr1_2
 have HC1_2 := Aside0.mk hc1_2
 clear hr1_2 hc1_2
 have HB := Aside0.mk (Below.refl w.heap.size w)
 have H : ((laws_sameInts.f k l0_0 l1_0).bind fun t481 => (if t481 = true then ((laws_sameInts.f k l0_1 l1_1).bind fun t482 => (if t482 = true then (laws_samePair.j0 k ((l0_2.length : Int) != (l1_2.length : Int)) l0_0 l0_1 l0_2 l1_0 l1_1 l1_2) else (laws_samePair.j0 k true l0_0 l0_1 l0_2 l1_0 l1_1 l1_2))) else (laws_samePair.j0 k true l0_0 l0_1 l0_2 l1_0 l1_1 l1_2))) = some r := h
 clear h
 have HC3 := Aside0.mk H
 clear H
 go_enter Try.func7, Try.ntmps7
 go_upto_region 1 with (first | ((with_reducible refine gate_dst (N := 2) rfl ?_); (try (refine gate_guard (by rfl) ?_; dsimp only)); refine bx_ev 2 #[.slice A0_0 l0_0.length c0_0, .slice A0_1 l0_1.length c0_1, .slice A0_2 l0_2.length c0_2] 26 ?_; intro gb479 hg w4 hbox hb; have BK479 := Aside0.mk (hbox); have GW479 := gw_ hg HB; have GE479 := gw_ hg HB; replace HB := bst_ HB hb; clear hb hbox hg) | ((with_reducible refine gate_dst (N := 3) rfl ?_); (try (refine gate_guard (by rfl) ?_; dsimp only)); refine bx_ev 3 #[.slice A1_0 l1_0.length c1_0, .slice A1_1 l1_1.length c1_1, .slice A1_2 l1_2.length c1_2] 26 ?_; intro gb480 hg w5 hbox hb; have BK480 := Aside0.mk (hbox); have GW480 := gw_ hg HB; have GE480 := gw_ hg HB; have NB479_480 := nl_ hg BK479; have NB480_479 := ng_ hg BK479; replace BK479 := bb_ BK479 hb; replace HB := bst_ HB hb; clear hb hbox hg))
 repeat (go_quiet (first | ((with_reducible refine gate_dst (N := 2) rfl ?_); (try (refine gate_guard (by rfl) ?_; dsimp only)); refine bx_ev 2 #[.slice A0_0 l0_0.length c0_0, .slice A0_1 l0_1.length c0_1, .slice A0_2 l0_2.length c0_2] 26 ?_; intro gb479 hg w4 hbox hb; have BK479 := Aside0.mk (hbox); have GW479 := gw_ hg HB; have GE479 := gw_ hg HB; replace HB := bst_ HB hb; clear hb hbox hg) | ((with_reducible refine gate_dst (N := 3) rfl ?_); (try (refine gate_guard (by rfl) ?_; dsimp only)); refine bx_ev 3 #[.slice A1_0 l1_0.length c1_0, .slice A1_1 l1_1.length c1_1, .slice A1_2 l1_2.length c1_2] 26 ?_; intro gb480 hg w5 hbox hb; have BK480 := Aside0.mk (hbox); have GW480 := gw_ hg HB; have GE480 := gw_ hg HB; have NB479_480 := nl_ hg BK479; have NB480_479 := ng_ hg BK479; replace BK479 := bb_ BK479 hb; replace HB := bst_ HB hb; clear hb hbox hg)); go_upto_region 1 with (first | ((with_reducible refine gate_dst (N := 2) rfl ?_); (try (refine gate_guard (by rfl) ?_; dsimp only)); refine bx_ev 2 #[.slice A0_0 l0_0.length c0_0, .slice A0_1 l0_1.length c0_1, .slice A0_2 l0_2.length c0_2] 26 ?_; intro gb479 hg w4 hbox hb; have BK479 := Aside0.mk (hbox); have GW479 := gw_ hg HB; have GE479 := gw_ hg HB; replace HB := bst_ HB hb; clear hb hbox hg) | ((with_reducible refine gate_dst (N := 3) rfl ?_); (try (refine gate_guard (by rfl) ?_; dsimp only)); refine bx_ev 3 #[.slice A1_0 l1_0.length c1_0, .slice A1_1 l1_1.length c1_1, .slice A1_2 l1_2.length c1_2] 26 ?_; intro gb480 hg w5 hbox hb; have BK480 := Aside0.mk (hbox); have GW480 := gw_ hg HB; have GE480 := gw_ hg HB; have NB479_480 := nl_ hg BK479; have NB480_479 := ng_ hg BK479; replace BK479 := bb_ BK479 hb; replace HB := bst_ HB hb; clear hb hbox hg)))
 (try simp only [Act.put, List.setIfInBounds_toArray, List.set_cons_zero, List.set_cons_succ])
 go_cut [28] (fun v28 wc => ∃ (kq : Nat) (x28_2 : Bool), v28 = .bool x28_2 ∧ Aside0 (laws_samePair.j0 kq x28_2 l0_0 l0_1 l0_2 l1_0 l1_1 l1_2 = some r) ∧ Aside0 (kq ≤ k) ∧ Aside0 (wc.heap[gb479]? = some (.cells #[(.slice A0_0 l0_0.length c0_0), (.slice A0_1 l0_1.length c0_1), (.slice A0_2 l0_2.length c0_2)] 26 (0, 0))) ∧ Aside0 (wc.heap[gb480]? = some (.cells #[(.slice A1_0 l1_0.length c1_0), (.slice A1_1 l1_1.length c1_1), (.slice A1_2 l1_2.length c1_2)] 26 (0, 0))) ∧ Aside0 (Below w.heap.size w wc))
 case first =>
  have H := HC3.out
  clear HC3
  replace H := Option.bind_eq_some_iff.mp H
  obtain ⟨t481, A60, H⟩ := H
  replace H : (if t481 = true then ((laws_sameInts.f k l0_1 l1_1).bind fun t482 => (if t482 = true then (laws_samePair.j0 k ((l0_2.length : Int) != (l1_2.length : Int)) l0_0 l0_1 l0_2 l1_0 l1_1 l1_2) else (laws_samePair.j0 k true l0_0 l0_1 l0_2 l1_0 l1_1 l1_2))) else (laws_samePair.j0 k true l0_0 l0_1 l0_2 l1_0 l1_1 l1_2)) = some r := H
  have A6 := Aside0.mk A60
  clear A60
  by_cases c7 : t481 = true
  rotate_left
  ·replace c7 := Bool.eq_false_iff.mpr c7
   subst c7
   rw [if_neg (show ¬ (false = true) by decide)] at H
   have H' := Aside0.mk H
   clear H
   obtain ⟨hnb16, hnc16⟩ := nn_ NB479_480
   obtain ⟨hcz17_0, hcz17_1, hcz17_2⟩ := bcs3_ BK479
   obtain ⟨hfz17_0, hfz17_1, hfz17_2⟩ := bz3_ BK479
   obtain ⟨hcz18_0, hcz18_1, hcz18_2⟩ := bcs3_ BK480
   obtain ⟨hfz18_0, hfz18_1, hfz18_2⟩ := bz3_ BK480
   go_wp2_with (first | (go_at_call 26; (with_reducible refine (laws_sameInts.calls k _ _ l0_0 _ _ l1_0 false _ ?side1 ?side2 ?side3 ?side4 A6.out).mono ?_); (case side1 => exact cb_ HR0_0 HB); (case side2 => exact HC0_0.out); (case side3 => exact cb_ HR1_0 HB); (case side4 => exact HC1_0.out); rintro e w' ⟨rfl, ⟨nd, rfl⟩⟩; (try first | exact ⟨rfl, _, World.drewN_drewN _ _ _⟩ | exact ⟨rfl, _, Eq.trans (World.drewN_drewN _ _ _) (congrArg (World.drewN _) (Nat.add_assoc _ _ _))⟩)))
   repeat (go_quiet (first | (go_at_call 26; (with_reducible refine (laws_sameInts.calls k _ _ l0_0 _ _ l1_0 false _ ?side1 ?side2 ?side3 ?side4 A6.out).mono ?_); (case side1 => exact cb_ HR0_0 HB); (case side2 => exact HC0_0.out); (case side3 => exact cb_ HR1_0 HB); (case side4 => exact HC1_0.out); rintro e w' ⟨rfl, ⟨nd, rfl⟩⟩; (try first | exact ⟨rfl, _, World.drewN_drewN _ _ _⟩ | exact ⟨rfl, _, Eq.trans (World.drewN_drewN _ _ _) (congrArg (World.drewN _) (Nat.add_assoc _ _ _))⟩))); try go_wp2_with (first | (go_at_call 26; (with_reducible refine (laws_sameInts.calls k _ _ l0_0 _ _ l1_0 false _ ?side1 ?side2 ?side3 ?side4 A6.out).mono ?_); (case side1 => exact cb_ HR0_0 HB); (case side2 => exact HC0_0.out); (case side3 => exact cb_ HR1_0 HB); (case side4 => exact HC1_0.out); rintro e w' ⟨rfl, ⟨nd, rfl⟩⟩; (try first | exact ⟨rfl, _, World.drewN_drewN _ _ _⟩ | exact ⟨rfl, _, Eq.trans (World.drewN_drewN _ _ _) (congrArg (World.drewN _) (Nat.add_assoc _ _ _))⟩))))
   go_meet
   case rel => exact ⟨_, (true), (by first | rfl | (simp; done) | (simp [*]; done)), H', ⟨by first | omega | exact Nat.le_refl _⟩, ⟨bw0_ BK479⟩, ⟨bw0_ BK480⟩, ⟨hB HB⟩⟩
  subst c7
  rw [if_pos rfl] at H
  replace H := Option.bind_eq_some_iff.mp H
  obtain ⟨t482, A80, H⟩ := H
  replace H : (if t482 = true then (laws_samePair.j0 k ((l0_2.length : Int) != (l1_2.length : Int)) l0_0 l0_1 l0_2 l1_0 l1_1 l1_2) else (laws_samePair.j0 k true l0_0 l0_1 l0_2 l1_0 l1_1 l1_2)) = some r := H
  have A8 := Aside0.mk A80
  clear A80
  by_cases c9 : t482 = true
  rotate_left
  ·replace c9 := Bool.eq_false_iff.mpr c9
   subst c9
   rw [if_neg (show ¬ (false = true) by decide)] at H
   have H' := Aside0.mk H
   clear H
   obtain ⟨hnb13, hnc13⟩ := nn_ NB479_480
   obtain ⟨hcz14_0, hcz14_1, hcz14_2⟩ := bcs3_ BK479
   obtain ⟨hfz14_0, hfz14_1, hfz14_2⟩ := bz3_ BK479
   obtain ⟨hcz15_0, hcz15_1, hcz15_2⟩ := bcs3_ BK480
   obtain ⟨hfz15_0, hfz15_1, hfz15_2⟩ := bz3_ BK480
   go_wp2_with (first | (go_at_call 26; (with_reducible refine (laws_sameInts.calls k _ _ l0_0 _ _ l1_0 true _ ?side1 ?side2 ?side3 ?side4 A6.out).mono ?_); (case side1 => exact cb_ HR0_0 HB); (case side2 => exact HC0_0.out); (case side3 => exact cb_ HR1_0 HB); (case side4 => exact HC1_0.out); rintro e w' ⟨rfl, ⟨nd, rfl⟩⟩; (try first | exact ⟨rfl, _, World.drewN_drewN _ _ _⟩ | exact ⟨rfl, _, Eq.trans (World.drewN_drewN _ _ _) (congrArg (World.drewN _) (Nat.add_assoc _ _ _))⟩)) | (go_at_call 26; (with_reducible refine (laws_sameInts.calls k _ _ l0_1 _ _ l1_1 false _ ?side1 ?side2 ?side3 ?side4 A8.out).mono ?_); (case side1 => exact ca (Kd.C_below HR0_1.out (hB HB))); (case side2 => exact HC0_1.out); (case side3 => exact ca (Kd.C_below HR1_1.out (hB HB))); (case side4 => exact HC1_1.out); rintro e w' ⟨rfl, ⟨nd, rfl⟩⟩; (try first | exact ⟨rfl, _, World.drewN_drewN _ _ _⟩ | exact ⟨rfl, _, Eq.trans (World.drewN_drewN _ _ _) (congrArg (World.drewN _) (Nat.add_assoc _ _ _))⟩)))
   repeat (go_quiet (first | (go_at_call 26; (with_reducible refine (laws_sameInts.calls k _ _ l0_0 _ _ l1_0 true _ ?side1 ?side2 ?side3 ?side4 A6.out).mono ?_); (case side1 => exact cb_ HR0_0 HB); (case side2 => exact HC0_0.out); (case side3 => exact cb_ HR1_0 HB); (case side4 => exact HC1_0.out); rintro e w' ⟨rfl, ⟨nd, rfl⟩⟩; (try first | exact ⟨rfl, _, World.drewN_drewN _ _ _⟩ | exact ⟨rfl, _, Eq.trans (World.drewN_drewN _ _ _) (congrArg (World.drewN _) (Nat.add_assoc _ _ _))⟩)) | (go_at_call 26; (with_reducible refine (laws_sameInts.calls k _ _ l0_1 _ _ l1_1 false _ ?side1 ?side2 ?side3 ?side4 A8.out).mono ?_); (case side1 => exact ca (Kd.C_below HR0_1.out (hB HB))); (case side2 => exact HC0_1.out); (case side3 => exact ca (Kd.C_below HR1_1.out (hB HB))); (case side4 => exact HC1_1.out); rintro e w' ⟨rfl, ⟨nd, rfl⟩⟩; (try first | exact ⟨rfl, _, World.drewN_drewN _ _ _⟩ | exact ⟨rfl, _, Eq.trans (World.drewN_drewN _ _ _) (congrArg (World.drewN _) (Nat.add_assoc _ _ _))⟩))); try go_wp2_with (first | (go_at_call 26; (with_reducible refine (laws_sameInts.calls k _ _ l0_0 _ _ l1_0 true _ ?side1 ?side2 ?side3 ?side4 A6.out).mono ?_); (case side1 => exact cb_ HR0_0 HB); (case side2 => exact HC0_0.out); (case side3 => exact cb_ HR1_0 HB); (case side4 => exact HC1_0.out); rintro e w' ⟨rfl, ⟨nd, rfl⟩⟩; (try first | exact ⟨rfl, _, World.drewN_drewN _ _ _⟩ | exact ⟨rfl, _, Eq.trans (World.drewN_drewN _ _ _) (congrArg (World.drewN _) (Nat.add_assoc _ _ _))⟩)) | (go_at_call 26; (with_reducible refine (laws_sameInts.calls k _ _ l0_1 _ _ l1_1 false _ ?side1 ?side2 ?side3 ?side4 A8.out).mono ?_); (case side1 => exact ca (Kd.C_below HR0_1.out (hB HB))); (case side2 => exact HC0_1.out); (case side3 => exact ca (Kd.C_below HR1_1.out (hB HB))); (case side4 => exact HC1_1.out); rintro e w' ⟨rfl, ⟨nd, rfl⟩⟩; (try first | exact ⟨rfl, _, World.drewN_drewN _ _ _⟩ | exact ⟨rfl, _, Eq.trans (World.drewN_drewN _ _ _) (congrArg (World.drewN _) (Nat.add_assoc _ _ _))⟩))))
   go_meet
   case rel => exact ⟨_, (true), (by first | rfl | (simp; done) | (simp [*]; done)), H', ⟨by first | omega | exact Nat.le_refl _⟩, ⟨bw0_ BK479⟩, ⟨bw0_ BK480⟩, ⟨hB HB⟩⟩
  subst c9
  rw [if_pos rfl] at H
  have H' := Aside0.mk H
  clear H
  obtain ⟨hnb10, hnc10⟩ := nn_ NB479_480
  obtain ⟨hcz11_0, hcz11_1, hcz11_2⟩ := bcs3_ BK479
  obtain ⟨hfz11_0, hfz11_1, hfz11_2⟩ := bz3_ BK479
  obtain ⟨hcz12_0, hcz12_1, hcz12_2⟩ := bcs3_ BK480
  obtain ⟨hfz12_0, hfz12_1, hfz12_2⟩ := bz3_ BK480
  go_wp2_with (first | (go_at_call 26; (with_reducible refine (laws_sameInts.calls k _ _ l0_0 _ _ l1_0 true _ ?side1 ?side2 ?side3 ?side4 A6.out).mono ?_); (case side1 => exact cb_ HR0_0 HB); (case side2 => exact HC0_0.out); (case side3 => exact cb_ HR1_0 HB); (case side4 => exact HC1_0.out); rintro e w' ⟨rfl, ⟨nd, rfl⟩⟩; (try first | exact ⟨rfl, _, World.drewN_drewN _ _ _⟩ | exact ⟨rfl, _, Eq.trans (World.drewN_drewN _ _ _) (congrArg (World.drewN _) (Nat.add_assoc _ _ _))⟩)) | (go_at_call 26; (with_reducible refine (laws_sameInts.calls k _ _ l0_1 _ _ l1_1 true _ ?side1 ?side2 ?side3 ?side4 A8.out).mono ?_); (case side1 => exact ca (Kd.C_below HR0_1.out (hB HB))); (case side2 => exact HC0_1.out); (case side3 => exact ca (Kd.C_below HR1_1.out (hB HB))); (case side4 => exact HC1_1.out); rintro e w' ⟨rfl, ⟨nd, rfl⟩⟩; (try first | exact ⟨rfl, _, World.drewN_drewN _ _ _⟩ | exact ⟨rfl, _, Eq.trans (World.drewN_drewN _ _ _) (congrArg (World.drewN _) (Nat.add_assoc _ _ _))⟩)))
  repeat (go_quiet (first | (go_at_call 26; (with_reducible refine (laws_sameInts.calls k _ _ l0_0 _ _ l1_0 true _ ?side1 ?side2 ?side3 ?side4 A6.out).mono ?_); (case side1 => exact cb_ HR0_0 HB); (case side2 => exact HC0_0.out); (case side3 => exact cb_ HR1_0 HB); (case side4 => exact HC1_0.out); rintro e w' ⟨rfl, ⟨nd, rfl⟩⟩; (try first | exact ⟨rfl, _, World.drewN_drewN _ _ _⟩ | exact ⟨rfl, _, Eq.trans (World.drewN_drewN _ _ _) (congrArg (World.drewN _) (Nat.add_assoc _ _ _))⟩)) | (go_at_call 26; (with_reducible refine (laws_sameInts.calls k _ _ l0_1 _ _ l1_1 true _ ?side1 ?side2 ?side3 ?side4 A8.out).mono ?_); (case side1 => exact ca (Kd.C_below HR0_1.out (hB HB))); (case side2 => exact HC0_1.out); (case side3 => exact ca (Kd.C_below HR1_1.out (hB HB))); (case side4 => exact HC1_1.out); rintro e w' ⟨rfl, ⟨nd, rfl⟩⟩; (try first | exact ⟨rfl, _, World.drewN_drewN _ _ _⟩ | exact ⟨rfl, _, Eq.trans (World.drewN_drewN _ _ _) (congrArg (World.drewN _) (Nat.add_assoc _ _ _))⟩))); try go_wp2_with (first | (go_at_call 26; (with_reducible refine (laws_sameInts.calls k _ _ l0_0 _ _ l1_0 true _ ?side1 ?side2 ?side3 ?side4 A6.out).mono ?_); (case side1 => exact cb_ HR0_0 HB); (case side2 => exact HC0_0.out); (case side3 => exact cb_ HR1_0 HB); (case side4 => exact HC1_0.out); rintro e w' ⟨rfl, ⟨nd, rfl⟩⟩; (try first | exact ⟨rfl, _, World.drewN_drewN _ _ _⟩ | exact ⟨rfl, _, Eq.trans (World.drewN_drewN _ _ _) (congrArg (World.drewN _) (Nat.add_assoc _ _ _))⟩)) | (go_at_call 26; (with_reducible refine (laws_sameInts.calls k _ _ l0_1 _ _ l1_1 true _ ?side1 ?side2 ?side3 ?side4 A8.out).mono ?_); (case side1 => exact ca (Kd.C_below HR0_1.out (hB HB))); (case side2 => exact HC0_1.out); (case side3 => exact ca (Kd.C_below HR1_1.out (hB HB))); (case side4 => exact HC1_1.out); rintro e w' ⟨rfl, ⟨nd, rfl⟩⟩; (try first | exact ⟨rfl, _, World.drewN_drewN _ _ _⟩ | exact ⟨rfl, _, Eq.trans (World.drewN_drewN _ _ _) (congrArg (World.drewN _) (Nat.add_assoc _ _ _))⟩))))
  go_meet
  case rel => exact ⟨_, (((l0_2.length : Int) != (l1_2.length : Int))), (by first | rfl | (simp; done) | (simp [*]; done)), H', ⟨by first | omega | exact Nat.le_refl _⟩, ⟨bw0_ BK479⟩, ⟨bw0_ BK480⟩, ⟨hB HB⟩⟩
 case rest =>
  clear HC3
  obtain ⟨kq, x28_2, rfl, HA, HJ2, BK479, BK480, HB⟩ := hcut
  cases kq with
  | zero => exact absurd HA.out (by simp [laws_samePair.j0])
  | succ kj2 =>
   have H := HA.out
   clear HA
   simp only [laws_samePair.j0] at H
   by_cases c19 : x28_2 = true
   ·subst c19
    rw [if_pos rfl] at H
    obtain rfl := Option.some.inj H
    go_wp2
    repeat (go_quiet (fail); try go_wp2)
    go_ret
    exact ⟨rt_, hB HB⟩
   replace c19 := Bool.eq_false_iff.mpr c19
   subst c19
   rw [if_neg (show ¬ (false = true) by decide)] at H
   have H' := Aside0.mk H
   clear H
   obtain ⟨hnb20, hnc20⟩ := nn_ NB479_480
   obtain ⟨hcz21_0, hcz21_1, hcz21_2⟩ := bcs3_ BK479
   obtain ⟨hfz21_0, hfz21_1, hfz21_2⟩ := bz3_ BK479
   go_wp2
   repeat (go_quiet (fail); try go_wp2)
   go_loopg [32] kj2 (fun kq v32 w' => ∃ (x32_2 : Int), v32 = .int .i64 x32_2 ∧ Aside0 (laws_samePair.l0 kq (l0_2.length : Int) x32_2 l0_0 l0_1 l0_2 l1_0 l1_1 l1_2 = some r) ∧ Aside0 (kq ≤ kj2) ∧ Aside0 (w'.heap[gb479]? = some (.cells #[(.slice A0_0 l0_0.length c0_0), (.slice A0_1 l0_1.length c0_1), (.slice A0_2 l0_2.length c0_2)] 26 (0, 0))) ∧ Aside0 (w'.heap[gb480]? = some (.cells #[(.slice A1_0 l1_0.length c1_0), (.slice A1_1 l1_1.length c1_1), (.slice A1_2 l1_2.length c1_2)] 26 (0, 0))) ∧ Aside0 (Below w.heap.size w w'))
   case atStart => exact ⟨(0), (by first | rfl | (simp; done) | (simp [*]; done)), H', ⟨Nat.le_refl _⟩, ⟨bw0_ BK479⟩, ⟨bw0_ BK480⟩, ⟨hB HB⟩⟩
   case round =>
    clear H'
    try clear c19
    try clear hcz21_0
    try clear hcz21_1
    try clear hcz21_2
    try clear hfz21_0
    try clear hfz21_1
    try clear hfz21_2
    obtain ⟨x32_2, rfl, HA, HK2, BK479, BK480, HB⟩ := hrel
    cases gk with
    | zero => exact absurd HA.out (by simp [laws_samePair.l0])
    | succ k2 =>
     have H := HA.out
     clear HA
     simp only [laws_samePair.l0] at H
     by_cases c22 : x32_2 < (l0_2.length : Int)
     rotate_left
     ·rw [if_neg c22] at H
      have c22b0 : decide (x32_2 < (l0_2.length : Int)) = false := decide_eq_false c22
      clear c22
      obtain rfl := Option.some.inj H
      go_wp2
      repeat (go_quiet (fail); try go_wp2)
      go_ret
      exact ⟨rt_, hB HB⟩
     rw [if_pos c22] at H
     have c22b0 : decide (x32_2 < (l0_2.length : Int)) = true := decide_eq_true c22
     clear c22
     by_cases c23 : 0 ≤ x32_2
     rotate_left
     ·rw [if_neg c23] at H
      exact absurd H (by simp)
     rw [if_pos c23] at H
     have c23b0 : decide (0 ≤ x32_2) = true := decide_eq_true c23
     clear c23
     by_cases c24 : x32_2 < (l0_2.length : Int)
     rotate_left
     ·rw [if_neg c24] at H
      exact absurd H (by simp)
     rw [if_pos c24] at H
     have c24b0 : decide (x32_2 < (l0_2.length : Int)) = true := decide_eq_true c24
     clear c24
     by_cases c25 : x32_2 < (l1_2.length : Int)
     rotate_left
     ·rw [if_neg c25] at H
      exact absurd H (by simp)
     rw [if_pos c25] at H
     have c25b0 : decide (x32_2 < (l1_2.length : Int)) = true := decide_eq_true c25
     clear c25
     by_cases c26 : (!(((rd_T36 l0_2 x32_2).f0) == ((rd_T36 l1_2 x32_2).f0)) || (!(((rd_T36 l0_2 x32_2).f1) == ((rd_T36 l1_2 x32_2).f1)))) = true
     ·rw [if_pos c26] at H
      have c26b0 : (!(((rd_T36 l0_2 x32_2).f0) == ((rd_T36 l1_2 x32_2).f0)) || (!(((rd_T36 l0_2 x32_2).f1) == ((rd_T36 l1_2 x32_2).f1)))) = true := c26
      clear c26
      obtain rfl := Option.some.inj H
      obtain ⟨hnb27, hnc27⟩ := nn_ NB479_480
      obtain ⟨hcz28_0, hcz28_1, hcz28_2⟩ := bcs3_ BK479
      obtain ⟨hfz28_0, hfz28_1, hfz28_2⟩ := bz3_ BK479
      have p483 : 0 ≤ (x32_2 : Int) := od_
      have q483 : x32_2 < (l0_2.length : Int) := od_
      obtain ⟨ad483, e483, hx483_0, hx483_1⟩ := at_T36 HR0_2.out x32_2 p483 q483
      cases e483
      replace hx483_0 := hc_ HB hx483_0
      replace hx483_1 := hc_ HB hx483_1
      replace p483 := eq_true p483
      replace q483 := eq_true q483
      obtain ⟨hcz29_0, hcz29_1, hcz29_2⟩ := bcs3_ BK480
      obtain ⟨hfz29_0, hfz29_1, hfz29_2⟩ := bz3_ BK480
      have p484 : 0 ≤ (x32_2 : Int) := od_
      have q484 : x32_2 < (l1_2.length : Int) := od_
      obtain ⟨ad484, e484, hx484_0, hx484_1⟩ := at_T36 HR1_2.out x32_2 p484 q484
      cases e484
      replace hx484_0 := hc_ HB hx484_0
      replace hx484_1 := hc_ HB hx484_1
      replace p484 := eq_true p484
      replace q484 := eq_true q484
      go_wp2
      repeat (go_quiet (fail); try go_wp2)
      go_ret
      exact ⟨rt_, hB HB⟩
     rw [if_neg c26] at H
     have c26b0 : (!(((rd_T36 l0_2 x32_2).f0) == ((rd_T36 l1_2 x32_2).f0)) || (!(((rd_T36 l0_2 x32_2).f1) == ((rd_T36 l1_2 x32_2).f1)))) = false := by simpa using c26
     clear c26
     have H' := Aside0.mk H
     clear H
     obtain ⟨hnb30, hnc30⟩ := nn_ NB479_480
     obtain ⟨hcz31_0, hcz31_1, hcz31_2⟩ := bcs3_ BK479
     obtain ⟨hfz31_0, hfz31_1, hfz31_2⟩ := bz3_ BK479
     have p483 : 0 ≤ (x32_2 : Int) := od_
     have q483 : x32_2 < (l0_2.length : Int) := od_
     obtain ⟨ad483, e483, hx483_0, hx483_1⟩ := at_T36 HR0_2.out x32_2 p483 q483
     cases e483
     replace hx483_0 := hc_ HB hx483_0
     replace hx483_1 := hc_ HB hx483_1
     replace p483 := eq_true p483
     replace q483 := eq_true q483
     obtain ⟨hcz32_0, hcz32_1, hcz32_2⟩ := bcs3_ BK480
     obtain ⟨hfz32_0, hfz32_1, hfz32_2⟩ := bz3_ BK480
     have p484 : 0 ≤ (x32_2 : Int) := od_
     have q484 : x32_2 < (l1_2.length : Int) := od_
     obtain ⟨ad484, e484, hx484_0, hx484_1⟩ := at_T36 HR1_2.out x32_2 p484 q484
     cases e484
     replace hx484_0 := hc_ HB hx484_0
     replace hx484_1 := hc_ HB hx484_1
     replace p484 := eq_true p484
     replace q484 := eq_true q484
     go_wp2
     repeat (go_quiet (fail); try go_wp2)
     go_roundg k2
     case measure => have := HJ2.out; have := HK2.out; omega
     case rel => exact ⟨(wrap64 (x32_2 + 1)), (by first | rfl | (simp; done) | (simp [*]; done)), H', ⟨by have := HJ2.out; have := HK2.out; omega⟩, ⟨bw0_ BK479⟩, ⟨bw0_ BK480⟩, ⟨hB HB⟩⟩

def spec_DrawGoodPair.f (k : Nat) (l0 : List Int) : Option (List Int × List Int × (List (S36))) := (slices_xorshift_Next.f l0).bind fun bt486 => ((spec_l1Cur_pair.f k bt486.1 bt486.2.1 bt486.2.2).bind fun bt490 => (some (bt490.1, bt490.2.1, bt490.2.2.1)))
theorem spec_DrawGoodPair.mono : ∀ a0 k, LeO (spec_DrawGoodPair.f k a0) (spec_DrawGoodPair.f (k + 1) a0) := by
 intro a0 k
 unfold spec_DrawGoodPair.f
 repeat' first
   | (with_reducible exact spec_l1Cur_pair.mono _ _ _ _)
   | with_reducible first | exact LeO.refl _ | exact LeO.none _ | refine LeO.ite ?_ ?_ | refine LeO.bind ?_ fun _ => ?_
set_option maxHeartbeats 8000000 in
set_option maxRecDepth 100000 in
theorem spec_DrawGoodPair.calls (k : Nat) (A0 : Option Addr) (c0 : Nat) (l0 : List Int) (r1 : List Int) (r2 : List Int) (r3 : List (S36)) (w : World) (hr0 : Kd.C (Kd.int .u8) w A0 l0.length l0) (hc0 : l0.length ≤ c0) (h : spec_DrawGoodPair.f k l0 = some (r1, r2, r3)) :
  Calls Try.prog 30 #[.slice A0 l0.length c0] w fun e w' => ∃ v0_ v1_ v2_ : Value, e = .returned (.agg #[v0_, v1_, v2_]) ∧ Kd.R (Kd.int .i64) 3 w' w.heap.size (fun k_ => no_ v1_ k_) v0_ r1 ∧ Kd.R (Kd.int .i64) 3 w' w.heap.size (fun k_ => no_ v0_ k_) v1_ r2 ∧ Kd.R k36 36 w' w.heap.size (fun _ => True) v2_ r3 ∧ Below w.heap.size w w' := by
 have hu26 := Try.underlying26
 have HR0 := Aside0.mk hr0
 have HC0 := Aside0.mk hc0
 clear hr0 hc0
 have HB := Aside0.mk (Below.refl w.heap.size w)
 have H : ((slices_xorshift_Next.f l0).bind fun bt486 => ((spec_l1Cur_pair.f k bt486.1 bt486.2.1 bt486.2.2).bind fun bt490 => (some (bt490.1, bt490.2.1, bt490.2.2.1)))) = some (r1, r2, r3) := h
 clear h
 replace H := Option.bind_eq_some_iff.mp H
 obtain ⟨⟨t486, t487, t488⟩, A20, H⟩ := H
 replace H : ((spec_l1Cur_pair.f k t486 t487 t488).bind fun bt490 => (some (bt490.1, bt490.2.1, bt490.2.2.1))) = some (r1, r2, r3) := H
 have DE_A2 : Aside0 (t486 = l0 ∧ t487 = 0 ∧ t488 = 0) := ⟨by have h_ := A20; simp only [slices_xorshift_Next.f, Option.some.injEq, Prod.mk.injEq] at h_; exact ⟨h_.1.symm, h_.2.1.symm, h_.2.2.symm⟩⟩
 have A2 := Aside0.mk A20
 clear A20
 replace H := Option.bind_eq_some_iff.mp H
 obtain ⟨⟨t490, t493, t496, t499, t500⟩, A30, H⟩ := H
 replace H : (some (t490, t493, t496)) = some (r1, r2, r3) := H
 have A3 := Aside0.mk A30
 clear A30
 simp only [Option.some.injEq, Prod.mk.injEq] at H
 obtain ⟨rfl, rfl, rfl⟩ := H
 go_enter Try.func30, Try.ntmps30
 go_wp2_with (first | ((with_reducible refine gate_dst (N := 2) rfl ?_); refine bx_ev 2 #[.slice none 0 0, .slice none 0 0, .slice none 0 0] 26 ?_; intro gb485 hg w4 hbox hb; have BK485 := Aside0.mk (hbox); have GW485 := gw_ hg HB; have GE485 := gw_ hg HB; replace HB := bst_ HB hb; clear hb hbox hg) | ((with_reducible refine gate_dst (N := 6) rfl ?_); refine bx_ev 6 #[.slice A0 l0.length c0, .int .i64 0, .int .u64 0] 47 ?_; intro g489 hg w5 hbox hb2; have hi : IsS47 w w5 g489 t486 t487 t488 := (by rw [DE_A2.out.1, DE_A2.out.2.1, DE_A2.out.2.2]; exact ⟨_, _, hbox, (gw_ hg HB).out, HR0.out⟩); have hb := (bst_ HB hb2).out; clear hg hbox; have HI489 := Aside0.mk (hi); have NB489_485 := Aside0.mk (IsS47.ne_blk hi (blk_below (g := gb485) (o := .cells #[.slice none 0 0, .slice none 0 0, .slice none 0 0] 26 (0, 0)) (ba BK485.out) hb2) (by decide)); have NB485_489 := Aside0.mk (Ne.symm (IsS47.ne_blk hi (blk_below (g := gb485) (o := .cells #[.slice none 0 0, .slice none 0 0, .slice none 0 0] 26 (0, 0)) (ba BK485.out) hb2) (by decide))); replace BK485 := Aside0.mk (blk_below (g := gb485) (o := .cells #[.slice none 0 0, .slice none 0 0, .slice none 0 0] 26 (0, 0)) (ba BK485.out) hb2); replace HB := Aside0.mk (hb); clear hb hb2 hi) | ((with_reducible refine gate_dst (N := 8) rfl ?_); refine goesL_ (some 8) rfl rfl Try.func18 (by kernel_rfl) rfl #[.pointer (some ⟨g489, 0, none⟩)] rfl tm_ ?_; (with_reducible refine (spec_l1Cur_pair.calls k g489 t486 t487 t488 t490 t493 t496 t499 t500 w _ ?side1 ?side2 A3.out).mono ?_); (case side1 => repeat (first | (with_reducible first | exact HI489.out | apply IsS47.alloc | apply IsS47.drewN | apply IsS47.drew | apply IsS47.set_1 | apply IsS47.set_2 | refine IsS47.far ?_ NB489_485.out _) | exact HI489.out)); (case side2 => repeat (first | (with_reducible first | exact HB.out | apply below_alloc | apply pw_below_drewN | apply below_drew1 | refine below_set ?_ (IsS47.ge HI489.out) | refine below_set ?_ GE485.out) | exact HB.out)); rintro e w6 ⟨v491, v494, v497, rfl, ho0, ho1, ho2, hi, hb, hk⟩; refine ⟨_, rfl, ?_⟩; have HO492 := Aside0.mk (Kd.R_lower ho0 (below_size (by repeat (first | (with_reducible first | exact HB.out | apply below_alloc | apply pw_below_drewN | apply below_drew1 | refine below_set ?_ (IsS47.ge HI489.out) | refine below_set ?_ GE485.out) | exact HB.out)))); have HO495 := Aside0.mk (Kd.R_lower ho1 (below_size (by repeat (first | (with_reducible first | exact HB.out | apply below_alloc | apply pw_below_drewN | apply below_drew1 | refine below_set ?_ (IsS47.ge HI489.out) | refine below_set ?_ GE485.out) | exact HB.out)))); have HO498 := Aside0.mk (Kd.R_lower ho2 (below_size (by repeat (first | (with_reducible first | exact HB.out | apply below_alloc | apply pw_below_drewN | apply below_drew1 | refine below_set ?_ (IsS47.ge HI489.out) | refine below_set ?_ GE485.out) | exact HB.out)))); replace BK485 := Aside0.mk (KeepBut.blk hk (g' := gb485) (o := .cells #[.slice none 0 0, .slice none 0 0, .slice none 0 0] 26 (0, 0)) (ba BK485.out) NB485_489.out (by simp)); replace HB := Aside0.mk (hb); replace HI489 := Aside0.mk (hi); clear hb hk hi ho0 ho1 ho2; obtain ⟨Ao7, co7, eo7⟩ := Kd.R_slice HO492.out; subst eo7; obtain ⟨hnb8, hnc8⟩ := nn_ NB485_489; obtain ⟨hcz9_0, hcz9_1, hcz9_2⟩ := bcs3_ BK485; obtain ⟨hfz9_0, hfz9_1, hfz9_2⟩ := bz3_ BK485; obtain ⟨Ao10, co10, eo10⟩ := Kd.R_slice HO495.out; subst eo10; obtain ⟨Ao11, co11, eo11⟩ := Kd.R_slice HO498.out; subst eo11))
 refine bodyPost_ret (results_cell_row rfl _ _ gb485 26 #[.slice Ao7 t490.length co7, .slice Ao10 t493.length co10, .slice Ao11 t496.length co11] (0, 0) _ rfl (bw0_ BK485) Try.underlying26 rfl (by kernel_rfl)) rfl ?_
 exact ⟨_, _, _, rt_, ro_ (fs3_ HO492.out BK485.out) (fun _ hk => hk.1), ro_ (fs3_ HO495.out BK485.out) (fun _ hk => hk.1), ro_ (fs3_ HO498.out BK485.out) (fun _ hk => trivial), by repeat (first | (with_reducible first | exact HB.out | apply below_alloc | apply pw_below_drewN | apply below_drew1 | refine below_set ?_ (IsS47.ge HI489.out) | refine below_set ?_ GE485.out) | exact HB.out)⟩

def spec_DrawSettlePair.f (k : Nat) (l0 : List Int) : Option (List Int × List Int × (List (S36))) := (spec_DrawGoodPair.f k l0).bind fun bt502 => (some (bt502.1, bt502.2.1, bt502.2.2))
theorem spec_DrawSettlePair.mono : ∀ a0 k, LeO (spec_DrawSettlePair.f k a0) (spec_DrawSettlePair.f (k + 1) a0) := by
 intro a0 k
 unfold spec_DrawSettlePair.f
 repeat' first
   | (with_reducible exact spec_DrawGoodPair.mono _ _)
   | with_reducible first | exact LeO.refl _ | exact LeO.none _ | refine LeO.ite ?_ ?_ | refine LeO.bind ?_ fun _ => ?_
set_option maxHeartbeats 8000000 in
set_option maxRecDepth 100000 in
theorem spec_DrawSettlePair.calls (k : Nat) (A0 : Option Addr) (c0 : Nat) (l0 : List Int) (r1 : List Int) (r2 : List Int) (r3 : List (S36)) (w : World) (hr0 : Kd.C (Kd.int .u8) w A0 l0.length l0) (hc0 : l0.length ≤ c0) (h : spec_DrawSettlePair.f k l0 = some (r1, r2, r3)) :
  Calls Try.prog 10 #[.slice A0 l0.length c0] w fun e w' => ∃ v0_ v1_ v2_ : Value, e = .returned (.agg #[v0_, v1_, v2_]) ∧ Kd.R (Kd.int .i64) 3 w' w.heap.size (fun k_ => no_ v1_ k_) v0_ r1 ∧ Kd.R (Kd.int .i64) 3 w' w.heap.size (fun k_ => no_ v0_ k_) v1_ r2 ∧ Kd.R k36 36 w' w.heap.size (fun _ => True) v2_ r3 ∧ Below w.heap.size w w' := by
 have hu26 := Try.underlying26
 have HR0 := Aside0.mk hr0
 have HC0 := Aside0.mk hc0
 clear hr0 hc0
 have HB := Aside0.mk (Below.refl w.heap.size w)
 have H : ((spec_DrawGoodPair.f k l0).bind fun bt502 => (some (bt502.1, bt502.2.1, bt502.2.2))) = some (r1, r2, r3) := h
 clear h
 replace H := Option.bind_eq_some_iff.mp H
 obtain ⟨⟨t502, t505, t508⟩, A20, H⟩ := H
 replace H : (some (t502, t505, t508)) = some (r1, r2, r3) := H
 have A2 := Aside0.mk A20
 clear A20
 simp only [Option.some.injEq, Prod.mk.injEq] at H
 obtain ⟨rfl, rfl, rfl⟩ := H
 go_enter Try.func10, Try.ntmps10
 go_wp2_with (first | ((with_reducible refine gate_dst (N := 2) rfl ?_); refine bx_ev 2 #[.slice none 0 0, .slice none 0 0, .slice none 0 0] 26 ?_; intro gb501 hg w3 hbox hb; have BK501 := Aside0.mk (hbox); have GW501 := gw_ hg HB; have GE501 := gw_ hg HB; replace HB := bst_ HB hb; clear hb hbox hg) | ((with_reducible refine gate_dst (N := 4) rfl ?_); refine goesL_ (some 4) rfl rfl Try.func30 (by kernel_rfl) rfl #[.slice A0 l0.length c0] rfl tm_ ?_; (with_reducible refine (spec_DrawGoodPair.calls k _ _ l0 t502 t505 t508 _ ?side1 ?side2 A2.out).mono ?_); (case side1 => exact cb_ HR0 HB); (case side2 => exact HC0.out); rintro e w4 ⟨v503, v506, v509, rfl, ho0, ho1, ho2, hb⟩; refine ⟨_, rfl, ?_⟩; have HO504 := Aside0.mk (Kd.R_lower ho0 (below_size (hB HB))); have HO507 := Aside0.mk (Kd.R_lower ho1 (below_size (hB HB))); have HO510 := Aside0.mk (Kd.R_lower ho2 (below_size (hB HB))); replace BK501 := bb_ BK501 hb; replace HB := bst_ HB hb; clear hb ho0 ho1 ho2; obtain ⟨Ao5, co5, eo5⟩ := Kd.R_slice HO504.out; subst eo5; obtain ⟨hcz6_0, hcz6_1, hcz6_2⟩ := bcs3_ BK501; obtain ⟨hfz6_0, hfz6_1, hfz6_2⟩ := bz3_ BK501; obtain ⟨Ao7, co7, eo7⟩ := Kd.R_slice HO507.out; subst eo7; obtain ⟨Ao8, co8, eo8⟩ := Kd.R_slice HO510.out; subst eo8))
 refine bodyPost_ret (results_cell_row rfl _ _ gb501 26 #[.slice Ao5 t502.length co5, .slice Ao7 t505.length co7, .slice Ao8 t508.length co8] (0, 0) _ rfl (bw0_ BK501) Try.underlying26 rfl (by kernel_rfl)) rfl ?_
 exact ⟨_, _, _, rt_, ro_ (fs3_ HO504.out BK501.out) (fun _ hk => hk.1), ro_ (fs3_ HO507.out BK501.out) (fun _ hk => hk.1), ro_ (fs3_ HO510.out BK501.out) (fun _ hk => trivial), hB HB⟩

end Go.Proofs.Ytefdgdloghhnaaa.P
