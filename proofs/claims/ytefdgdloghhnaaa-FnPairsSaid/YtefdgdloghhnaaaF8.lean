import Derived.Test.YtefdgdloghhnaaaF0
import Derived.Test.YtefdgdloghhnaaaF7
namespace Go.Proofs.Ytefdgdloghhnaaa.P
open Go.RowKit Go.Proofs.YtefdgdloghhnaaaW.PrintWords Go.Proofs.YtefdgdloghhnaaaW.PrintLast Go.Proofs.YtefdgdloghhnaaaW.PrintMore
attribute [local go_sem] max2_int min2_int max_two min_two max_three min_three max_four min_four   -- for this text's walks alone
set_option linter.unusedVariables false
set_option linter.unusedSimpArgs false
attribute [local go_sem high] eqA36

mutual
def impl_StepPair.j0 : Nat → Int → Bool → List Int → List Int → List (S36) → Int → Int → List Int → List Int → List (S36) → Option (List Int × List Int × (List (S36)) × Bool)
 | 0, _, _, _, _, _, _, _, _, _, _ => none
 | k + 1, x16, x46, x403000, x403001, x403002, x404000, x404001, x416000, x416001, x416002 => if x46 = true then ((impl_in.f x404001 0 (wrap64 ((x403002.length : Int) - 1))).bind fun t421 => (if t421 = true then (if 0 ≤ x404001 then (if x404001 < (x403002.length : Int) then ((impl_Hello_22.f x416002 x404001 (wrap64 (x404001 + 1))).bind fun t424 => (if x404000 = 2 then ((impl_nextState.f ((rd_T36 x403002 x404001).f1)).bind fun t427 => (if 0 ≤ (wrap64 (1 - ((rd_T36 x403002 x404001).f0))) then (if (wrap64 (1 - ((rd_T36 x403002 x404001).f0))) < (x416000.length : Int) then (if (wrap64 (1 - ((rd_T36 x403002 x404001).f0))) < (x416001.length : Int) then (some ((x416000.set ((wrap64 (1 - ((rd_T36 x403002 x404001).f0))) : Int).toNat t427), (x416001.set ((wrap64 (1 - ((rd_T36 x403002 x404001).f0))) : Int).toNat 3), t424, true)) else (none)) else (none)) else (none))) else (some (x416000, x416001, t424, true)))) else (none)) else (none)) else (some (([] : List Int), ([] : List Int), ([] : List (S36)), false)))) else (if x16 = 4 then (if x404001 = 0 then (impl_StepPair.l0 k (x416000.length : Int) 0 x416000 x416001 x416002) else (some (([] : List Int), ([] : List Int), ([] : List (S36)), false))) else (some (([] : List Int), ([] : List Int), ([] : List (S36)), false)))
def impl_StepPair.l0 : Nat → Int → Int → List Int → List Int → List (S36) → Option (List Int × List Int × (List (S36)) × Bool)
 | 0, _, _, _, _, _ => none
 | k + 1, x99, x100, x416000, x416001, x416002 => if x100 < x99 then (if 0 ≤ x100 then (if x100 < (x416000.length : Int) then (if (rd x416000 x100) = 0 then (impl_StepPair.l0 k x99 (wrap64 (x100 + 1)) x416000 x416001 x416002) else (if x100 < (x416001.length : Int) then ((some (x416001.set (x100 : Int).toNat (wrap64 ((rd x416001 x100) - 1)) : List Int)).bind fun y432 => (if (rd y432 x100) = 0 then (impl_StepPair.l0 k x99 (wrap64 (x100 + 1)) (x416000.set (x100 : Int).toNat 0) y432 x416002) else (impl_StepPair.l0 k x99 (wrap64 (x100 + 1)) x416000 y432 x416002))) else (none))) else (none)) else (none)) else (some (x416000, x416001, x416002, true))
end
def impl_StepPair.f (k : Nat) (l0_0 : List Int) (l0_1 : List Int) (l0_2 : List (S36)) (a1_0 : Int) (a1_1 : Int) : Option (List Int × List Int × (List (S36)) × Bool) := (impl_GoodPair.f k l0_0 l0_1 l0_2).bind fun t405 => (if t405 = true then ((impl_Pair_own.f l0_0 l0_1 l0_2).bind fun bt406 => (if a1_0 = 1 then ((impl_in.f a1_1 0 1).bind fun t416 => (if t416 = true then (if (l0_2.length : Int) ≥ 12 then (some (([] : List Int), ([] : List Int), ([] : List (S36)), false)) else (if 0 ≤ a1_1 then (if a1_1 < (l0_0.length : Int) then (if bt406.2.2.length < 8796093022208 then (some (bt406.1, bt406.2.1, (bt406.2.2 ++ [(⟨a1_1, ((rd l0_0 a1_1) != 0)⟩ : S36)]), true)) else (none)) else (none)) else (none))) else (some (([] : List Int), ([] : List Int), ([] : List (S36)), false)))) else (if a1_0 = 2 then (impl_StepPair.j0 k a1_0 (a1_0 == 2) l0_0 l0_1 l0_2 a1_0 a1_1 bt406.1 bt406.2.1 bt406.2.2) else (impl_StepPair.j0 k a1_0 (a1_0 == 3) l0_0 l0_1 l0_2 a1_0 a1_1 bt406.1 bt406.2.1 bt406.2.2)))) else (some (([] : List Int), ([] : List Int), ([] : List (S36)), false)))
theorem impl_StepPair.mono_l : ∀ k, (∀ y0 y1 y2 y3 y4 y5 y6 y7 y8 y9, LeO (impl_StepPair.j0 k y0 y1 y2 y3 y4 y5 y6 y7 y8 y9) (impl_StepPair.j0 (k + 1) y0 y1 y2 y3 y4 y5 y6 y7 y8 y9)) ∧ (∀ y0 y1 y2 y3 y4, LeO (impl_StepPair.l0 k y0 y1 y2 y3 y4) (impl_StepPair.l0 (k + 1) y0 y1 y2 y3 y4))
 | 0 => ⟨fun _ _ _ _ _ _ _ _ _ _ r h => by simp [impl_StepPair.j0] at h, fun _ _ _ _ _ r h => by simp [impl_StepPair.l0] at h⟩
 | k + 1 => by
  obtain ⟨ih0, ih1⟩ := impl_StepPair.mono_l k
  refine ⟨?_, ?_⟩
  ·intro y0 y1 y2 y3 y4 y5 y6 y7 y8 y9
   unfold impl_StepPair.j0
   repeat' first
   | (with_reducible exact ih0 _ _ _ _ _ _ _ _ _ _)
   | (with_reducible exact ih1 _ _ _ _ _)
   | (with_reducible exact impl_GoodPair.mono _ _ _ _)
   | with_reducible first | exact LeO.refl _ | exact LeO.none _ | refine LeO.ite ?_ ?_ | refine LeO.bind ?_ fun _ => ?_
  ·intro y0 y1 y2 y3 y4
   unfold impl_StepPair.l0
   repeat' first
   | (with_reducible exact ih0 _ _ _ _ _ _ _ _ _ _)
   | (with_reducible exact ih1 _ _ _ _ _)
   | (with_reducible exact impl_GoodPair.mono _ _ _ _)
   | with_reducible first | exact LeO.refl _ | exact LeO.none _ | refine LeO.ite ?_ ?_ | refine LeO.bind ?_ fun _ => ?_
theorem impl_StepPair.mono : ∀ a0 a1 a2 a3 a4 k, LeO (impl_StepPair.f k a0 a1 a2 a3 a4) (impl_StepPair.f (k + 1) a0 a1 a2 a3 a4) := by
 intro a0 a1 a2 a3 a4 k
 obtain ⟨ih0, ih1⟩ := impl_StepPair.mono_l k
 unfold impl_StepPair.f
 repeat' first
   | (with_reducible exact ih0 _ _ _ _ _ _ _ _ _ _)
   | (with_reducible exact ih1 _ _ _ _ _)
   | (with_reducible exact impl_GoodPair.mono _ _ _ _)
   | with_reducible first | exact LeO.refl _ | exact LeO.none _ | refine LeO.ite ?_ ?_ | refine LeO.bind ?_ fun _ => ?_
def impl_StepPair.T9 : Bool × List (List Nat × List Nat) := (true, [([], []), ([0], [0]), ([], []), ([2], [2]), ([], []), ([4], [4]), ([], []), ([6], [6]), ([5, 7], [5, 7]), ([8], [8]), ([9], [9]), ([3, 10], [3, 10]), ([11], [11]), ([1, 12], [1, 12]), ([0, 1, 2, 3, 4, 5, 6, 7, 8, 9, 10, 11, 12, 13], []), ([14, 13, 13, 0, 1, 2, 3, 4, 5, 6, 7, 8, 9, 10, 11, 12, 13], [13, 14])])
def impl_StepPair.B9 : List Nat := [0, 1, 0, 4, 0, 16, 0, 64, 240, 496, 1008, 2044, 4092, 8191, 16383, 32767]
theorem impl_StepPair.tab9 : rtab .any (opsOf Try.f5 9) = impl_StepPair.T9 := by kernel_rfl
theorem impl_StepPair.bits9 : waitsOk impl_StepPair.T9.2 impl_StepPair.B9 = true := by kernel_rfl
def impl_StepPair.T17 : Bool × List (List Nat × List Nat) := (true, [([], []), ([0], [0]), ([], []), ([2], [2]), ([3], [3]), ([], []), ([5], [5]), ([6], [6]), ([1, 4, 0, 1, 2, 3, 4, 5, 6, 7], [1, 4]), ([8, 7, 7, 0, 1, 2, 3, 4, 5, 6, 7], [7, 8])])
def impl_StepPair.B17 : List Nat := [0, 1, 0, 4, 12, 0, 32, 96, 255, 511]
theorem impl_StepPair.tab17 : rtab .any (opsOf Try.f5 17) = impl_StepPair.T17 := by kernel_rfl
theorem impl_StepPair.bits17 : waitsOk impl_StepPair.T17.2 impl_StepPair.B17 = true := by kernel_rfl
set_option maxHeartbeats 8000000 in
set_option maxRecDepth 100000 in
theorem impl_StepPair.calls (k : Nat) (A0_0 : Option Addr) (c0_0 : Nat) (l0_0 : List Int) (A0_1 : Option Addr) (c0_1 : Nat) (l0_1 : List Int) (A0_2 : Option Addr) (c0_2 : Nat) (l0_2 : List (S36)) (a1_0 : Int) (a1_1 : Int) (r1 : List Int) (r2 : List Int) (r3 : List (S36)) (r4 : Bool) (w : World) (hr0_0 : Kd.C (Kd.int .i64) w A0_0 l0_0.length l0_0) (hc0_0 : l0_0.length ≤ c0_0) (hr0_1 : Kd.C (Kd.int .i64) w A0_1 l0_1.length l0_1) (hc0_1 : l0_1.length ≤ c0_1) (hr0_2 : Kd.C k36 w A0_2 l0_2.length l0_2) (hc0_2 : l0_2.length ≤ c0_2) (h : impl_StepPair.f k l0_0 l0_1 l0_2 a1_0 a1_1 = some (r1, r2, r3, r4)) :
  Calls Try.prog 5 #[.agg #[.slice A0_0 l0_0.length c0_0, .slice A0_1 l0_1.length c0_1, .slice A0_2 l0_2.length c0_2], .agg #[.int .i64 a1_0, .int .i64 a1_1]] w fun e w' => ∃ v0_ v1_ v2_ : Value, e = .returned (.tuple #[.agg #[v0_, v1_, v2_], .bool r4]) ∧ Kd.R (Kd.int .i64) 3 w' w.heap.size (fun k_ => no_ v1_ k_) v0_ r1 ∧ Kd.R (Kd.int .i64) 3 w' w.heap.size (fun k_ => no_ v0_ k_) v1_ r2 ∧ Kd.R k36 36 w' w.heap.size (fun _ => True) v2_ r3 ∧ Below w.heap.size w w' := by
 have hu26 := Try.underlying26
 have hu28 := Try.underlying28
 have hu36 := Try.underlying36
 have HR0_0 := Aside0.mk hr0_0
 have HC0_0 := Aside0.mk hc0_0
 clear hr0_0 hc0_0
 have HR0_1 := Aside0.mk hr0_1
 have HC0_1 := Aside0.mk hc0_1
 clear hr0_1 hc0_1
 have HR0_2 := Aside0.mk hr0_2
 have HC0_2 := Aside0.mk hc0_2
 clear hr0_2 hc0_2
 have HB := Aside0.mk (Below.refl w.heap.size w)
 have H : ((impl_GoodPair.f k l0_0 l0_1 l0_2).bind fun t405 => (if t405 = true then ((impl_Pair_own.f l0_0 l0_1 l0_2).bind fun bt406 => (if a1_0 = 1 then ((impl_in.f a1_1 0 1).bind fun t416 => (if t416 = true then (if (l0_2.length : Int) ≥ 12 then (some (([] : List Int), ([] : List Int), ([] : List (S36)), false)) else (if 0 ≤ a1_1 then (if a1_1 < (l0_0.length : Int) then (if bt406.2.2.length < 8796093022208 then (some (bt406.1, bt406.2.1, (bt406.2.2 ++ [(⟨a1_1, ((rd l0_0 a1_1) != 0)⟩ : S36)]), true)) else (none)) else (none)) else (none))) else (some (([] : List Int), ([] : List Int), ([] : List (S36)), false)))) else (if a1_0 = 2 then (impl_StepPair.j0 k a1_0 (a1_0 == 2) l0_0 l0_1 l0_2 a1_0 a1_1 bt406.1 bt406.2.1 bt406.2.2) else (impl_StepPair.j0 k a1_0 (a1_0 == 3) l0_0 l0_1 l0_2 a1_0 a1_1 bt406.1 bt406.2.1 bt406.2.2)))) else (some (([] : List Int), ([] : List Int), ([] : List (S36)), false)))) = some (r1, r2, r3, r4) := h
 clear h
 replace H := Option.bind_eq_some_iff.mp H
 obtain ⟨t405, A30, H⟩ := H
 replace H : (if t405 = true then ((impl_Pair_own.f l0_0 l0_1 l0_2).bind fun bt406 => (if a1_0 = 1 then ((impl_in.f a1_1 0 1).bind fun t416 => (if t416 = true then (if (l0_2.length : Int) ≥ 12 then (some (([] : List Int), ([] : List Int), ([] : List (S36)), false)) else (if 0 ≤ a1_1 then (if a1_1 < (l0_0.length : Int) then (if bt406.2.2.length < 8796093022208 then (some (bt406.1, bt406.2.1, (bt406.2.2 ++ [(⟨a1_1, ((rd l0_0 a1_1) != 0)⟩ : S36)]), true)) else (none)) else (none)) else (none))) else (some (([] : List Int), ([] : List Int), ([] : List (S36)), false)))) else (if a1_0 = 2 then (impl_StepPair.j0 k a1_0 (a1_0 == 2) l0_0 l0_1 l0_2 a1_0 a1_1 bt406.1 bt406.2.1 bt406.2.2) else (impl_StepPair.j0 k a1_0 (a1_0 == 3) l0_0 l0_1 l0_2 a1_0 a1_1 bt406.1 bt406.2.1 bt406.2.2)))) else (some (([] : List Int), ([] : List Int), ([] : List (S36)), false))) = some (r1, r2, r3, r4) := H
 have A3 := Aside0.mk A30
 clear A30
 by_cases c4 : t405 = true
 rotate_left
 ·replace c4 := Bool.eq_false_iff.mpr c4
  subst c4
  rw [if_neg (show ¬ (false = true) by decide)] at H
  simp only [Option.some.injEq, Prod.mk.injEq] at H
  obtain ⟨rfl, rfl, rfl, rfl⟩ := H
  go_enter Try.func5, Try.ntmps5
  go_wp2_with (first | ((with_reducible refine gate_dst (N := 2) rfl ?_); (try (refine gate_guard (by rfl) ?_; dsimp only)); refine bx_ev 2 #[.slice A0_0 l0_0.length c0_0, .slice A0_1 l0_1.length c0_1, .slice A0_2 l0_2.length c0_2] 26 ?_; intro gb402 hg w240 hbox hb; have BK402 := Aside0.mk (hbox); have GW402 := gw_ hg HB; have GE402 := gw_ hg HB; replace HB := bst_ HB hb; clear hb hbox hg) | ((with_reducible refine gate_dst (N := 3) rfl ?_); (try (refine gate_guard (by rfl) ?_; dsimp only)); refine bx_ev 3 #[.int .i64 a1_0, .int .i64 a1_1] 28 ?_; intro gb403 hg w241 hbox hb; have BK403 := Aside0.mk (hbox); have GW403 := gw_ hg HB; have GE403 := gw_ hg HB; have NB402_403 := nl_ hg BK402; have NB403_402 := ng_ hg BK402; replace BK402 := bb_ BK402 hb; replace HB := bst_ HB hb; clear hb hbox hg) | ((with_reducible refine gate_dst (N := 4) rfl ?_); (try (refine gate_guard (by rfl) ?_; dsimp only)); refine bx_ev 4 #[.slice none 0 0, .slice none 0 0, .slice none 0 0] 26 ?_; intro gb404 hg w242 hbox hb; have BK404 := Aside0.mk (hbox); have GW404 := gw_ hg HB; have GE404 := gw_ hg HB; have NB402_404 := nl_ hg BK402; have NB404_402 := ng_ hg BK402; have NB403_404 := nl_ hg BK403; have NB404_403 := ng_ hg BK403; replace BK402 := bb_ BK402 hb; replace BK403 := bb_ BK403 hb; replace HB := bst_ HB hb; clear hb hbox hg; obtain ⟨hnb243, hnc243⟩ := nn_ NB402_403; obtain ⟨hnb244, hnc244⟩ := nn_ NB402_404; obtain ⟨hcz245_0, hcz245_1, hcz245_2⟩ := bcs3_ BK402) | ((with_reducible refine gate_dst (N := 10) rfl ?_); refine goesL_ (some 10) rfl rfl Try.func8 (by kernel_rfl) rfl #[.agg #[.slice A0_0 l0_0.length c0_0, .slice A0_1 l0_1.length c0_1, .slice A0_2 l0_2.length c0_2]] rfl tm_ ?_; (with_reducible refine (impl_GoodPair.calls k _ _ l0_0 _ _ l0_1 _ _ l0_2 false _ ?side1 ?side2 ?side3 ?side4 ?side5 ?side6 A3.out).mono ?_); (case side1 => exact cb_ HR0_0 HB); (case side2 => exact HC0_0.out); (case side3 => exact cb_ HR0_1 HB); (case side4 => exact HC0_1.out); (case side5 => exact cb_ HR0_2 HB); (case side6 => exact HC0_2.out); rintro e w246 ⟨rfl, hb⟩; refine ⟨_, rfl, ?_⟩; replace BK402 := bb_ BK402 hb; replace BK403 := bb_ BK403 hb; replace BK404 := bb_ BK404 hb; replace HB := bst_ HB hb; clear hb; obtain ⟨hnb247, hnc247⟩ := nn_ NB404_403; obtain ⟨hcz248_0, hcz248_1, hcz248_2⟩ := bcs3_ BK404; obtain ⟨hfz248_0, hfz248_1, hfz248_2⟩ := bz3_ BK404))
  refine bodyPost_ret (results_ct rfl _ _ gb404 26 #[.slice none 0 0, .slice none 0 0, .slice none 0 0] (0, 0) _ rfl (bw0_ BK404) Try.underlying26 rfl (by kernel_rfl)) rfl ?_
  exact ⟨_, _, _, rt_, by first | exact Kd.R_nil _ _ _ _ _ | exact Kd.N_nil _ _ _ _ _ | exact Kd.V_nil _ _ _ _ _ | exact Kd.Q_nil _ _ _ _ _ | exact Kd.S_nil _ _ _ _ _, by first | exact Kd.R_nil _ _ _ _ _ | exact Kd.N_nil _ _ _ _ _ | exact Kd.V_nil _ _ _ _ _ | exact Kd.Q_nil _ _ _ _ _ | exact Kd.S_nil _ _ _ _ _, by first | exact Kd.R_nil _ _ _ _ _ | exact Kd.N_nil _ _ _ _ _ | exact Kd.V_nil _ _ _ _ _ | exact Kd.Q_nil _ _ _ _ _ | exact Kd.S_nil _ _ _ _ _, hB HB⟩
 subst c4
 rw [if_pos rfl] at H
 replace H := Option.bind_eq_some_iff.mp H
 obtain ⟨⟨t406, t409, t412⟩, A50, H⟩ := H
 replace H : (if a1_0 = 1 then ((impl_in.f a1_1 0 1).bind fun t416 => (if t416 = true then (if (l0_2.length : Int) ≥ 12 then (some (([] : List Int), ([] : List Int), ([] : List (S36)), false)) else (if 0 ≤ a1_1 then (if a1_1 < (l0_0.length : Int) then (if t412.length < 8796093022208 then (some (t406, t409, (t412 ++ [(⟨a1_1, ((rd l0_0 a1_1) != 0)⟩ : S36)]), true)) else (none)) else (none)) else (none))) else (some (([] : List Int), ([] : List Int), ([] : List (S36)), false)))) else (if a1_0 = 2 then (impl_StepPair.j0 k a1_0 (a1_0 == 2) l0_0 l0_1 l0_2 a1_0 a1_1 t406 t409 t412) else (impl_StepPair.j0 k a1_0 (a1_0 == 3) l0_0 l0_1 l0_2 a1_0 a1_1 t406 t409 t412))) = some (r1, r2, r3, r4) := H
 have A5 := Aside0.mk A50
 clear A50
 by_cases c6 : a1_0 = 1
 ·rw [if_pos c6] at H
  have c6b0 : (a1_0 == 1) = true := beq_iff_eq.mpr c6
  have c6b1 : (a1_0 != 1) = false := bne_eq_false_iff_eq.mpr c6
  clear c6
  replace H := Option.bind_eq_some_iff.mp H
  obtain ⟨t416, A70, H⟩ := H
  replace H : (if t416 = true then (if (l0_2.length : Int) ≥ 12 then (some (([] : List Int), ([] : List Int), ([] : List (S36)), false)) else (if 0 ≤ a1_1 then (if a1_1 < (l0_0.length : Int) then (if t412.length < 8796093022208 then (some (t406, t409, (t412 ++ [(⟨a1_1, ((rd l0_0 a1_1) != 0)⟩ : S36)]), true)) else (none)) else (none)) else (none))) else (some (([] : List Int), ([] : List Int), ([] : List (S36)), false))) = some (r1, r2, r3, r4) := H
  have A7 := Aside0.mk A70
  clear A70
  by_cases c8 : t416 = true
  rotate_left
  ·replace c8 := Bool.eq_false_iff.mpr c8
   subst c8
   rw [if_neg (show ¬ (false = true) by decide)] at H
   simp only [Option.some.injEq, Prod.mk.injEq] at H
   obtain ⟨rfl, rfl, rfl, rfl⟩ := H
   go_enter Try.func5, Try.ntmps5
   go_wp2_with (first | ((with_reducible refine gate_dst (N := 2) rfl ?_); (try (refine gate_guard (by rfl) ?_; dsimp only)); refine bx_ev 2 #[.slice A0_0 l0_0.length c0_0, .slice A0_1 l0_1.length c0_1, .slice A0_2 l0_2.length c0_2] 26 ?_; intro gb402 hg w61 hbox hb; have BK402 := Aside0.mk (hbox); have GW402 := gw_ hg HB; have GE402 := gw_ hg HB; replace HB := bst_ HB hb; clear hb hbox hg) | ((with_reducible refine gate_dst (N := 3) rfl ?_); (try (refine gate_guard (by rfl) ?_; dsimp only)); refine bx_ev 3 #[.int .i64 a1_0, .int .i64 a1_1] 28 ?_; intro gb403 hg w62 hbox hb; have BK403 := Aside0.mk (hbox); have GW403 := gw_ hg HB; have GE403 := gw_ hg HB; have NB402_403 := nl_ hg BK402; have NB403_402 := ng_ hg BK402; replace BK402 := bb_ BK402 hb; replace HB := bst_ HB hb; clear hb hbox hg) | ((with_reducible refine gate_dst (N := 4) rfl ?_); (try (refine gate_guard (by rfl) ?_; dsimp only)); refine bx_ev 4 #[.slice none 0 0, .slice none 0 0, .slice none 0 0] 26 ?_; intro gb404 hg w63 hbox hb; have BK404 := Aside0.mk (hbox); have GW404 := gw_ hg HB; have GE404 := gw_ hg HB; have NB402_404 := nl_ hg BK402; have NB404_402 := ng_ hg BK402; have NB403_404 := nl_ hg BK403; have NB404_403 := ng_ hg BK403; replace BK402 := bb_ BK402 hb; replace BK403 := bb_ BK403 hb; replace HB := bst_ HB hb; clear hb hbox hg; obtain ⟨hnb64, hnc64⟩ := nn_ NB402_403; obtain ⟨hnb65, hnc65⟩ := nn_ NB402_404; obtain ⟨hcz66_0, hcz66_1, hcz66_2⟩ := bcs3_ BK402) | ((with_reducible refine gate_dst (N := 10) rfl ?_); refine goesL_ (some 10) rfl rfl Try.func8 (by kernel_rfl) rfl #[.agg #[.slice A0_0 l0_0.length c0_0, .slice A0_1 l0_1.length c0_1, .slice A0_2 l0_2.length c0_2]] rfl tm_ ?_; (with_reducible refine (impl_GoodPair.calls k _ _ l0_0 _ _ l0_1 _ _ l0_2 true _ ?side1 ?side2 ?side3 ?side4 ?side5 ?side6 A3.out).mono ?_); (case side1 => exact cb_ HR0_0 HB); (case side2 => exact HC0_0.out); (case side3 => exact cb_ HR0_1 HB); (case side4 => exact HC0_1.out); (case side5 => exact cb_ HR0_2 HB); (case side6 => exact HC0_2.out); rintro e w67 ⟨rfl, hb⟩; refine ⟨_, rfl, ?_⟩; replace BK402 := bb_ BK402 hb; replace BK403 := bb_ BK403 hb; replace BK404 := bb_ BK404 hb; replace HB := bst_ HB hb; clear hb; obtain ⟨hcz68_0, hcz68_1, hcz68_2⟩ := bcs3_ BK402) | ((with_reducible refine gate_dst (N := 14) rfl ?_); refine goesL_ (some 14) rfl rfl Try.func20 (by kernel_rfl) rfl #[.agg #[.slice A0_0 l0_0.length c0_0, .slice A0_1 l0_1.length c0_1, .slice A0_2 l0_2.length c0_2]] rfl tm_ ?_; (with_reducible refine (impl_Pair_own.calls _ _ l0_0 _ _ l0_1 _ _ l0_2 t406 t409 t412 _ ?side1 ?side2 ?side3 ?side4 ?side5 ?side6 A5.out).mono ?_); (case side1 => exact cb_ HR0_0 HB); (case side2 => exact HC0_0.out); (case side3 => exact cb_ HR0_1 HB); (case side4 => exact HC0_1.out); (case side5 => exact cb_ HR0_2 HB); (case side6 => exact HC0_2.out); rintro e w69 ⟨v407, v410, v413, rfl, ho0, ho1, ho2, hb⟩; refine ⟨_, rfl, ?_⟩; have HO408 := Aside0.mk (Kd.R_lower ho0 (below_size (hB HB))); have HO411 := Aside0.mk (Kd.R_lower ho1 (below_size (hB HB))); have HO414 := Aside0.mk (Kd.R_lower ho2 (below_size (hB HB))); replace BK402 := bb_ BK402 hb; replace BK403 := bb_ BK403 hb; replace BK404 := bb_ BK404 hb; replace HB := bst_ HB hb; clear hb ho0 ho1 ho2) | ((with_reducible refine gate_dst (N := 6) rfl ?_); (try (refine gate_guard (by rfl) ?_; dsimp only)); refine bx_ev 6 #[.slice none 0 0, .slice none 0 0, .slice none 0 0] 26 ?_; intro gb415 hg w70 hbox hb; have BK415 := Aside0.mk (hbox); have GW415 := gw_ hg HB; have GE415 := gw_ hg HB; have NB402_415 := nl_ hg BK402; have NB415_402 := ng_ hg BK402; have NB403_415 := nl_ hg BK403; have NB415_403 := ng_ hg BK403; have NB404_415 := nl_ hg BK404; have NB415_404 := ng_ hg BK404; replace HO408 := rb_ HO408 hb; replace HO411 := rb_ HO411 hb; replace HO414 := rb_ HO414 hb; replace BK402 := bb_ BK402 hb; replace BK403 := bb_ BK403 hb; replace BK404 := bb_ BK404 hb; replace HB := bst_ HB hb; clear hb hbox hg; obtain ⟨Ao71, co71, eo71⟩ := Kd.R_slice HO408.out; subst eo71; obtain ⟨hnb72, hnc72⟩ := nn_ NB415_402; obtain ⟨hnb73, hnc73⟩ := nn_ NB415_403; obtain ⟨hnb74, hnc74⟩ := nn_ NB415_404; obtain ⟨hcz75_0, hcz75_1, hcz75_2⟩ := bcs3_ BK415; obtain ⟨hfz75_0, hfz75_1, hfz75_2⟩ := bz3_ BK415; obtain ⟨Ao76, co76, eo76⟩ := Kd.R_slice HO411.out; subst eo76; obtain ⟨Ao77, co77, eo77⟩ := Kd.R_slice HO414.out; subst eo77; obtain ⟨hnb78, hnc78⟩ := nn_ NB403_404; obtain ⟨hcz79_0, hcz79_1⟩ := bcs2_ BK403) | ((with_reducible refine gate_dst (N := 22) rfl ?_); refine goesL_ (some 22) rfl rfl Try.func21 (by kernel_rfl) rfl #[.int .i64 a1_1, .int .i64 0, .int .i64 1] rfl tm_ ?_; (with_reducible refine (impl_in.calls a1_1 0 1 false _ A7.out).mono ?_); rintro e w' ⟨rfl, ⟨nd, rfl⟩⟩; refine ⟨_, rfl, ?_⟩; obtain ⟨hcz80_0, hcz80_1, hcz80_2⟩ := bcs3_ BK404; obtain ⟨hfz80_0, hfz80_1, hfz80_2⟩ := bz3_ BK404))
   refine bodyPost_ret (results_ct rfl _ _ gb404 26 #[.slice none 0 0, .slice none 0 0, .slice none 0 0] (0, 0) _ rfl (bw1_ BK404 NB404_415) Try.underlying26 rfl (by kernel_rfl)) rfl ?_
   exact ⟨_, _, _, rt_, by first | exact Kd.R_nil _ _ _ _ _ | exact Kd.N_nil _ _ _ _ _ | exact Kd.V_nil _ _ _ _ _ | exact Kd.Q_nil _ _ _ _ _ | exact Kd.S_nil _ _ _ _ _, by first | exact Kd.R_nil _ _ _ _ _ | exact Kd.N_nil _ _ _ _ _ | exact Kd.V_nil _ _ _ _ _ | exact Kd.Q_nil _ _ _ _ _ | exact Kd.S_nil _ _ _ _ _, by first | exact Kd.R_nil _ _ _ _ _ | exact Kd.N_nil _ _ _ _ _ | exact Kd.V_nil _ _ _ _ _ | exact Kd.Q_nil _ _ _ _ _ | exact Kd.S_nil _ _ _ _ _, hB HB⟩
  subst c8
  rw [if_pos rfl] at H
  by_cases c9 : (l0_2.length : Int) ≥ 12
  ·rw [if_pos c9] at H
   have c9b0 : decide (12 ≤ (l0_2.length : Int)) = true := decide_eq_true c9
   have c9b1 : decide (12 ≤ l0_2.length) = true := decide_eq_true (by omega)
   clear c9
   simp only [Option.some.injEq, Prod.mk.injEq] at H
   obtain ⟨rfl, rfl, rfl, rfl⟩ := H
   go_enter Try.func5, Try.ntmps5
   go_wp2_with (first | ((with_reducible refine gate_dst (N := 2) rfl ?_); (try (refine gate_guard (by rfl) ?_; dsimp only)); refine bx_ev 2 #[.slice A0_0 l0_0.length c0_0, .slice A0_1 l0_1.length c0_1, .slice A0_2 l0_2.length c0_2] 26 ?_; intro gb402 hg w10 hbox hb; have BK402 := Aside0.mk (hbox); have GW402 := gw_ hg HB; have GE402 := gw_ hg HB; replace HB := bst_ HB hb; clear hb hbox hg) | ((with_reducible refine gate_dst (N := 3) rfl ?_); (try (refine gate_guard (by rfl) ?_; dsimp only)); refine bx_ev 3 #[.int .i64 a1_0, .int .i64 a1_1] 28 ?_; intro gb403 hg w11 hbox hb; have BK403 := Aside0.mk (hbox); have GW403 := gw_ hg HB; have GE403 := gw_ hg HB; have NB402_403 := nl_ hg BK402; have NB403_402 := ng_ hg BK402; replace BK402 := bb_ BK402 hb; replace HB := bst_ HB hb; clear hb hbox hg) | ((with_reducible refine gate_dst (N := 4) rfl ?_); (try (refine gate_guard (by rfl) ?_; dsimp only)); refine bx_ev 4 #[.slice none 0 0, .slice none 0 0, .slice none 0 0] 26 ?_; intro gb404 hg w12 hbox hb; have BK404 := Aside0.mk (hbox); have GW404 := gw_ hg HB; have GE404 := gw_ hg HB; have NB402_404 := nl_ hg BK402; have NB404_402 := ng_ hg BK402; have NB403_404 := nl_ hg BK403; have NB404_403 := ng_ hg BK403; replace BK402 := bb_ BK402 hb; replace BK403 := bb_ BK403 hb; replace HB := bst_ HB hb; clear hb hbox hg; obtain ⟨hnb13, hnc13⟩ := nn_ NB402_403; obtain ⟨hnb14, hnc14⟩ := nn_ NB402_404; obtain ⟨hcz15_0, hcz15_1, hcz15_2⟩ := bcs3_ BK402) | ((with_reducible refine gate_dst (N := 10) rfl ?_); refine goesL_ (some 10) rfl rfl Try.func8 (by kernel_rfl) rfl #[.agg #[.slice A0_0 l0_0.length c0_0, .slice A0_1 l0_1.length c0_1, .slice A0_2 l0_2.length c0_2]] rfl tm_ ?_; (with_reducible refine (impl_GoodPair.calls k _ _ l0_0 _ _ l0_1 _ _ l0_2 true _ ?side1 ?side2 ?side3 ?side4 ?side5 ?side6 A3.out).mono ?_); (case side1 => exact cb_ HR0_0 HB); (case side2 => exact HC0_0.out); (case side3 => exact cb_ HR0_1 HB); (case side4 => exact HC0_1.out); (case side5 => exact cb_ HR0_2 HB); (case side6 => exact HC0_2.out); rintro e w16 ⟨rfl, hb⟩; refine ⟨_, rfl, ?_⟩; replace BK402 := bb_ BK402 hb; replace BK403 := bb_ BK403 hb; replace BK404 := bb_ BK404 hb; replace HB := bst_ HB hb; clear hb; obtain ⟨hcz17_0, hcz17_1, hcz17_2⟩ := bcs3_ BK402) | ((with_reducible refine gate_dst (N := 14) rfl ?_); refine goesL_ (some 14) rfl rfl Try.func20 (by kernel_rfl) rfl #[.agg #[.slice A0_0 l0_0.length c0_0, .slice A0_1 l0_1.length c0_1, .slice A0_2 l0_2.length c0_2]] rfl tm_ ?_; (with_reducible refine (impl_Pair_own.calls _ _ l0_0 _ _ l0_1 _ _ l0_2 t406 t409 t412 _ ?side1 ?side2 ?side3 ?side4 ?side5 ?side6 A5.out).mono ?_); (case side1 => exact cb_ HR0_0 HB); (case side2 => exact HC0_0.out); (case side3 => exact cb_ HR0_1 HB); (case side4 => exact HC0_1.out); (case side5 => exact cb_ HR0_2 HB); (case side6 => exact HC0_2.out); rintro e w18 ⟨v407, v410, v413, rfl, ho0, ho1, ho2, hb⟩; refine ⟨_, rfl, ?_⟩; have HO408 := Aside0.mk (Kd.R_lower ho0 (below_size (hB HB))); have HO411 := Aside0.mk (Kd.R_lower ho1 (below_size (hB HB))); have HO414 := Aside0.mk (Kd.R_lower ho2 (below_size (hB HB))); replace BK402 := bb_ BK402 hb; replace BK403 := bb_ BK403 hb; replace BK404 := bb_ BK404 hb; replace HB := bst_ HB hb; clear hb ho0 ho1 ho2) | ((with_reducible refine gate_dst (N := 6) rfl ?_); (try (refine gate_guard (by rfl) ?_; dsimp only)); refine bx_ev 6 #[.slice none 0 0, .slice none 0 0, .slice none 0 0] 26 ?_; intro gb415 hg w19 hbox hb; have BK415 := Aside0.mk (hbox); have GW415 := gw_ hg HB; have GE415 := gw_ hg HB; have NB402_415 := nl_ hg BK402; have NB415_402 := ng_ hg BK402; have NB403_415 := nl_ hg BK403; have NB415_403 := ng_ hg BK403; have NB404_415 := nl_ hg BK404; have NB415_404 := ng_ hg BK404; replace HO408 := rb_ HO408 hb; replace HO411 := rb_ HO411 hb; replace HO414 := rb_ HO414 hb; replace BK402 := bb_ BK402 hb; replace BK403 := bb_ BK403 hb; replace BK404 := bb_ BK404 hb; replace HB := bst_ HB hb; clear hb hbox hg; obtain ⟨Ao20, co20, eo20⟩ := Kd.R_slice HO408.out; subst eo20; obtain ⟨hnb21, hnc21⟩ := nn_ NB415_402; obtain ⟨hnb22, hnc22⟩ := nn_ NB415_403; obtain ⟨hnb23, hnc23⟩ := nn_ NB415_404; obtain ⟨hcz24_0, hcz24_1, hcz24_2⟩ := bcs3_ BK415; obtain ⟨hfz24_0, hfz24_1, hfz24_2⟩ := bz3_ BK415; obtain ⟨Ao25, co25, eo25⟩ := Kd.R_slice HO411.out; subst eo25; obtain ⟨Ao26, co26, eo26⟩ := Kd.R_slice HO414.out; subst eo26; obtain ⟨hnb27, hnc27⟩ := nn_ NB403_404; obtain ⟨hcz28_0, hcz28_1⟩ := bcs2_ BK403) | ((with_reducible refine gate_dst (N := 22) rfl ?_); refine goesL_ (some 22) rfl rfl Try.func21 (by kernel_rfl) rfl #[.int .i64 a1_1, .int .i64 0, .int .i64 1] rfl tm_ ?_; (with_reducible refine (impl_in.calls a1_1 0 1 true _ A7.out).mono ?_); rintro e w' ⟨rfl, ⟨nd, rfl⟩⟩; refine ⟨_, rfl, ?_⟩; obtain ⟨hcz29_0, hcz29_1, hcz29_2⟩ := bcs3_ BK402; obtain ⟨hcz30_0, hcz30_1, hcz30_2⟩ := bcs3_ BK404; obtain ⟨hfz30_0, hfz30_1, hfz30_2⟩ := bz3_ BK404))
   refine bodyPost_ret (results_ct rfl _ _ gb404 26 #[.slice none 0 0, .slice none 0 0, .slice none 0 0] (0, 0) _ rfl (bw1_ BK404 NB404_415) Try.underlying26 rfl (by kernel_rfl)) rfl ?_
   exact ⟨_, _, _, rt_, by first | exact Kd.R_nil _ _ _ _ _ | exact Kd.N_nil _ _ _ _ _ | exact Kd.V_nil _ _ _ _ _ | exact Kd.Q_nil _ _ _ _ _ | exact Kd.S_nil _ _ _ _ _, by first | exact Kd.R_nil _ _ _ _ _ | exact Kd.N_nil _ _ _ _ _ | exact Kd.V_nil _ _ _ _ _ | exact Kd.Q_nil _ _ _ _ _ | exact Kd.S_nil _ _ _ _ _, by first | exact Kd.R_nil _ _ _ _ _ | exact Kd.N_nil _ _ _ _ _ | exact Kd.V_nil _ _ _ _ _ | exact Kd.Q_nil _ _ _ _ _ | exact Kd.S_nil _ _ _ _ _, hB HB⟩
  rw [if_neg c9] at H
  have c9b0 : decide (12 ≤ (l0_2.length : Int)) = false := decide_eq_false c9
  have c9b1 : decide (12 ≤ l0_2.length) = false := decide_eq_false (by omega)
  clear c9
  by_cases c31 : 0 ≤ a1_1
  rotate_left
  ·rw [if_neg c31] at H
   exact absurd H (by simp)
  rw [if_pos c31] at H
  have c31b0 : decide (0 ≤ a1_1) = true := decide_eq_true c31
  clear c31
  by_cases c32 : a1_1 < (l0_0.length : Int)
  rotate_left
  ·rw [if_neg c32] at H
   exact absurd H (by simp)
  rw [if_pos c32] at H
  have c32b0 : decide (a1_1 < (l0_0.length : Int)) = true := decide_eq_true c32
  clear c32
  by_cases c33 : t412.length < 8796093022208
  rotate_left
  ·rw [if_neg c33] at H
   exact absurd H (by simp)
  rw [if_pos c33] at H
  have LMc33 := Aside0.mk c33
  clear c33
  obtain ⟨y418, hy418⟩ : ∃ y_ : List (S36), y_ = (t412 ++ [(⟨a1_1, ((rd l0_0 a1_1) != 0)⟩ : S36)]) := ⟨_, rfl⟩
  replace H : (some (t406, t409, y418, true)) = some (r1, r2, r3, r4) := by first | (rw [hy418]; with_reducible exact H) | (have H2_ := (Option.bind_some _ _).symm.trans H; rw [hy418]; with_reducible exact H2_) | (have H2_ := (Option.bind_some _ _).symm.trans H; with_reducible exact H2_) | with_reducible exact H | (rw [hy418]; exact H) | exact H
  have Ny418 := Aside0.mk hy418
  clear hy418
  simp only [Option.some.injEq, Prod.mk.injEq] at H
  obtain ⟨rfl, rfl, rfl, rfl⟩ := H
  go_enter Try.func5, Try.ntmps5
  try go_wp2_with (first | ((with_reducible refine gate_dst (N := 2) rfl ?_); (try (refine gate_guard (by rfl) ?_; dsimp only)); refine bx_ev 2 #[.slice A0_0 l0_0.length c0_0, .slice A0_1 l0_1.length c0_1, .slice A0_2 l0_2.length c0_2] 26 ?_; intro gb402 hg w34 hbox hb; have BK402 := Aside0.mk (hbox); have GW402 := gw_ hg HB; have GE402 := gw_ hg HB; replace HB := bst_ HB hb; clear hb hbox hg) | ((with_reducible refine gate_dst (N := 3) rfl ?_); (try (refine gate_guard (by rfl) ?_; dsimp only)); refine bx_ev 3 #[.int .i64 a1_0, .int .i64 a1_1] 28 ?_; intro gb403 hg w35 hbox hb; have BK403 := Aside0.mk (hbox); have GW403 := gw_ hg HB; have GE403 := gw_ hg HB; have NB402_403 := nl_ hg BK402; have NB403_402 := ng_ hg BK402; replace BK402 := bb_ BK402 hb; replace HB := bst_ HB hb; clear hb hbox hg) | ((with_reducible refine gate_dst (N := 4) rfl ?_); (try (refine gate_guard (by rfl) ?_; dsimp only)); refine bx_ev 4 #[.slice none 0 0, .slice none 0 0, .slice none 0 0] 26 ?_; intro gb404 hg w36 hbox hb; have BK404 := Aside0.mk (hbox); have GW404 := gw_ hg HB; have GE404 := gw_ hg HB; have NB402_404 := nl_ hg BK402; have NB404_402 := ng_ hg BK402; have NB403_404 := nl_ hg BK403; have NB404_403 := ng_ hg BK403; replace BK402 := bb_ BK402 hb; replace BK403 := bb_ BK403 hb; replace HB := bst_ HB hb; clear hb hbox hg; obtain ⟨hnb37, hnc37⟩ := nn_ NB402_403; obtain ⟨hnb38, hnc38⟩ := nn_ NB402_404; obtain ⟨hcz39_0, hcz39_1, hcz39_2⟩ := bcs3_ BK402) | ((with_reducible refine gate_dst (N := 10) rfl ?_); refine goesL_ (some 10) rfl rfl Try.func8 (by kernel_rfl) rfl #[.agg #[.slice A0_0 l0_0.length c0_0, .slice A0_1 l0_1.length c0_1, .slice A0_2 l0_2.length c0_2]] rfl tm_ ?_; (with_reducible refine (impl_GoodPair.calls k _ _ l0_0 _ _ l0_1 _ _ l0_2 true _ ?side1 ?side2 ?side3 ?side4 ?side5 ?side6 A3.out).mono ?_); (case side1 => exact cb_ HR0_0 HB); (case side2 => exact HC0_0.out); (case side3 => exact cb_ HR0_1 HB); (case side4 => exact HC0_1.out); (case side5 => exact cb_ HR0_2 HB); (case side6 => exact HC0_2.out); rintro e w40 ⟨rfl, hb⟩; refine ⟨_, rfl, ?_⟩; replace BK402 := bb_ BK402 hb; replace BK403 := bb_ BK403 hb; replace BK404 := bb_ BK404 hb; replace HB := bst_ HB hb; clear hb; obtain ⟨hcz41_0, hcz41_1, hcz41_2⟩ := bcs3_ BK402) | ((with_reducible refine gate_dst (N := 14) rfl ?_); refine goesL_ (some 14) rfl rfl Try.func20 (by kernel_rfl) rfl #[.agg #[.slice A0_0 l0_0.length c0_0, .slice A0_1 l0_1.length c0_1, .slice A0_2 l0_2.length c0_2]] rfl tm_ ?_; (with_reducible refine (impl_Pair_own.calls _ _ l0_0 _ _ l0_1 _ _ l0_2 t406 t409 t412 _ ?side1 ?side2 ?side3 ?side4 ?side5 ?side6 A5.out).mono ?_); (case side1 => exact cb_ HR0_0 HB); (case side2 => exact HC0_0.out); (case side3 => exact cb_ HR0_1 HB); (case side4 => exact HC0_1.out); (case side5 => exact cb_ HR0_2 HB); (case side6 => exact HC0_2.out); rintro e w42 ⟨v407, v410, v413, rfl, ho0, ho1, ho2, hb⟩; refine ⟨_, rfl, ?_⟩; have HO408 := Aside0.mk (Kd.R_lower ho0 (below_size (hB HB))); have HO411 := Aside0.mk (Kd.R_lower ho1 (below_size (hB HB))); have HO414 := Aside0.mk (Kd.R_lower ho2 (below_size (hB HB))); replace BK402 := bb_ BK402 hb; replace BK403 := bb_ BK403 hb; replace BK404 := bb_ BK404 hb; replace HB := bst_ HB hb; clear hb ho0 ho1 ho2) | ((with_reducible refine gate_dst (N := 6) rfl ?_); (try (refine gate_guard (by rfl) ?_; dsimp only)); refine bx_ev 6 #[.slice none 0 0, .slice none 0 0, .slice none 0 0] 26 ?_; intro gb415 hg w43 hbox hb; have BK415 := Aside0.mk (hbox); have GW415 := gw_ hg HB; have GE415 := gw_ hg HB; have NB402_415 := nl_ hg BK402; have NB415_402 := ng_ hg BK402; have NB403_415 := nl_ hg BK403; have NB415_403 := ng_ hg BK403; have NB404_415 := nl_ hg BK404; have NB415_404 := ng_ hg BK404; replace HO408 := rb_ HO408 hb; replace HO411 := rb_ HO411 hb; replace HO414 := rb_ HO414 hb; replace BK402 := bb_ BK402 hb; replace BK403 := bb_ BK403 hb; replace BK404 := bb_ BK404 hb; replace HB := bst_ HB hb; clear hb hbox hg; obtain ⟨Ao44, co44, eo44⟩ := Kd.R_slice HO408.out; subst eo44; obtain ⟨hnb45, hnc45⟩ := nn_ NB415_402; obtain ⟨hnb46, hnc46⟩ := nn_ NB415_403; obtain ⟨hnb47, hnc47⟩ := nn_ NB415_404; obtain ⟨hcz48_0, hcz48_1, hcz48_2⟩ := bcs3_ BK415; obtain ⟨hfz48_0, hfz48_1, hfz48_2⟩ := bz3_ BK415; obtain ⟨Ao49, co49, eo49⟩ := Kd.R_slice HO411.out; subst eo49; obtain ⟨Ao50, co50, eo50⟩ := Kd.R_slice HO414.out; subst eo50; obtain ⟨hnb51, hnc51⟩ := nn_ NB403_404; obtain ⟨hcz52_0, hcz52_1⟩ := bcs2_ BK403) | ((with_reducible refine gate_dst (N := 22) rfl ?_); refine goesL_ (some 22) rfl rfl Try.func21 (by kernel_rfl) rfl #[.int .i64 a1_1, .int .i64 0, .int .i64 1] rfl tm_ ?_; (with_reducible refine (impl_in.calls a1_1 0 1 true _ A7.out).mono ?_); rintro e w' ⟨rfl, ⟨nd, rfl⟩⟩; refine ⟨_, rfl, ?_⟩; obtain ⟨hcz53_0, hcz53_1, hcz53_2⟩ := bcs3_ BK402))
  have n0_ : Aside0 (Kd.R (Kd.int .i64) 3 (((w43.setCell ⟨gb415, 0, none⟩ (.slice Ao44 t406.length co44)).setCell ⟨gb415, 1, none⟩ (.slice Ao49 t409.length co49)).setCell ⟨gb415, 2, none⟩ (.slice Ao50 t412.length co50)) w.heap.size (fun k_ => no_ (.slice Ao49 t409.length co49) k_) (.slice Ao44 t406.length co44) t406) := ⟨ro_ (fs3_ HO408.out BK415.out) (fun _ hk => hk.1)⟩
  have n1_ : Aside0 (Kd.R (Kd.int .i64) 3 (((w43.setCell ⟨gb415, 0, none⟩ (.slice Ao44 t406.length co44)).setCell ⟨gb415, 1, none⟩ (.slice Ao49 t409.length co49)).setCell ⟨gb415, 2, none⟩ (.slice Ao50 t412.length co50)) w.heap.size (fun k_ => no_ (.slice Ao44 t406.length co44) k_) (.slice Ao49 t409.length co49) t409) := ⟨ro_ (fs3_ HO411.out BK415.out) (fun _ hk => hk.1)⟩
  have n2_ : Aside0 (Kd.R k36 36 (((w43.setCell ⟨gb415, 0, none⟩ (.slice Ao44 t406.length co44)).setCell ⟨gb415, 1, none⟩ (.slice Ao49 t409.length co49)).setCell ⟨gb415, 2, none⟩ (.slice Ao50 t412.length co50)) w.heap.size (fun _ => True) (.slice Ao50 t412.length co50) t412) := ⟨ro_ (fs3_ HO414.out BK415.out) (fun _ hk => trivial)⟩
  have n3_ : Aside0 ((((w43.setCell ⟨gb415, 0, none⟩ (.slice Ao44 t406.length co44)).setCell ⟨gb415, 1, none⟩ (.slice Ao49 t409.length co49)).setCell ⟨gb415, 2, none⟩ (.slice Ao50 t412.length co50)).heap[gb402]? = some (.cells #[.slice A0_0 l0_0.length c0_0, .slice A0_1 l0_1.length c0_1, .slice A0_2 l0_2.length c0_2] 26 (0, 0))) := ⟨bw1_ BK402 NB402_415⟩
  have n4_ : Aside0 ((((w43.setCell ⟨gb415, 0, none⟩ (.slice Ao44 t406.length co44)).setCell ⟨gb415, 1, none⟩ (.slice Ao49 t409.length co49)).setCell ⟨gb415, 2, none⟩ (.slice Ao50 t412.length co50)).heap[gb403]? = some (.cells #[.int .i64 a1_0, .int .i64 a1_1] 28 (0, 0))) := ⟨bw1_ BK403 NB403_415⟩
  have n5_ : Aside0 ((((w43.setCell ⟨gb415, 0, none⟩ (.slice Ao44 t406.length co44)).setCell ⟨gb415, 1, none⟩ (.slice Ao49 t409.length co49)).setCell ⟨gb415, 2, none⟩ (.slice Ao50 t412.length co50)).heap[gb404]? = some (.cells #[.slice none 0 0, .slice none 0 0, .slice none 0 0] 26 (0, 0))) := ⟨bw1_ BK404 NB404_415⟩
  have n6_ : Aside0 ((((w43.setCell ⟨gb415, 0, none⟩ (.slice Ao44 t406.length co44)).setCell ⟨gb415, 1, none⟩ (.slice Ao49 t409.length co49)).setCell ⟨gb415, 2, none⟩ (.slice Ao50 t412.length co50)).heap[gb415]? = some (.cells #[.slice Ao44 t406.length co44, .slice Ao49 t409.length co49, .slice Ao50 t412.length co50] 26 (0, 0))) := ⟨bw0_ BK415⟩
  have n7_ : Aside0 (Below w.heap.size w (((w43.setCell ⟨gb415, 0, none⟩ (.slice Ao44 t406.length co44)).setCell ⟨gb415, 1, none⟩ (.slice Ao49 t409.length co49)).setCell ⟨gb415, 2, none⟩ (.slice Ao50 t412.length co50))) := ⟨hB HB⟩
  (try clear HO408)
  (try clear HO411)
  (try clear HO414)
  (try clear BK402)
  (try clear BK403)
  (try clear BK404)
  (try clear BK415)
  (try clear HB)
  generalize (((w43.setCell ⟨gb415, 0, none⟩ (.slice Ao44 t406.length co44)).setCell ⟨gb415, 1, none⟩ (.slice Ao49 t409.length co49)).setCell ⟨gb415, 2, none⟩ (.slice Ao50 t412.length co50)) = w54 at n0_ n1_ n2_ n3_ n4_ n5_ n6_ n7_ ⊢
  have HO408 := n0_
  have HO411 := n1_
  have HO414 := n2_
  have BK402 := n3_
  have BK403 := n4_
  have BK404 := n5_
  have BK415 := n6_
  have HB := n7_
  clear n0_ n1_ n2_ n3_ n4_ n5_ n6_ n7_
  (try (rw [drewN_self w54]; generalize hq_ : World.drewN w54 _ = w54; have n0_ : Aside0 (Kd.R (Kd.int .i64) 3 w54 w.heap.size (fun k_ => no_ (.slice Ao49 t409.length co49) k_) (.slice Ao44 t406.length co44) t406) := ⟨by rw [← hq_]; exact (ra HO408.out)⟩; have n1_ : Aside0 (Kd.R (Kd.int .i64) 3 w54 w.heap.size (fun k_ => no_ (.slice Ao44 t406.length co44) k_) (.slice Ao49 t409.length co49) t409) := ⟨by rw [← hq_]; exact (ra HO411.out)⟩; have n2_ : Aside0 (Kd.R k36 36 w54 w.heap.size (fun _ => True) (.slice Ao50 t412.length co50) t412) := ⟨by rw [← hq_]; exact (ra HO414.out)⟩; have n3_ : Aside0 (w54.heap[gb402]? = some (.cells #[.slice A0_0 l0_0.length c0_0, .slice A0_1 l0_1.length c0_1, .slice A0_2 l0_2.length c0_2] 26 (0, 0))) := ⟨by rw [← hq_]; exact (ba BK402.out)⟩; have n4_ : Aside0 (w54.heap[gb403]? = some (.cells #[.int .i64 a1_0, .int .i64 a1_1] 28 (0, 0))) := ⟨by rw [← hq_]; exact (ba BK403.out)⟩; have n5_ : Aside0 (w54.heap[gb404]? = some (.cells #[.slice none 0 0, .slice none 0 0, .slice none 0 0] 26 (0, 0))) := ⟨by rw [← hq_]; exact (ba BK404.out)⟩; have n6_ : Aside0 (w54.heap[gb415]? = some (.cells #[.slice Ao44 t406.length co44, .slice Ao49 t409.length co49, .slice Ao50 t412.length co50] 26 (0, 0))) := ⟨by rw [← hq_]; exact (ba BK415.out)⟩; have n7_ : Aside0 (Below w.heap.size w w54) := ⟨by rw [← hq_]; exact (hB HB)⟩; clear HO408 HO411 HO414 BK402 BK403 BK404 BK415 HB hq_; have HO408 := n0_; have HO411 := n1_; have HO414 := n2_; have BK402 := n3_; have BK403 := n4_; have BK404 := n5_; have BK415 := n6_; have HB := n7_; clear n0_ n1_ n2_ n3_ n4_ n5_ n6_ n7_))
  replace HO408 := rd_ HO408
  replace HO411 := rd_ HO411
  replace HO414 := rd_ HO414
  replace BK402 := bd_ BK402
  replace BK403 := bd_ BK403
  replace BK404 := bd_ BK404
  replace BK415 := bd_ BK415
  replace HB := Aside0.mk (below_drew1 HB.out)
  have p417 : 0 ≤ (a1_1 : Int) := od_
  have q417 : a1_1 < (l0_0.length : Int) := od_
  obtain ⟨ad417, e417, hx417_0⟩ := Kd.at_int HR0_0.out a1_1 p417 q417
  have hw417_0 := hx417_0
  cases e417
  replace hx417_0 := hc_ HB hx417_0
  replace p417 := eq_true p417
  replace q417 := eq_true q417
  refine start_ (n := 16) (S := fun w' => w'.cell? ⟨gb415, 0, none⟩ = some (.slice Ao44 t406.length co44) ∧ w'.cell? ⟨gb415, 1, none⟩ = some (.slice Ao49 t409.length co49) ∧ w'.cell? ⟨gb415, 2, none⟩ = some (.slice Ao50 t412.length co50) ∧ w'.cell? ⟨gb403, 0, none⟩ = some (.int .i64 a1_0) ∧ w'.cell? ⟨gb403, 1, none⟩ = some (.int .i64 a1_1) ∧ w'.cell? ⟨gb402, 0, none⟩ = some (.slice (some ad417) l0_0.length c0_0) ∧ w'.cell? ⟨gb402, 1, none⟩ = some (.slice A0_1 l0_1.length c0_1) ∧ w'.cell? ⟨gb402, 2, none⟩ = some (.slice A0_2 l0_2.length c0_2) ∧ w'.cell? (ad417.add (a1_1).toNat) = some (.int .i64 (rd l0_0 a1_1))) (ds := [15]) (bs 16 0) (by kernel_rfl) rfl rfl ⟨bc_ BK415 0, bc_ BK415 1, bc_ BK415 2, bc_ BK403 0, bc_ BK403 1, bc_ BK402 0, bc_ BK402 1, bc_ BK402 2, ((HB.out.cell (World.block_lt_of_cell? w _ hw417_0)).trans hw417_0)⟩ (fun hHeld => ?_); refine with_tabW impl_StepPair.tab9 impl_StepPair.bits9 (fun HT_ HW_ => ?_)
  generalize w54.drew = w55 at HO408 HO411 HO414 BK402 BK403 BK404 BK415 HB hx417_0 hHeld ⊢
  refine pu_ 0 31 (bs 16 1) HT_ ?_
  refine pu_ 2 33 (bs 16 5) HT_ ?_
  refine pu_ 4 35 (bs 16 21) HT_ ?_
  refine pu_ 6 37 (bs 16 85) HT_ ?_
  refine tk_ 1 32 (bs 16 87) HT_ HW_ hHeld ?_
  refine tk_ 3 34 (bs 16 95) HT_ HW_ hHeld ?_
  refine tk_ 5 36 (bs 16 127) HT_ HW_ hHeld ?_
  refine tk_ 7 38 (bs 16 255) HT_ HW_ hHeld ?_
  refine pu_ 8 39 (bs 16 511) HT_ ?_
  refine tk_ 9 40 (bs 16 1023) HT_ HW_ hHeld ?_
  refine pu_ 10 41 (bs 16 2047) HT_ ?_
  refine pu_ 11 42 (bs 16 4095) HT_ ?_
  refine on_ 12 (some 43) (bs 16 8191) HT_ (fun K hK => ?_)
  refine value_ (w1 := ?_) (v := ?_) (by rfl) rfl ?_ ?_
  rotate_left 2
  ·go_simp
   constructor
   ·rfl
   ·rfl
  refine hK.out _ _ ⟨(blk_cell (blk_alloc BK415.out _) 0).trans rfl, (blk_cell (blk_alloc BK415.out _) 1).trans rfl, (blk_cell (blk_alloc BK415.out _) 2).trans rfl, (blk_cell (blk_alloc BK403.out _) 0).trans rfl, (blk_cell (blk_alloc BK403.out _) 1).trans rfl, (blk_cell (blk_alloc BK402.out _) 0).trans rfl, (blk_cell (blk_alloc BK402.out _) 1).trans rfl, (blk_cell (blk_alloc BK402.out _) 2).trans rfl, (World.cell?_alloc_lt _ _ _ (World.block_lt_of_cell? _ _ (((HB.out.cell (World.block_lt_of_cell? w _ hw417_0)).trans hw417_0)))).trans (((HB.out.cell (World.block_lt_of_cell? w _ hw417_0)).trans hw417_0))⟩ (fun hHeld => ?_)
  clear hK K
  refine nm_ 43 ?_
  refine on_ 13 (some 44) (bs 16 16383) HT_ (fun K hK => ?_)
  refine Kd.R_append_step k36 (w0 := w) w.heap.size (by rfl) (.tmp 32) (.tmp 43) 24 36 (.agg #[(.int .i64 0), (.bool false)]) 16 rfl Try.underlying24 info36 rfl (by decide) (by omega) (.slice Ao50 t412.length co50) t412 (⟨a1_1, ((rd l0_0 a1_1) != 0)⟩ : S36) [.int .i64 a1_1, .bool ((rd l0_0 a1_1) != 0)] (fun _ => True) (fun _ => False) rfl rfl ?aP (fun _ hk => hk.elim) ?aF ?aO ?aB ?aS ?aL ?_
  (case aP => exact k36_mkM _ _ _ (⟨a1_1, ((rd l0_0 a1_1) != 0)⟩ : S36))
  (case aB => exact (hB HB))
  (case aF => exact (fun _ _ => trivial))
  (case aO => exact (ra HO414.out))
  (case aS => exact (below_size (hB HB)))
  (case aL => have := LMc33.out; omega)
  intro v419 w56 ho hb hg hat
  rw [← Ny418.out] at ho
  have HO420 := Aside0.mk (ho)
  replace BK402 := Aside0.mk (blk_grown (g := gb402) (o := .cells #[.slice (some ad417) l0_0.length c0_0, .slice A0_1 l0_1.length c0_1, .slice A0_2 l0_2.length c0_2] 26 (0, 0)) (ba BK402.out) hg (Kd.R_ne HO414.out BK402.out (by decide)))
  replace BK403 := Aside0.mk (blk_grown (g := gb403) (o := .cells #[.int .i64 a1_0, .int .i64 a1_1] 28 (0, 0)) (ba BK403.out) hg (Kd.R_ne HO414.out BK403.out (by decide)))
  replace BK404 := Aside0.mk (blk_grown (g := gb404) (o := .cells #[.slice none 0 0, .slice none 0 0, .slice none 0 0] 26 (0, 0)) (ba BK404.out) hg (Kd.R_ne HO414.out BK404.out (by decide)))
  replace HO408 := Aside0.mk (Kd.R_over' (ra HO408.out) (Kd.R_typed (ra HO414.out)) (by decide) hg)
  replace HO411 := Aside0.mk (Kd.R_over' (ra HO411.out) (Kd.R_typed (ra HO414.out)) (by decide) hg)
  replace BK415 := Aside0.mk (blk_grown (g := gb415) (o := .cells #[.slice Ao44 t406.length co44, .slice Ao49 t409.length co49, .slice Ao50 t412.length co50] 26 (0, 0)) (ba BK415.out) hg (Kd.R_ne HO414.out BK415.out (by decide)))
  replace HB := Aside0.mk (hb)
  clear HO414
  clear ho hb hg hat
  obtain ⟨Ao57, co57, eo57⟩ := Kd.R_slice HO420.out
  subst eo57
  refine hK.out _ _ ⟨bc_ BK415 0, bc_ BK415 1, bc_ BK415 2, bc_ BK403 0, bc_ BK403 1, bc_ BK402 0, bc_ BK402 1, bc_ BK402 2, ((HB.out.cell (World.block_lt_of_cell? w _ hw417_0)).trans hw417_0)⟩ (fun hHeld => ?_)
  clear hK K
  refine nm_ 44 ?_
  refine pu_ 14 45 (bs 16 32767) HT_ ?_
  refine last_ (i := 15) (N := none) (bs 16 65535) rfl rfl (one_of HT_.out (by kernel_rfl)) (by decide) (fun K hK => ?_)
  have hs58 : w56.cell? ⟨gb415, 2, none⟩ = some (.slice Ao50 t412.length co50) := bc_ BK415 2
  have hfs58 := bz_ BK415 2
  have hns58_0 := NB402_415.out
  have hns58_1 := NB403_415.out
  have hns58_2 := NB404_415.out
  have hms58_0 := NB415_402.out
  have hms58_1 := NB415_403.out
  have hms58_2 := NB415_404.out
  refine skip_ (w1 := ?_) (by rfl) rfl ?_ ?_
  rotate_left
  ·go_simp
   rfl
  refine hK.out _ _ ?_
  clear hK K
  refine done_ (done_of HT_.out (by kernel_rfl)) ?_
  obtain ⟨hcz59_0, hcz59_1, hcz59_2⟩ := bcs3_ BK415
  obtain ⟨hfz59_0, hfz59_1, hfz59_2⟩ := bz3_ BK415
  obtain ⟨hcz60_0, hcz60_1, hcz60_2⟩ := bcs3_ BK404
  obtain ⟨hfz60_0, hfz60_1, hfz60_2⟩ := bz3_ BK404
  try go_wp2
  refine bodyPost_ret (results_ct rfl _ _ gb404 26 #[.slice Ao44 t406.length co44, .slice Ao49 t409.length co49, .slice Ao57 y418.length co57] (0, 0) _ rfl (bw1_ BK404 NB404_415) Try.underlying26 rfl (by kernel_rfl)) rfl ?_
  exact ⟨_, _, _, rt_, ro_ (Kd.R_far (p := ⟨gb404, 2, none⟩) (Kd.R_far (p := ⟨gb404, 1, none⟩) (Kd.R_far (p := ⟨gb404, 0, none⟩) (Kd.R_far (p := ⟨gb415, 2, none⟩) (Kd.R_types (Kd.R_types HO408.out BK415.out (by decide)) BK404.out (by decide)) (fun _ hk => hk.1.2) (.slice Ao57 y418.length co57)) (fun _ hk => hk.2) (.slice Ao44 t406.length co44)) (fun _ hk => hk.2) (.slice Ao49 t409.length co49)) (fun _ hk => hk.2) (.slice Ao57 y418.length co57)) (fun _ hk => hk.1.1), ro_ (Kd.R_far (p := ⟨gb404, 2, none⟩) (Kd.R_far (p := ⟨gb404, 1, none⟩) (Kd.R_far (p := ⟨gb404, 0, none⟩) (Kd.R_far (p := ⟨gb415, 2, none⟩) (Kd.R_types (Kd.R_types HO411.out BK415.out (by decide)) BK404.out (by decide)) (fun _ hk => hk.1.2) (.slice Ao57 y418.length co57)) (fun _ hk => hk.2) (.slice Ao44 t406.length co44)) (fun _ hk => hk.2) (.slice Ao49 t409.length co49)) (fun _ hk => hk.2) (.slice Ao57 y418.length co57)) (fun _ hk => hk.1.1), ro_ (Kd.R_far (p := ⟨gb404, 2, none⟩) (Kd.R_far (p := ⟨gb404, 1, none⟩) (Kd.R_far (p := ⟨gb404, 0, none⟩) (Kd.R_far (p := ⟨gb415, 2, none⟩) (Kd.R_types (Kd.R_types HO420.out BK415.out (by decide)) BK404.out (by decide)) (fun _ hk => hk.1.2) (.slice Ao57 y418.length co57)) (fun _ hk => hk.2) (.slice Ao44 t406.length co44)) (fun _ hk => hk.2) (.slice Ao49 t409.length co49)) (fun _ hk => hk.2) (.slice Ao57 y418.length co57)) (fun _ hk => trivial), hB HB⟩
 rw [if_neg c6] at H
 have c6b0 : (a1_0 == 1) = false := beq_eq_false_iff_ne.mpr c6
 have c6b1 : (a1_0 != 1) = true := bne_iff_ne.mpr c6
 have HC81 := Aside0.mk H
 clear H
 go_enter Try.func5, Try.ntmps5
 go_upto_if 46 with (first | ((with_reducible refine gate_dst (N := 2) rfl ?_); (try (refine gate_guard (by rfl) ?_; dsimp only)); refine bx_ev 2 #[.slice A0_0 l0_0.length c0_0, .slice A0_1 l0_1.length c0_1, .slice A0_2 l0_2.length c0_2] 26 ?_; intro gb402 hg w82 hbox hb; have BK402 := Aside0.mk (hbox); have GW402 := gw_ hg HB; have GE402 := gw_ hg HB; replace HB := bst_ HB hb; clear hb hbox hg) | ((with_reducible refine gate_dst (N := 3) rfl ?_); (try (refine gate_guard (by rfl) ?_; dsimp only)); refine bx_ev 3 #[.int .i64 a1_0, .int .i64 a1_1] 28 ?_; intro gb403 hg w83 hbox hb; have BK403 := Aside0.mk (hbox); have GW403 := gw_ hg HB; have GE403 := gw_ hg HB; have NB402_403 := nl_ hg BK402; have NB403_402 := ng_ hg BK402; replace BK402 := bb_ BK402 hb; replace HB := bst_ HB hb; clear hb hbox hg) | ((with_reducible refine gate_dst (N := 4) rfl ?_); (try (refine gate_guard (by rfl) ?_; dsimp only)); refine bx_ev 4 #[.slice none 0 0, .slice none 0 0, .slice none 0 0] 26 ?_; intro gb404 hg w84 hbox hb; have BK404 := Aside0.mk (hbox); have GW404 := gw_ hg HB; have GE404 := gw_ hg HB; have NB402_404 := nl_ hg BK402; have NB404_402 := ng_ hg BK402; have NB403_404 := nl_ hg BK403; have NB404_403 := ng_ hg BK403; replace BK402 := bb_ BK402 hb; replace BK403 := bb_ BK403 hb; replace HB := bst_ HB hb; clear hb hbox hg; obtain ⟨hnb85, hnc85⟩ := nn_ NB402_403; obtain ⟨hnb86, hnc86⟩ := nn_ NB402_404; obtain ⟨hcz87_0, hcz87_1, hcz87_2⟩ := bcs3_ BK402) | ((with_reducible refine gate_dst (N := 10) rfl ?_); refine goesL_ (some 10) rfl rfl Try.func8 (by kernel_rfl) rfl #[.agg #[.slice A0_0 l0_0.length c0_0, .slice A0_1 l0_1.length c0_1, .slice A0_2 l0_2.length c0_2]] rfl tm_ ?_; (with_reducible refine (impl_GoodPair.calls k _ _ l0_0 _ _ l0_1 _ _ l0_2 true _ ?side1 ?side2 ?side3 ?side4 ?side5 ?side6 A3.out).mono ?_); (case side1 => exact cb_ HR0_0 HB); (case side2 => exact HC0_0.out); (case side3 => exact cb_ HR0_1 HB); (case side4 => exact HC0_1.out); (case side5 => exact cb_ HR0_2 HB); (case side6 => exact HC0_2.out); rintro e w88 ⟨rfl, hb⟩; refine ⟨_, rfl, ?_⟩; replace BK402 := bb_ BK402 hb; replace BK403 := bb_ BK403 hb; replace BK404 := bb_ BK404 hb; replace HB := bst_ HB hb; clear hb; obtain ⟨hcz89_0, hcz89_1, hcz89_2⟩ := bcs3_ BK402) | ((with_reducible refine gate_dst (N := 14) rfl ?_); refine goesL_ (some 14) rfl rfl Try.func20 (by kernel_rfl) rfl #[.agg #[.slice A0_0 l0_0.length c0_0, .slice A0_1 l0_1.length c0_1, .slice A0_2 l0_2.length c0_2]] rfl tm_ ?_; (with_reducible refine (impl_Pair_own.calls _ _ l0_0 _ _ l0_1 _ _ l0_2 t406 t409 t412 _ ?side1 ?side2 ?side3 ?side4 ?side5 ?side6 A5.out).mono ?_); (case side1 => exact cb_ HR0_0 HB); (case side2 => exact HC0_0.out); (case side3 => exact cb_ HR0_1 HB); (case side4 => exact HC0_1.out); (case side5 => exact cb_ HR0_2 HB); (case side6 => exact HC0_2.out); rintro e w90 ⟨v407, v410, v413, rfl, ho0, ho1, ho2, hb⟩; refine ⟨_, rfl, ?_⟩; have HO408 := Aside0.mk (Kd.R_lower ho0 (below_size (hB HB))); have HO411 := Aside0.mk (Kd.R_lower ho1 (below_size (hB HB))); have HO414 := Aside0.mk (Kd.R_lower ho2 (below_size (hB HB))); replace BK402 := bb_ BK402 hb; replace BK403 := bb_ BK403 hb; replace BK404 := bb_ BK404 hb; replace HB := bst_ HB hb; clear hb ho0 ho1 ho2) | ((with_reducible refine gate_dst (N := 6) rfl ?_); (try (refine gate_guard (by rfl) ?_; dsimp only)); refine bx_ev 6 #[.slice none 0 0, .slice none 0 0, .slice none 0 0] 26 ?_; intro gb415 hg w91 hbox hb; have BK415 := Aside0.mk (hbox); have GW415 := gw_ hg HB; have GE415 := gw_ hg HB; have NB402_415 := nl_ hg BK402; have NB415_402 := ng_ hg BK402; have NB403_415 := nl_ hg BK403; have NB415_403 := ng_ hg BK403; have NB404_415 := nl_ hg BK404; have NB415_404 := ng_ hg BK404; replace HO408 := rb_ HO408 hb; replace HO411 := rb_ HO411 hb; replace HO414 := rb_ HO414 hb; replace BK402 := bb_ BK402 hb; replace BK403 := bb_ BK403 hb; replace BK404 := bb_ BK404 hb; replace HB := bst_ HB hb; clear hb hbox hg; obtain ⟨Ao92, co92, eo92⟩ := Kd.R_slice HO408.out; subst eo92; obtain ⟨hnb93, hnc93⟩ := nn_ NB415_402; obtain ⟨hnb94, hnc94⟩ := nn_ NB415_403; obtain ⟨hnb95, hnc95⟩ := nn_ NB415_404; obtain ⟨hcz96_0, hcz96_1, hcz96_2⟩ := bcs3_ BK415; obtain ⟨hfz96_0, hfz96_1, hfz96_2⟩ := bz3_ BK415; obtain ⟨Ao97, co97, eo97⟩ := Kd.R_slice HO411.out; subst eo97; obtain ⟨Ao98, co98, eo98⟩ := Kd.R_slice HO414.out; subst eo98; obtain ⟨hnb99, hnc99⟩ := nn_ NB403_404; obtain ⟨hcz100_0, hcz100_1⟩ := bcs2_ BK403))
 (try simp only [Act.put, List.setIfInBounds_toArray, List.set_cons_zero, List.set_cons_succ])
 go_cut [46] (fun v46 wc => ∃ (kq : Nat) (x46_80 : Bool), v46 = .bool x46_80 ∧ Aside0 (impl_StepPair.j0 kq a1_0 x46_80 l0_0 l0_1 l0_2 a1_0 a1_1 t406 t409 t412 = some (r1, r2, r3, r4)) ∧ Aside0 (kq ≤ k) ∧ Aside0 (Kd.R (Kd.int .i64) 3 wc w.heap.size (fun k_ => no_ (.slice Ao97 t409.length co97) k_) (.slice Ao92 t406.length co92) t406) ∧ Aside0 (Kd.R (Kd.int .i64) 3 wc w.heap.size (fun k_ => no_ (.slice Ao92 t406.length co92) k_) (.slice Ao97 t409.length co97) t409) ∧ Aside0 (Kd.R k36 36 wc w.heap.size (fun _ => True) (.slice Ao98 t412.length co98) t412) ∧ Aside0 (wc.heap[gb402]? = some (.cells #[(.slice A0_0 l0_0.length c0_0), (.slice A0_1 l0_1.length c0_1), (.slice A0_2 l0_2.length c0_2)] 26 (0, 0))) ∧ Aside0 (wc.heap[gb403]? = some (.cells #[.int .i64 a1_0, .int .i64 a1_1] 28 (0, 0))) ∧ Aside0 (wc.heap[gb404]? = some (.cells #[(.slice none 0 0), (.slice none 0 0), (.slice none 0 0)] 26 (0, 0))) ∧ Aside0 (wc.heap[gb415]? = some (.cells #[(.slice Ao92 t406.length co92), (.slice Ao97 t409.length co97), (.slice Ao98 t412.length co98)] 26 (0, 0))) ∧ Aside0 (Below w.heap.size w wc))
 case first =>
  have H := HC81.out
  clear HC81
  by_cases c101 : a1_0 = 2
  rotate_left
  ·rw [if_neg c101] at H
   have c101b0 : (a1_0 == 2) = false := beq_eq_false_iff_ne.mpr c101
   have c101b1 : (a1_0 != 2) = true := bne_iff_ne.mpr c101
   (first | rw [c101b0] | (simp only [i64_w, i32_w]; rw [c101b0]) | skip)
   have H' := Aside0.mk H
   clear H
   go_wp2
   go_meet
   case rel => exact ⟨_, ((a1_0 == 3)), (by first | rfl | (simp; done) | (simp [*]; done)), H', ⟨by first | omega | exact Nat.le_refl _⟩, ⟨ro_ (fs3_ HO408.out BK415.out) (fun _ hk => hk.1)⟩, ⟨ro_ (fs3_ HO411.out BK415.out) (fun _ hk => hk.1)⟩, ⟨ro_ (fs3_ HO414.out BK415.out) (fun _ hk => trivial)⟩, ⟨bw1_ BK402 NB402_415⟩, ⟨bw1_ BK403 NB403_415⟩, ⟨bw1_ BK404 NB404_415⟩, ⟨bw0_ BK415⟩, ⟨hB HB⟩⟩
  rw [if_pos c101] at H
  have c101b0 : (a1_0 == 2) = true := beq_iff_eq.mpr c101
  have c101b1 : (a1_0 != 2) = false := bne_eq_false_iff_eq.mpr c101
  clear c101
  (first | rw [c101b0] | (simp only [i64_w, i32_w]; rw [c101b0]) | skip)
  have H' := Aside0.mk H
  clear H
  go_wp2
  go_meet
  case rel => exact ⟨_, ((a1_0 == 2)), (by first | rfl | (simp; done) | (simp [*]; done)), H', ⟨by first | omega | exact Nat.le_refl _⟩, ⟨ro_ (fs3_ HO408.out BK415.out) (fun _ hk => hk.1)⟩, ⟨ro_ (fs3_ HO411.out BK415.out) (fun _ hk => hk.1)⟩, ⟨ro_ (fs3_ HO414.out BK415.out) (fun _ hk => trivial)⟩, ⟨bw1_ BK402 NB402_415⟩, ⟨bw1_ BK403 NB403_415⟩, ⟨bw1_ BK404 NB404_415⟩, ⟨bw0_ BK415⟩, ⟨hB HB⟩⟩
 case rest =>
  clear HC81
  try clear c4
  try clear c6
  try clear c6b0
  try clear c6b1
  try clear hcz100_0
  try clear hcz100_1
  try clear hcz87_0
  try clear hcz87_1
  try clear hcz87_2
  try clear hcz89_0
  try clear hcz89_1
  try clear hcz89_2
  try clear hcz96_0
  try clear hcz96_1
  try clear hcz96_2
  try clear hfz100_0
  try clear hfz100_1
  try clear hfz87_0
  try clear hfz87_1
  try clear hfz87_2
  try clear hfz89_0
  try clear hfz89_1
  try clear hfz89_2
  try clear hfz96_0
  try clear hfz96_1
  try clear hfz96_2
  obtain ⟨kq, x46_80, rfl, HA, HJ80, HO_416000, HO_416001, HO_416002, BK402, BK403, BK404, BK415, HB⟩ := hcut
  cases kq with
  | zero => exact absurd HA.out (by simp [impl_StepPair.j0])
  | succ kj80 =>
   have H := HA.out
   clear HA
   simp only [impl_StepPair.j0] at H
   by_cases c102 : x46_80 = true
   rotate_left
   ·replace c102 := Bool.eq_false_iff.mpr c102
    subst c102
    rw [if_neg (show ¬ (false = true) by decide)] at H
    by_cases c178 : a1_0 = 4
    rotate_left
    ·rw [if_neg c178] at H
     have c178b0 : (a1_0 == 4) = false := beq_eq_false_iff_ne.mpr c178
     have c178b1 : (a1_0 != 4) = true := bne_iff_ne.mpr c178
     simp only [Option.some.injEq, Prod.mk.injEq] at H
     obtain ⟨rfl, rfl, rfl, rfl⟩ := H
     obtain ⟨hnb236, hnc236⟩ := nn_ NB404_402
     obtain ⟨hnb237, hnc237⟩ := nn_ NB404_403
     obtain ⟨hnb238, hnc238⟩ := nn_ NB404_415
     obtain ⟨hcz239_0, hcz239_1, hcz239_2⟩ := bcs3_ BK404
     obtain ⟨hfz239_0, hfz239_1, hfz239_2⟩ := bz3_ BK404
     go_wp2
     refine bodyPost_ret (results_ct rfl _ _ gb404 26 #[.slice none 0 0, .slice none 0 0, .slice none 0 0] (0, 0) _ rfl (bw0_ BK404) Try.underlying26 rfl (by kernel_rfl)) rfl ?_
     exact ⟨_, _, _, rt_, by first | exact Kd.R_nil _ _ _ _ _ | exact Kd.N_nil _ _ _ _ _ | exact Kd.V_nil _ _ _ _ _ | exact Kd.Q_nil _ _ _ _ _ | exact Kd.S_nil _ _ _ _ _, by first | exact Kd.R_nil _ _ _ _ _ | exact Kd.N_nil _ _ _ _ _ | exact Kd.V_nil _ _ _ _ _ | exact Kd.Q_nil _ _ _ _ _ | exact Kd.S_nil _ _ _ _ _, by first | exact Kd.R_nil _ _ _ _ _ | exact Kd.N_nil _ _ _ _ _ | exact Kd.V_nil _ _ _ _ _ | exact Kd.Q_nil _ _ _ _ _ | exact Kd.S_nil _ _ _ _ _, hB HB⟩
    rw [if_pos c178] at H
    have c178b0 : (a1_0 == 4) = true := beq_iff_eq.mpr c178
    have c178b1 : (a1_0 != 4) = false := bne_eq_false_iff_eq.mpr c178
    clear c178
    by_cases c179 : a1_1 = 0
    rotate_left
    ·rw [if_neg c179] at H
     have c179b0 : (a1_1 == 0) = false := beq_eq_false_iff_ne.mpr c179
     have c179b1 : (a1_1 != 0) = true := bne_iff_ne.mpr c179
     simp only [Option.some.injEq, Prod.mk.injEq] at H
     obtain ⟨rfl, rfl, rfl, rfl⟩ := H
     obtain ⟨hnb229, hnc229⟩ := nn_ NB403_402
     obtain ⟨hnb230, hnc230⟩ := nn_ NB403_404
     obtain ⟨hnb231, hnc231⟩ := nn_ NB403_415
     obtain ⟨hcz232_0, hcz232_1⟩ := bcs2_ BK403
     obtain ⟨hfz232_0, hfz232_1⟩ := bz2_ BK403
     obtain ⟨hnb233, hnc233⟩ := nn_ NB404_402
     obtain ⟨hnb234, hnc234⟩ := nn_ NB404_415
     obtain ⟨hcz235_0, hcz235_1, hcz235_2⟩ := bcs3_ BK404
     obtain ⟨hfz235_0, hfz235_1, hfz235_2⟩ := bz3_ BK404
     go_wp2
     refine bodyPost_ret (results_ct rfl _ _ gb404 26 #[.slice none 0 0, .slice none 0 0, .slice none 0 0] (0, 0) _ rfl (bw0_ BK404) Try.underlying26 rfl (by kernel_rfl)) rfl ?_
     exact ⟨_, _, _, rt_, by first | exact Kd.R_nil _ _ _ _ _ | exact Kd.N_nil _ _ _ _ _ | exact Kd.V_nil _ _ _ _ _ | exact Kd.Q_nil _ _ _ _ _ | exact Kd.S_nil _ _ _ _ _, by first | exact Kd.R_nil _ _ _ _ _ | exact Kd.N_nil _ _ _ _ _ | exact Kd.V_nil _ _ _ _ _ | exact Kd.Q_nil _ _ _ _ _ | exact Kd.S_nil _ _ _ _ _, by first | exact Kd.R_nil _ _ _ _ _ | exact Kd.N_nil _ _ _ _ _ | exact Kd.V_nil _ _ _ _ _ | exact Kd.Q_nil _ _ _ _ _ | exact Kd.S_nil _ _ _ _ _, hB HB⟩
    rw [if_pos c179] at H
    have c179b0 : (a1_1 == 0) = true := beq_iff_eq.mpr c179
    have c179b1 : (a1_1 != 0) = false := bne_eq_false_iff_eq.mpr c179
    clear c179
    have H' := Aside0.mk H
    clear H
    obtain ⟨hnb180, hnc180⟩ := nn_ NB403_402
    obtain ⟨hnb181, hnc181⟩ := nn_ NB403_404
    obtain ⟨hnb182, hnc182⟩ := nn_ NB403_415
    obtain ⟨hcz183_0, hcz183_1⟩ := bcs2_ BK403
    obtain ⟨hfz183_0, hfz183_1⟩ := bz2_ BK403
    obtain ⟨hnb184, hnc184⟩ := nn_ NB415_402
    obtain ⟨hnb185, hnc185⟩ := nn_ NB415_404
    obtain ⟨hcz186_0, hcz186_1, hcz186_2⟩ := bcs3_ BK415
    obtain ⟨hfz186_0, hfz186_1, hfz186_2⟩ := bz3_ BK415
    go_wp2
    go_loopg [100] kj80 (fun kq v100 w' => ∃ (x100_2 : Int) (x416000_2 : List Int) (x416001_2 : List Int) (u416000 : Value) (u416001 : Value), v100 = .int .i64 x100_2 ∧ Aside0 (impl_StepPair.l0 kq (t406.length : Int) x100_2 x416000_2 x416001_2 t412 = some (r1, r2, r3, r4)) ∧ Aside0 (kq ≤ kj80) ∧ Aside0 (Kd.R (Kd.int .i64) 3 w' w.heap.size (fun k_ => some k_ ≠ (u416001 : Value).ownBlock) u416000 x416000_2) ∧ Aside0 (Kd.R (Kd.int .i64) 3 w' w.heap.size (fun k_ => some k_ ≠ (u416000 : Value).ownBlock) u416001 x416001_2) ∧ Aside0 (Kd.R k36 36 w' w.heap.size (fun _ => True) (.slice Ao98 t412.length co98) t412) ∧ Aside0 (w'.heap[gb402]? = some (.cells #[(.slice A0_0 l0_0.length c0_0), (.slice A0_1 l0_1.length c0_1), (.slice A0_2 l0_2.length c0_2)] 26 (0, 0))) ∧ Aside0 (w'.heap[gb403]? = some (.cells #[.int .i64 a1_0, .int .i64 a1_1] 28 (0, 0))) ∧ Aside0 (w'.heap[gb404]? = some (.cells #[(.slice none 0 0), (.slice none 0 0), (.slice none 0 0)] 26 (0, 0))) ∧ Aside0 (w'.heap[gb415]? = some (.cells #[u416000, u416001, (.slice Ao98 t412.length co98)] 26 (0, 0))) ∧ Aside0 (Below w.heap.size w w'))
    case atStart => exact ⟨(0), (t406), (t409), (.slice Ao92 t406.length co92), (.slice Ao97 t409.length co97), (by first | rfl | (simp; done) | (simp [*]; done)), H', ⟨Nat.le_refl _⟩, ⟨ra HO_416000.out⟩, ⟨ra HO_416001.out⟩, ⟨ra HO_416002.out⟩, ⟨bw0_ BK402⟩, ⟨bw0_ BK403⟩, ⟨bw0_ BK404⟩, ⟨bw0_ BK415⟩, ⟨hB HB⟩⟩
    case round =>
     clear H'
     try clear c4
     try clear c6
     try clear c6b0
     try clear c6b1
     try clear c102
     try clear c178
     try clear c178b0
     try clear c178b1
     try clear c179
     try clear c179b0
     try clear c179b1
     try clear hcz100_0
     try clear hcz100_1
     try clear hcz183_0
     try clear hcz183_1
     try clear hcz186_0
     try clear hcz186_1
     try clear hcz186_2
     try clear hcz87_0
     try clear hcz87_1
     try clear hcz87_2
     try clear hcz89_0
     try clear hcz89_1
     try clear hcz89_2
     try clear hcz96_0
     try clear hcz96_1
     try clear hcz96_2
     try clear hfz100_0
     try clear hfz100_1
     try clear hfz183_0
     try clear hfz183_1
     try clear hfz186_0
     try clear hfz186_1
     try clear hfz186_2
     try clear hfz87_0
     try clear hfz87_1
     try clear hfz87_2
     try clear hfz89_0
     try clear hfz89_1
     try clear hfz89_2
     try clear hfz96_0
     try clear hfz96_1
     try clear hfz96_2
     obtain ⟨x100_2, x416000_2, x416001_2, u416000, u416001, rfl, HA, HK2, HO_416000, HO_416001, HO_416002, BK402, BK403, BK404, BK415, HB⟩ := hrel
     cases gk with
     | zero => exact absurd HA.out (by simp [impl_StepPair.l0])
     | succ k2 =>
      have H := HA.out
      clear HA
      simp only [impl_StepPair.l0] at H
      by_cases c187 : x100_2 < (t406.length : Int)
      rotate_left
      ·rw [if_neg c187] at H
       have c187b0 : decide (x100_2 < (t406.length : Int)) = false := decide_eq_false c187
       clear c187
       simp only [Option.some.injEq, Prod.mk.injEq] at H
       obtain ⟨rfl, rfl, rfl, rfl⟩ := H
       obtain ⟨hnb220, hnc220⟩ := nn_ NB415_402
       obtain ⟨hnb221, hnc221⟩ := nn_ NB415_403
       obtain ⟨hnb222, hnc222⟩ := nn_ NB415_404
       obtain ⟨hcz223_0, hcz223_1, hcz223_2⟩ := bcs3_ BK415
       obtain ⟨hfz223_0, hfz223_1, hfz223_2⟩ := bz3_ BK415
       obtain ⟨Ao224, co224, eo224⟩ := Kd.R_slice HO_416000.out
       subst eo224
       obtain ⟨hnb225, hnc225⟩ := nn_ NB404_402
       obtain ⟨hnb226, hnc226⟩ := nn_ NB404_403
       obtain ⟨hcz227_0, hcz227_1, hcz227_2⟩ := bcs3_ BK404
       obtain ⟨hfz227_0, hfz227_1, hfz227_2⟩ := bz3_ BK404
       obtain ⟨Ao228, co228, eo228⟩ := Kd.R_slice HO_416001.out
       subst eo228
       go_wp2
       refine bodyPost_ret (results_ct rfl _ _ gb404 26 #[.slice Ao224 x416000_2.length co224, .slice Ao228 x416001_2.length co228, .slice Ao98 t412.length co98] (0, 0) _ rfl (bw0_ BK404) Try.underlying26 rfl (by kernel_rfl)) rfl ?_
       exact ⟨_, _, _, rt_, ro_ (fs3_ HO_416000.out BK404.out) (fun _ hk => hk.1), ro_ (fs3_ HO_416001.out BK404.out) (fun _ hk => hk.1), ro_ (fs3_ HO_416002.out BK404.out) (fun _ hk => trivial), hB HB⟩
      rw [if_pos c187] at H
      have c187b0 : decide (x100_2 < (t406.length : Int)) = true := decide_eq_true c187
      clear c187
      by_cases c188 : 0 ≤ x100_2
      rotate_left
      ·rw [if_neg c188] at H
       exact absurd H (by simp)
      rw [if_pos c188] at H
      have c188b0 : decide (0 ≤ x100_2) = true := decide_eq_true c188
      clear c188
      by_cases c189 : x100_2 < (x416000_2.length : Int)
      rotate_left
      ·rw [if_neg c189] at H
       exact absurd H (by simp)
      rw [if_pos c189] at H
      have c189b0 : decide (x100_2 < (x416000_2.length : Int)) = true := decide_eq_true c189
      clear c189
      by_cases c190 : (rd x416000_2 x100_2) = 0
      ·rw [if_pos c190] at H
       have c190b0 : ((rd x416000_2 x100_2) == 0) = true := beq_iff_eq.mpr c190
       have c190b1 : ((rd x416000_2 x100_2) != 0) = false := bne_eq_false_iff_eq.mpr c190
       clear c190
       have H' := Aside0.mk H
       clear H
       obtain ⟨hnb191, hnc191⟩ := nn_ NB415_402
       obtain ⟨hnb192, hnc192⟩ := nn_ NB415_403
       obtain ⟨hnb193, hnc193⟩ := nn_ NB415_404
       obtain ⟨hcz194_0, hcz194_1, hcz194_2⟩ := bcs3_ BK415
       obtain ⟨hfz194_0, hfz194_1, hfz194_2⟩ := bz3_ BK415
       obtain ⟨Ao195, co195, eo195⟩ := Kd.R_slice HO_416000.out
       subst eo195
       have p430 : 0 ≤ (x100_2 : Int) := od_
       have q430 : x100_2 < (x416000_2.length : Int) := od_
       obtain ⟨ad430, e430, hx430_0⟩ := Kd.at_int (Kd.R_reads' HO_416000.out).2.2 x100_2 p430 q430
       cases e430
       replace p430 := eq_true p430
       replace q430 := eq_true q430
       go_wp2
       go_roundg k2
       case measure => have := HJ80.out; have := HK2.out; omega
       case rel => exact ⟨(wrap64 (x100_2 + 1)), (x416000_2), (x416001_2), (.slice (some ad430) x416000_2.length co195), (u416001), (by first | rfl | (simp; done) | (simp [*]; done)), H', ⟨by have := HJ80.out; have := HK2.out; omega⟩, ⟨ra HO_416000.out⟩, ⟨ra HO_416001.out⟩, ⟨ra HO_416002.out⟩, ⟨bw0_ BK402⟩, ⟨bw0_ BK403⟩, ⟨bw0_ BK404⟩, ⟨bw0_ BK415⟩, ⟨hB HB⟩⟩
      rw [if_neg c190] at H
      have c190b0 : ((rd x416000_2 x100_2) == 0) = false := beq_eq_false_iff_ne.mpr c190
      have c190b1 : ((rd x416000_2 x100_2) != 0) = true := bne_iff_ne.mpr c190
      by_cases c196 : x100_2 < (x416001_2.length : Int)
      rotate_left
      ·rw [if_neg c196] at H
       exact absurd H (by simp)
      rw [if_pos c196] at H
      have c196b0 : decide (x100_2 < (x416001_2.length : Int)) = true := decide_eq_true c196
      clear c196
      obtain ⟨y432, hy432⟩ : ∃ y_ : List Int, y_ = (x416001_2.set (x100_2 : Int).toNat (wrap64 ((rd x416001_2 x100_2) - 1))) := ⟨_, rfl⟩
      replace H : (if (rd y432 x100_2) = 0 then (impl_StepPair.l0 k2 (t406.length : Int) (wrap64 (x100_2 + 1)) (x416000_2.set (x100_2 : Int).toNat 0) y432 t412) else (impl_StepPair.l0 k2 (t406.length : Int) (wrap64 (x100_2 + 1)) x416000_2 y432 t412)) = some (r1, r2, r3, r4) := by first | (rw [hy432]; with_reducible exact H) | (have H2_ := (Option.bind_some _ _).symm.trans H; rw [hy432]; with_reducible exact H2_) | (have H2_ := (Option.bind_some _ _).symm.trans H; with_reducible exact H2_) | with_reducible exact H | (rw [hy432]; exact H) | exact H
      have Ny432 := Aside0.mk hy432
      clear hy432
      by_cases c198 : (rd y432 x100_2) = 0
      rotate_left
      ·rw [if_neg c198] at H
       have c198b0 : ((rd y432 x100_2) == 0) = false := beq_eq_false_iff_ne.mpr c198
       have c198b1 : ((rd y432 x100_2) != 0) = true := bne_iff_ne.mpr c198
       have H' := Aside0.mk H
       clear H
       obtain ⟨hnb211, hnc211⟩ := nn_ NB415_402
       obtain ⟨hnb212, hnc212⟩ := nn_ NB415_403
       obtain ⟨hnb213, hnc213⟩ := nn_ NB415_404
       obtain ⟨hcz214_0, hcz214_1, hcz214_2⟩ := bcs3_ BK415
       obtain ⟨hfz214_0, hfz214_1, hfz214_2⟩ := bz3_ BK415
       obtain ⟨Ao215, co215, eo215⟩ := Kd.R_slice HO_416000.out
       subst eo215
       have p430 : 0 ≤ (x100_2 : Int) := od_
       have q430 : x100_2 < (x416000_2.length : Int) := od_
       obtain ⟨ad430, e430, hx430_0⟩ := Kd.at_int (Kd.R_reads' HO_416000.out).2.2 x100_2 p430 q430
       cases e430
       replace p430 := eq_true p430
       replace q430 := eq_true q430
       obtain ⟨Ao216, co216, eo216⟩ := Kd.R_slice HO_416001.out
       subst eo216
       have p431 : 0 ≤ (x100_2 : Int) := od_
       have q431 : x100_2 < (x416001_2.length : Int) := od_
       obtain ⟨ad431, e431, hx431_0⟩ := Kd.at_int (Kd.R_reads' HO_416001.out).2.2 x100_2 p431 q431
       cases e431
       replace p431 := eq_true p431
       replace q431 := eq_true q431
       have p197 : 0 ≤ (x100_2 : Int) := od_
       have q197 : (x100_2 : Int) < ((x416001_2.length : Int) : Int) := od_
       obtain ⟨go197, co197, eo197, gb197, gl197, cl197, HG197⟩ := Kd.R_form HO_416001.out (by omega)
       (first | cases eo197 | (injection eo197 with ea_ en_ ec_; (first | subst ea_ | (injection ea_ with ea_; subst ea_)); subst ec_; clear en_))
       have GB197 := Aside0.mk gb197
       have GG197 := Aside0.mk HG197
       clear gb197 gl197 HG197
       (first | simp only [add_plain] at hx431_0 | skip)
       obtain ⟨hx197_0, hf197_0⟩ := Kd.R_celln 0 HO_416001.out (x100_2 : Int) p197 q197
       replace p197 := eq_true p197
       replace q197 := eq_true q197
       have HP217 := Kd.R_putg HO_416001.out (x100_2 : Int) (wrap64 ((rd x416001_2 x100_2) - 1))
       go_wp2_with (first | ((with_reducible refine gate_store (t := 3) (p := 115) rfl ?_); refine store_event (t := 3) (p := 115) (v := ?vo_w218) (w1 := (wr.setCell ⟨go197, (x100_2 : Int).toNat, none⟩ (.int .i64 (wrap64 ((rd x416001_2 x100_2) - 1))))) ?hg ?ho ?hn ?hr ?_; (case ho => rfl); (case hg => rfl); (case hn => rfl); (case hr => first | (go_simp; done) | (go_simp; rfl)); intro w218 hw; have hg : wr.grownBy w218 (some go197) := (by rw [hw]; exact HP217.2); have hp_ : Kd.R (Kd.int .i64) 3 w218 w.heap.size (fun k_ => some k_ ≠ (.slice (some ad430) x416000_2.length co215 : Value).ownBlock) (.slice (some ⟨go197, 0, none⟩) x416001_2.length co216) y432 := (by rw [hw, Ny432.out]; exact HP217.1); clear HP217; replace HO_416000 := Aside0.mk (Kd.R_after (v := (.slice (some ⟨go197, 0, none⟩) x416001_2.length co216)) (v1 := (.slice (some ⟨go197, 0, none⟩) x416001_2.length co216)) (ok := (fun _ => True)) (rm_ HO_416000 (fun _ hk => ⟨trivial, hk⟩)).out hg (.inl rfl)); replace HO_416002 := Aside0.mk (Kd.R_over' (v := (.slice (some ⟨go197, 0, none⟩) x416001_2.length co216)) (ra HO_416002.out) (Kd.R_typed HO_416001.out) (by decide) hg); replace BK402 := Aside0.mk (blk_grown (g := gb402) (o := .cells #[.slice A0_0 l0_0.length c0_0, .slice A0_1 l0_1.length c0_1, .slice A0_2 l0_2.length c0_2] 26 (0, 0)) (ba BK402.out) hg (Kd.R_ne HO_416001.out BK402.out (by decide))); replace BK403 := Aside0.mk (blk_grown (g := gb403) (o := .cells #[.int .i64 a1_0, .int .i64 a1_1] 28 (0, 0)) (ba BK403.out) hg (Kd.R_ne HO_416001.out BK403.out (by decide))); replace BK404 := Aside0.mk (blk_grown (g := gb404) (o := .cells #[.slice none 0 0, .slice none 0 0, .slice none 0 0] 26 (0, 0)) (ba BK404.out) hg (Kd.R_ne HO_416001.out BK404.out (by decide))); replace BK415 := Aside0.mk (blk_grown (g := gb415) (o := .cells #[.slice (some ad430) x416000_2.length co215, .slice (some ⟨go197, 0, none⟩) x416001_2.length co216, .slice Ao98 t412.length co98] 26 (0, 0)) (ba BK415.out) hg (Kd.R_ne HO_416001.out BK415.out (by decide))); replace HO_416001 := Aside0.mk (hp_); replace HB := Aside0.mk ((by rw [hw]; exact below_set (HB.out) GB197.out : Below w.heap.size w w218)); clear hg hw hp_; obtain ⟨hcz219_0, hcz219_1, hcz219_2⟩ := bcs3_ BK415; obtain ⟨hfz219_0, hfz219_1, hfz219_2⟩ := bz3_ BK415; have p433 : 0 ≤ (x100_2 : Int) := od_; have q433 : x100_2 < (y432.length : Int) := (by have h_ : (x100_2 : Int) < ((x416001_2.length : Int) : Int) := od_; first | (have e_ := (Kd.R_reads' HO_416001.out).1; omega) | simpa only [Ny432.out, List.length_set] using h_); have ql433 : ((x100_2 : Int) < ((x416001_2.length : Int) : Int)) = True := eq_true (od_); obtain ⟨ad433, e433, hx433_0⟩ := Kd.at_int (Kd.R_reads' HO_416001.out).2.2 x100_2 p433 q433; obtain rfl : (⟨go197, 0, none⟩ : Addr) = ad433 := (by injection e433); (first | simp only [add_plain] at hx433_0 | simp only [add_at] at hx433_0 | simp only [Addr.add, Nat.zero_add] at hx433_0 | skip); replace p433 := eq_true p433; replace q433 := eq_true q433))
       go_roundg k2
       case measure => have := HJ80.out; have := HK2.out; omega
       case rel => exact ⟨(wrap64 (x100_2 + 1)), (x416000_2), (y432), (.slice (some ad430) x416000_2.length co215), (.slice (some ⟨go197, 0, none⟩) x416001_2.length co216), (by first | rfl | (simp; done) | (simp [*]; done)), H', ⟨by have := HJ80.out; have := HK2.out; omega⟩, rm_ HO_416000 (fun _ hk => hk.2), ⟨ra HO_416001.out⟩, ⟨ra HO_416002.out⟩, ⟨bw0_ BK402⟩, ⟨bw0_ BK403⟩, ⟨bw0_ BK404⟩, ⟨bw0_ BK415⟩, ⟨hB HB⟩⟩
      rw [if_pos c198] at H
      have c198b0 : ((rd y432 x100_2) == 0) = true := beq_iff_eq.mpr c198
      have c198b1 : ((rd y432 x100_2) != 0) = false := bne_eq_false_iff_eq.mpr c198
      clear c198
      obtain ⟨y434, hy434⟩ : ∃ y_ : List Int, y_ = (x416000_2.set (x100_2 : Int).toNat 0) := ⟨_, rfl⟩
      replace H : (impl_StepPair.l0 k2 (t406.length : Int) (wrap64 (x100_2 + 1)) y434 y432 t412) = some (r1, r2, r3, r4) := by first | (rw [hy434]; with_reducible exact H) | (have H2_ := (Option.bind_some _ _).symm.trans H; rw [hy434]; with_reducible exact H2_) | (have H2_ := (Option.bind_some _ _).symm.trans H; with_reducible exact H2_) | with_reducible exact H | (rw [hy434]; exact H) | exact H
      have Ny434 := Aside0.mk hy434
      clear hy434
      have H' := Aside0.mk H
      clear H
      obtain ⟨hnb200, hnc200⟩ := nn_ NB415_402
      obtain ⟨hnb201, hnc201⟩ := nn_ NB415_403
      obtain ⟨hnb202, hnc202⟩ := nn_ NB415_404
      obtain ⟨hcz203_0, hcz203_1, hcz203_2⟩ := bcs3_ BK415
      obtain ⟨hfz203_0, hfz203_1, hfz203_2⟩ := bz3_ BK415
      obtain ⟨Ao204, co204, eo204⟩ := Kd.R_slice HO_416000.out
      subst eo204
      have p430 : 0 ≤ (x100_2 : Int) := od_
      have q430 : x100_2 < (x416000_2.length : Int) := od_
      obtain ⟨ad430, e430, hx430_0⟩ := Kd.at_int (Kd.R_reads' HO_416000.out).2.2 x100_2 p430 q430
      cases e430
      replace p430 := eq_true p430
      replace q430 := eq_true q430
      obtain ⟨Ao205, co205, eo205⟩ := Kd.R_slice HO_416001.out
      subst eo205
      have p431 : 0 ≤ (x100_2 : Int) := od_
      have q431 : x100_2 < (x416001_2.length : Int) := od_
      obtain ⟨ad431, e431, hx431_0⟩ := Kd.at_int (Kd.R_reads' HO_416001.out).2.2 x100_2 p431 q431
      cases e431
      replace p431 := eq_true p431
      replace q431 := eq_true q431
      have p197 : 0 ≤ (x100_2 : Int) := od_
      have q197 : (x100_2 : Int) < ((x416001_2.length : Int) : Int) := od_
      obtain ⟨go197, co197, eo197, gb197, gl197, cl197, HG197⟩ := Kd.R_form HO_416001.out (by omega)
      (first | cases eo197 | (injection eo197 with ea_ en_ ec_; (first | subst ea_ | (injection ea_ with ea_; subst ea_)); subst ec_; clear en_))
      have GB197 := Aside0.mk gb197
      have GG197 := Aside0.mk HG197
      clear gb197 gl197 HG197
      (first | simp only [add_plain] at hx431_0 | skip)
      obtain ⟨hx197_0, hf197_0⟩ := Kd.R_celln 0 HO_416001.out (x100_2 : Int) p197 q197
      replace p197 := eq_true p197
      replace q197 := eq_true q197
      have HP206 := Kd.R_putg HO_416001.out (x100_2 : Int) (wrap64 ((rd x416001_2 x100_2) - 1))
      go_wp2_with (first | ((with_reducible refine gate_store (t := 3) (p := 115) rfl ?_); refine store_event (t := 3) (p := 115) (v := ?vo_w207) (w1 := (wr.setCell ⟨go197, (x100_2 : Int).toNat, none⟩ (.int .i64 (wrap64 ((rd x416001_2 x100_2) - 1))))) ?hg ?ho ?hn ?hr ?_; (case ho => rfl); (case hg => rfl); (case hn => rfl); (case hr => first | (go_simp; done) | (go_simp; rfl)); intro w207 hw; have hg : wr.grownBy w207 (some go197) := (by rw [hw]; exact HP206.2); have hp_ : Kd.R (Kd.int .i64) 3 w207 w.heap.size (fun k_ => some k_ ≠ (.slice (some ad430) x416000_2.length co204 : Value).ownBlock) (.slice (some ⟨go197, 0, none⟩) x416001_2.length co205) y432 := (by rw [hw, Ny432.out]; exact HP206.1); clear HP206; replace HO_416000 := Aside0.mk (Kd.R_after (v := (.slice (some ⟨go197, 0, none⟩) x416001_2.length co205)) (v1 := (.slice (some ⟨go197, 0, none⟩) x416001_2.length co205)) (ok := (fun _ => True)) (rm_ HO_416000 (fun _ hk => ⟨trivial, hk⟩)).out hg (.inl rfl)); replace HO_416002 := Aside0.mk (Kd.R_over' (v := (.slice (some ⟨go197, 0, none⟩) x416001_2.length co205)) (ra HO_416002.out) (Kd.R_typed HO_416001.out) (by decide) hg); replace BK402 := Aside0.mk (blk_grown (g := gb402) (o := .cells #[.slice A0_0 l0_0.length c0_0, .slice A0_1 l0_1.length c0_1, .slice A0_2 l0_2.length c0_2] 26 (0, 0)) (ba BK402.out) hg (Kd.R_ne HO_416001.out BK402.out (by decide))); replace BK403 := Aside0.mk (blk_grown (g := gb403) (o := .cells #[.int .i64 a1_0, .int .i64 a1_1] 28 (0, 0)) (ba BK403.out) hg (Kd.R_ne HO_416001.out BK403.out (by decide))); replace BK404 := Aside0.mk (blk_grown (g := gb404) (o := .cells #[.slice none 0 0, .slice none 0 0, .slice none 0 0] 26 (0, 0)) (ba BK404.out) hg (Kd.R_ne HO_416001.out BK404.out (by decide))); replace BK415 := Aside0.mk (blk_grown (g := gb415) (o := .cells #[.slice (some ad430) x416000_2.length co204, .slice (some ⟨go197, 0, none⟩) x416001_2.length co205, .slice Ao98 t412.length co98] 26 (0, 0)) (ba BK415.out) hg (Kd.R_ne HO_416001.out BK415.out (by decide))); replace HO_416001 := Aside0.mk (hp_); replace HB := Aside0.mk ((by rw [hw]; exact below_set (HB.out) GB197.out : Below w.heap.size w w207)); clear hg hw hp_; obtain ⟨hcz208_0, hcz208_1, hcz208_2⟩ := bcs3_ BK415; obtain ⟨hfz208_0, hfz208_1, hfz208_2⟩ := bz3_ BK415; have p433 : 0 ≤ (x100_2 : Int) := od_; have q433 : x100_2 < (y432.length : Int) := (by have h_ : (x100_2 : Int) < ((x416001_2.length : Int) : Int) := od_; first | (have e_ := (Kd.R_reads' HO_416001.out).1; omega) | simpa only [Ny432.out, List.length_set] using h_); have ql433 : ((x100_2 : Int) < ((x416001_2.length : Int) : Int)) = True := eq_true (od_); obtain ⟨ad433, e433, hx433_0⟩ := Kd.at_int (Kd.R_reads' HO_416001.out).2.2 x100_2 p433 q433; obtain rfl : (⟨go197, 0, none⟩ : Addr) = ad433 := (by injection e433); (first | simp only [add_plain] at hx433_0 | simp only [add_at] at hx433_0 | simp only [Addr.add, Nat.zero_add] at hx433_0 | skip); replace p433 := eq_true p433; replace q433 := eq_true q433; have p199 : 0 ≤ (x100_2 : Int) := od_; have q199 : (x100_2 : Int) < ((x416000_2.length : Int) : Int) := od_; obtain ⟨go199, co199, eo199, gb199, gl199, cl199, HG199⟩ := Kd.R_form HO_416000.out (by omega); (first | cases eo199 | (injection eo199 with ea_ en_ ec_; (first | subst ea_ | (injection ea_ with ea_; subst ea_)); subst ec_; clear en_)); have GB199 := Aside0.mk gb199; have GG199 := Aside0.mk HG199; clear gb199 gl199 HG199; (first | simp only [add_plain] at hx430_0 | skip); obtain ⟨hx199_0, hf199_0⟩ := Kd.R_celln 0 HO_416000.out (x100_2 : Int) p199 q199; replace p199 := eq_true p199; replace q199 := eq_true q199; have n_ := Aside0.mk (Kd.R_mono (ok' := (fun k_ => some k_ ≠ (.slice (some ⟨go197, 0, none⟩) x416001_2.length co205 : Value).ownBlock)) HO_416000.out (fun k_ hk => hk.2)); clear HO_416000; have HO_416000 := n_; clear n_; obtain ⟨hy209_, hz209_⟩ := Kd.R_celln 0 HO_416000.out (x100_2 : Int) (od_) (od_); have HP209 := Kd.R_putg HO_416000.out (x100_2 : Int) 0) | ((with_reducible refine gate_store (t := 3) (p := 125) rfl ?_); refine store_event (t := 3) (p := 125) (v := ?vo_w210) (w1 := (w207.setCell ⟨go199, (x100_2 : Int).toNat, none⟩ (.int .i64 0))) ?hg ?ho ?hn ?hr ?_; (case ho => rfl); (case hg => rfl); (case hn => rfl); (case hr => first | (go_simp; done) | (go_simp; rfl)); intro w210 hw; have hg : w207.grownBy w210 (some go199) := (by rw [hw]; exact HP209.2); have hp_ : Kd.R (Kd.int .i64) 3 w210 w.heap.size (fun k_ => some k_ ≠ (.slice (some ⟨go197, 0, none⟩) x416001_2.length co205 : Value).ownBlock) (.slice (some ⟨go199, 0, none⟩) x416000_2.length co204) y434 := (by rw [hw, Ny434.out]; exact HP209.1); clear HP209; replace HO_416001 := Aside0.mk (Kd.R_after (v := (.slice (some ⟨go199, 0, none⟩) x416000_2.length co204)) (v1 := (.slice (some ⟨go199, 0, none⟩) x416000_2.length co204)) (ok := (fun _ => True)) (rm_ HO_416001 (fun _ hk => ⟨trivial, hk⟩)).out hg (.inl rfl)); replace HO_416002 := Aside0.mk (Kd.R_over' (v := (.slice (some ⟨go199, 0, none⟩) x416000_2.length co204)) (ra HO_416002.out) (Kd.R_typed HO_416000.out) (by decide) hg); replace BK402 := Aside0.mk (blk_grown (g := gb402) (o := .cells #[.slice A0_0 l0_0.length c0_0, .slice A0_1 l0_1.length c0_1, .slice A0_2 l0_2.length c0_2] 26 (0, 0)) (ba BK402.out) hg (Kd.R_ne HO_416000.out BK402.out (by decide))); replace BK403 := Aside0.mk (blk_grown (g := gb403) (o := .cells #[.int .i64 a1_0, .int .i64 a1_1] 28 (0, 0)) (ba BK403.out) hg (Kd.R_ne HO_416000.out BK403.out (by decide))); replace BK404 := Aside0.mk (blk_grown (g := gb404) (o := .cells #[.slice none 0 0, .slice none 0 0, .slice none 0 0] 26 (0, 0)) (ba BK404.out) hg (Kd.R_ne HO_416000.out BK404.out (by decide))); replace BK415 := Aside0.mk (blk_grown (g := gb415) (o := .cells #[.slice (some ⟨go199, 0, none⟩) x416000_2.length co204, .slice (some ⟨go197, 0, none⟩) x416001_2.length co205, .slice Ao98 t412.length co98] 26 (0, 0)) (ba BK415.out) hg (Kd.R_ne HO_416000.out BK415.out (by decide))); replace HO_416000 := Aside0.mk (hp_); replace HB := Aside0.mk ((by rw [hw]; exact below_set (HB.out) GB199.out : Below w.heap.size w w210)); clear hg hw hp_))
      go_roundg k2
      case measure => have := HJ80.out; have := HK2.out; omega
      case rel => exact ⟨(wrap64 (x100_2 + 1)), (y434), (y432), (.slice (some ⟨go199, 0, none⟩) x416000_2.length co204), (.slice (some ⟨go197, 0, none⟩) x416001_2.length co205), (by first | rfl | (simp; done) | (simp [*]; done)), H', ⟨by have := HJ80.out; have := HK2.out; omega⟩, ⟨ra HO_416000.out⟩, rm_ HO_416001 (fun _ hk => hk.2), ⟨ra HO_416002.out⟩, ⟨bw0_ BK402⟩, ⟨bw0_ BK403⟩, ⟨bw0_ BK404⟩, ⟨bw0_ BK415⟩, ⟨hB HB⟩⟩
   subst c102
   rw [if_pos rfl] at H
   replace H := Option.bind_eq_some_iff.mp H
   obtain ⟨t421, A1030, H⟩ := H
   replace H : (if t421 = true then (if 0 ≤ a1_1 then (if a1_1 < (l0_2.length : Int) then ((impl_Hello_22.f t412 a1_1 (wrap64 (a1_1 + 1))).bind fun t424 => (if a1_0 = 2 then ((impl_nextState.f ((rd_T36 l0_2 a1_1).f1)).bind fun t427 => (if 0 ≤ (wrap64 (1 - ((rd_T36 l0_2 a1_1).f0))) then (if (wrap64 (1 - ((rd_T36 l0_2 a1_1).f0))) < (t406.length : Int) then (if (wrap64 (1 - ((rd_T36 l0_2 a1_1).f0))) < (t409.length : Int) then (some ((t406.set ((wrap64 (1 - ((rd_T36 l0_2 a1_1).f0))) : Int).toNat t427), (t409.set ((wrap64 (1 - ((rd_T36 l0_2 a1_1).f0))) : Int).toNat 3), t424, true)) else (none)) else (none)) else (none))) else (some (t406, t409, t424, true)))) else (none)) else (none)) else (some (([] : List Int), ([] : List Int), ([] : List (S36)), false))) = some (r1, r2, r3, r4) := H
   have A103 := Aside0.mk A1030
   clear A1030
   by_cases c104 : t421 = true
   rotate_left
   ·replace c104 := Bool.eq_false_iff.mpr c104
    subst c104
    rw [if_neg (show ¬ (false = true) by decide)] at H
    simp only [Option.some.injEq, Prod.mk.injEq] at H
    obtain ⟨rfl, rfl, rfl, rfl⟩ := H
    obtain ⟨hnb169, hnc169⟩ := nn_ NB403_402
    obtain ⟨hnb170, hnc170⟩ := nn_ NB403_404
    obtain ⟨hnb171, hnc171⟩ := nn_ NB403_415
    obtain ⟨hcz172_0, hcz172_1⟩ := bcs2_ BK403
    obtain ⟨hfz172_0, hfz172_1⟩ := bz2_ BK403
    obtain ⟨hnb173, hnc173⟩ := nn_ NB402_404
    obtain ⟨hnb174, hnc174⟩ := nn_ NB402_415
    obtain ⟨hcz175_0, hcz175_1, hcz175_2⟩ := bcs3_ BK402
    obtain ⟨hfz175_0, hfz175_1, hfz175_2⟩ := bz3_ BK402
    go_wp2_with (first | ((with_reducible refine gate_dst (N := 55) rfl ?_); refine goesL_ (some 55) rfl rfl Try.func21 (by kernel_rfl) rfl #[.int .i64 a1_1, .int .i64 0, .int .i64 (wrap64 ((l0_2.length : Int) - 1))] rfl tm_ ?_; (with_reducible refine (impl_in.calls a1_1 0 (wrap64 ((l0_2.length : Int) - 1)) false _ A103.out).mono ?_); rintro e w' ⟨rfl, ⟨nd, rfl⟩⟩; refine ⟨_, rfl, ?_⟩; (try (rw [drewN_self wc]; generalize hq_ : World.drewN wc _ = wc; have n0_ : Aside0 (Kd.R (Kd.int .i64) 3 wc w.heap.size (fun k_ => no_ (.slice Ao97 t409.length co97) k_) (.slice Ao92 t406.length co92) t406) := ⟨by rw [← hq_]; exact (ra HO_416000.out)⟩; have n1_ : Aside0 (Kd.R (Kd.int .i64) 3 wc w.heap.size (fun k_ => no_ (.slice Ao92 t406.length co92) k_) (.slice Ao97 t409.length co97) t409) := ⟨by rw [← hq_]; exact (ra HO_416001.out)⟩; have n2_ : Aside0 (Kd.R k36 36 wc w.heap.size (fun _ => True) (.slice Ao98 t412.length co98) t412) := ⟨by rw [← hq_]; exact (ra HO_416002.out)⟩; have n3_ : Aside0 (wc.heap[gb402]? = some (.cells #[.slice A0_0 l0_0.length c0_0, .slice A0_1 l0_1.length c0_1, .slice A0_2 l0_2.length c0_2] 26 (0, 0))) := ⟨by rw [← hq_]; exact (ba BK402.out)⟩; have n4_ : Aside0 (wc.heap[gb403]? = some (.cells #[.int .i64 a1_0, .int .i64 a1_1] 28 (0, 0))) := ⟨by rw [← hq_]; exact (ba BK403.out)⟩; have n5_ : Aside0 (wc.heap[gb404]? = some (.cells #[.slice none 0 0, .slice none 0 0, .slice none 0 0] 26 (0, 0))) := ⟨by rw [← hq_]; exact (ba BK404.out)⟩; have n6_ : Aside0 (wc.heap[gb415]? = some (.cells #[.slice Ao92 t406.length co92, .slice Ao97 t409.length co97, .slice Ao98 t412.length co98] 26 (0, 0))) := ⟨by rw [← hq_]; exact (ba BK415.out)⟩; have n7_ : Aside0 (Below w.heap.size w wc) := ⟨by rw [← hq_]; exact (hB HB)⟩; clear HO_416000 HO_416001 HO_416002 BK402 BK403 BK404 BK415 HB hq_; have HO_416000 := n0_; have HO_416001 := n1_; have HO_416002 := n2_; have BK402 := n3_; have BK403 := n4_; have BK404 := n5_; have BK415 := n6_; have HB := n7_; clear n0_ n1_ n2_ n3_ n4_ n5_ n6_ n7_)); obtain ⟨hcz172_0, hcz172_1⟩ := bcs2_ BK403; obtain ⟨hcz175_0, hcz175_1, hcz175_2⟩ := bcs3_ BK402; obtain ⟨hnb176, hnc176⟩ := nn_ NB404_415; obtain ⟨hcz177_0, hcz177_1, hcz177_2⟩ := bcs3_ BK404; obtain ⟨hfz177_0, hfz177_1, hfz177_2⟩ := bz3_ BK404))
    refine bodyPost_ret (results_ct rfl _ _ gb404 26 #[.slice none 0 0, .slice none 0 0, .slice none 0 0] (0, 0) _ rfl (bw0_ BK404) Try.underlying26 rfl (by kernel_rfl)) rfl ?_
    exact ⟨_, _, _, rt_, by first | exact Kd.R_nil _ _ _ _ _ | exact Kd.N_nil _ _ _ _ _ | exact Kd.V_nil _ _ _ _ _ | exact Kd.Q_nil _ _ _ _ _ | exact Kd.S_nil _ _ _ _ _, by first | exact Kd.R_nil _ _ _ _ _ | exact Kd.N_nil _ _ _ _ _ | exact Kd.V_nil _ _ _ _ _ | exact Kd.Q_nil _ _ _ _ _ | exact Kd.S_nil _ _ _ _ _, by first | exact Kd.R_nil _ _ _ _ _ | exact Kd.N_nil _ _ _ _ _ | exact Kd.V_nil _ _ _ _ _ | exact Kd.Q_nil _ _ _ _ _ | exact Kd.S_nil _ _ _ _ _, hB HB⟩
   subst c104
   rw [if_pos rfl] at H
   by_cases c105 : 0 ≤ a1_1
   rotate_left
   ·rw [if_neg c105] at H
    exact absurd H (by simp)
   rw [if_pos c105] at H
   have c105b0 : decide (0 ≤ a1_1) = true := decide_eq_true c105
   clear c105
   by_cases c106 : a1_1 < (l0_2.length : Int)
   rotate_left
   ·rw [if_neg c106] at H
    exact absurd H (by simp)
   rw [if_pos c106] at H
   have c106b0 : decide (a1_1 < (l0_2.length : Int)) = true := decide_eq_true c106
   clear c106
   replace H := Option.bind_eq_some_iff.mp H
   obtain ⟨t424, A1070, H⟩ := H
   replace H : (if a1_0 = 2 then ((impl_nextState.f ((rd_T36 l0_2 a1_1).f1)).bind fun t427 => (if 0 ≤ (wrap64 (1 - ((rd_T36 l0_2 a1_1).f0))) then (if (wrap64 (1 - ((rd_T36 l0_2 a1_1).f0))) < (t406.length : Int) then (if (wrap64 (1 - ((rd_T36 l0_2 a1_1).f0))) < (t409.length : Int) then (some ((t406.set ((wrap64 (1 - ((rd_T36 l0_2 a1_1).f0))) : Int).toNat t427), (t409.set ((wrap64 (1 - ((rd_T36 l0_2 a1_1).f0))) : Int).toNat 3), t424, true)) else (none)) else (none)) else (none))) else (some (t406, t409, t424, true))) = some (r1, r2, r3, r4) := H
   have A107 := Aside0.mk A1070
   clear A1070
   by_cases c108 : a1_0 = 2
   rotate_left
   ·rw [if_neg c108] at H
    have c108b0 : (a1_0 == 2) = false := beq_eq_false_iff_ne.mpr c108
    have c108b1 : (a1_0 != 2) = true := bne_iff_ne.mpr c108
    simp only [Option.some.injEq, Prod.mk.injEq] at H
    obtain ⟨rfl, rfl, rfl, rfl⟩ := H
    obtain ⟨hnb147, hnc147⟩ := nn_ NB403_402
    obtain ⟨hnb148, hnc148⟩ := nn_ NB403_404
    obtain ⟨hnb149, hnc149⟩ := nn_ NB403_415
    obtain ⟨hcz150_0, hcz150_1⟩ := bcs2_ BK403
    obtain ⟨hfz150_0, hfz150_1⟩ := bz2_ BK403
    obtain ⟨hnb151, hnc151⟩ := nn_ NB402_404
    obtain ⟨hnb152, hnc152⟩ := nn_ NB402_415
    obtain ⟨hcz153_0, hcz153_1, hcz153_2⟩ := bcs3_ BK402
    obtain ⟨hfz153_0, hfz153_1, hfz153_2⟩ := bz3_ BK402
    go_wp2_with (first | ((with_reducible refine gate_dst (N := 55) rfl ?_); refine goesL_ (some 55) rfl rfl Try.func21 (by kernel_rfl) rfl #[.int .i64 a1_1, .int .i64 0, .int .i64 (wrap64 ((l0_2.length : Int) - 1))] rfl tm_ ?_; (with_reducible refine (impl_in.calls a1_1 0 (wrap64 ((l0_2.length : Int) - 1)) true _ A103.out).mono ?_); rintro e w' ⟨rfl, ⟨nd, rfl⟩⟩; refine ⟨_, rfl, ?_⟩; (try (rw [drewN_self wc]; generalize hq_ : World.drewN wc _ = wc; have n0_ : Aside0 (Kd.R (Kd.int .i64) 3 wc w.heap.size (fun k_ => no_ (.slice Ao97 t409.length co97) k_) (.slice Ao92 t406.length co92) t406) := ⟨by rw [← hq_]; exact (ra HO_416000.out)⟩; have n1_ : Aside0 (Kd.R (Kd.int .i64) 3 wc w.heap.size (fun k_ => no_ (.slice Ao92 t406.length co92) k_) (.slice Ao97 t409.length co97) t409) := ⟨by rw [← hq_]; exact (ra HO_416001.out)⟩; have n2_ : Aside0 (Kd.R k36 36 wc w.heap.size (fun _ => True) (.slice Ao98 t412.length co98) t412) := ⟨by rw [← hq_]; exact (ra HO_416002.out)⟩; have n3_ : Aside0 (wc.heap[gb402]? = some (.cells #[.slice A0_0 l0_0.length c0_0, .slice A0_1 l0_1.length c0_1, .slice A0_2 l0_2.length c0_2] 26 (0, 0))) := ⟨by rw [← hq_]; exact (ba BK402.out)⟩; have n4_ : Aside0 (wc.heap[gb403]? = some (.cells #[.int .i64 a1_0, .int .i64 a1_1] 28 (0, 0))) := ⟨by rw [← hq_]; exact (ba BK403.out)⟩; have n5_ : Aside0 (wc.heap[gb404]? = some (.cells #[.slice none 0 0, .slice none 0 0, .slice none 0 0] 26 (0, 0))) := ⟨by rw [← hq_]; exact (ba BK404.out)⟩; have n6_ : Aside0 (wc.heap[gb415]? = some (.cells #[.slice Ao92 t406.length co92, .slice Ao97 t409.length co97, .slice Ao98 t412.length co98] 26 (0, 0))) := ⟨by rw [← hq_]; exact (ba BK415.out)⟩; have n7_ : Aside0 (Below w.heap.size w wc) := ⟨by rw [← hq_]; exact (hB HB)⟩; clear HO_416000 HO_416001 HO_416002 BK402 BK403 BK404 BK415 HB hq_; have HO_416000 := n0_; have HO_416001 := n1_; have HO_416002 := n2_; have BK402 := n3_; have BK403 := n4_; have BK404 := n5_; have BK415 := n6_; have HB := n7_; clear n0_ n1_ n2_ n3_ n4_ n5_ n6_ n7_)); obtain ⟨hcz150_0, hcz150_1⟩ := bcs2_ BK403; obtain ⟨hcz153_0, hcz153_1, hcz153_2⟩ := bcs3_ BK402; have p422 : 0 ≤ (a1_1 : Int) := od_; have q422 : a1_1 < (l0_2.length : Int) := od_; obtain ⟨ad422, e422, hx422_0, hx422_1⟩ := at_T36 HR0_2.out a1_1 p422 q422; cases e422; replace hx422_0 := hc_ HB hx422_0; replace hx422_1 := hc_ HB hx422_1; replace p422 := eq_true p422; replace q422 := eq_true q422) | ((with_reducible refine gate_dst (N := 7) rfl ?_); (try (refine gate_guard (by rfl) ?_; dsimp only)); refine bx_ev 7 #[.int .i64 0, .bool false] 36 ?_; intro gb423 hg w154 hbox hb; have BK423 := Aside0.mk (hbox); have GW423 := gw_ hg HB; have GE423 := gw_ hg HB; have NB402_423 := nl_ hg BK402; have NB423_402 := ng_ hg BK402; have NB403_423 := nl_ hg BK403; have NB423_403 := ng_ hg BK403; have NB404_423 := nl_ hg BK404; have NB423_404 := ng_ hg BK404; have NB415_423 := nl_ hg BK415; have NB423_415 := ng_ hg BK415; replace HO_416000 := rb_ HO_416000 hb; replace HO_416001 := rb_ HO_416001 hb; replace HO_416002 := Aside0.mk (Kd.R_below (Kd.R_elderB (ra HO_416002.out) gb423 (Nat.le_of_eq hg.symm)) hb); replace BK402 := bb_ BK402 hb; replace BK403 := bb_ BK403 hb; replace BK404 := bb_ BK404 hb; replace BK415 := bb_ BK415 hb; replace HB := bst_ HB hb; clear hb hbox hg; obtain ⟨hnb155, hnc155⟩ := nn_ NB423_402; obtain ⟨hnb156, hnc156⟩ := nn_ NB423_403; obtain ⟨hnb157, hnc157⟩ := nn_ NB423_404; obtain ⟨hnb158, hnc158⟩ := nn_ NB423_415; obtain ⟨hcz159_0, hcz159_1⟩ := bcs2_ BK423; obtain ⟨hfz159_0, hfz159_1⟩ := bz2_ BK423) | ((with_reducible refine gate_store (t := 36) (p := 7) rfl ?_); refine store_event (t := 36) (p := 7) (v := ?vo_w160) (w1 := ((w154.setCell ⟨gb423, 0, none⟩ (.int .i64 ((rd_T36 l0_2 a1_1).f0))).setCell ⟨gb423, 1, none⟩ (.bool ((rd_T36 l0_2 a1_1).f1)))) ?hg ?ho ?hn ?hr ?_; (case ho => rfl); (case hg => rfl); (case hn => rfl); (case hr => first | (go_simp; done) | (go_simp; rfl)); intro w160 hw; have n0_ : Aside0 (Kd.R (Kd.int .i64) 3 w160 w.heap.size (fun k_ => no_ (.slice Ao97 t409.length co97) k_) (.slice Ao92 t406.length co92) t406) := ⟨(by rw [hw]; exact (ra (Kd.R_mono (Kd.R_far (p := ⟨gb423, 1, none⟩) (Kd.R_far (p := ⟨gb423, 0, none⟩) (Kd.R_types HO_416000.out BK423.out (by decide)) (fun _ hk => hk.2) (.int .i64 ((rd_T36 l0_2 a1_1).f0))) (fun _ hk => hk.2) (.bool ((rd_T36 l0_2 a1_1).f1))) (fun _ hk => hk.1))))⟩; have n1_ : Aside0 (Kd.R (Kd.int .i64) 3 w160 w.heap.size (fun k_ => no_ (.slice Ao92 t406.length co92) k_) (.slice Ao97 t409.length co97) t409) := ⟨(by rw [hw]; exact (ra (Kd.R_mono (Kd.R_far (p := ⟨gb423, 1, none⟩) (Kd.R_far (p := ⟨gb423, 0, none⟩) (Kd.R_types HO_416001.out BK423.out (by decide)) (fun _ hk => hk.2) (.int .i64 ((rd_T36 l0_2 a1_1).f0))) (fun _ hk => hk.2) (.bool ((rd_T36 l0_2 a1_1).f1))) (fun _ hk => hk.1))))⟩; have n2_ : Aside0 (Kd.R k36 36 w160 w.heap.size (fun k_ => k_ ≠ gb423) (.slice Ao98 t412.length co98) t412) := ⟨(by rw [hw]; exact (ra (Kd.R_mono (Kd.R_far (p := ⟨gb423, 1, none⟩) (Kd.R_far (p := ⟨gb423, 0, none⟩) (Kd.R_mono HO_416002.out (fun k_ hk => (⟨hk, hk.2⟩ : _ ∧ k_ ≠ gb423))) (fun _ hk => hk.2) (.int .i64 ((rd_T36 l0_2 a1_1).f0))) (fun _ hk => hk.2) (.bool ((rd_T36 l0_2 a1_1).f1))) (fun _ hk => hk.1.2))))⟩; have n3_ : Aside0 (w160.heap[gb402]? = some (.cells #[.slice A0_0 l0_0.length c0_0, .slice A0_1 l0_1.length c0_1, .slice (some ad422) l0_2.length c0_2] 26 (0, 0))) := ⟨(by rw [hw]; exact (bx BK402))⟩; have n4_ : Aside0 (w160.heap[gb403]? = some (.cells #[.int .i64 a1_0, .int .i64 a1_1] 28 (0, 0))) := ⟨(by rw [hw]; exact (bx BK403))⟩; have n5_ : Aside0 (w160.heap[gb404]? = some (.cells #[.slice none 0 0, .slice none 0 0, .slice none 0 0] 26 (0, 0))) := ⟨(by rw [hw]; exact (bx BK404))⟩; have n6_ : Aside0 (w160.heap[gb415]? = some (.cells #[.slice Ao92 t406.length co92, .slice Ao97 t409.length co97, .slice Ao98 t412.length co98] 26 (0, 0))) := ⟨(by rw [hw]; exact (bx BK415))⟩; have n7_ : Aside0 (w160.heap[gb423]? = some (.cells #[.int .i64 ((rd_T36 l0_2 a1_1).f0), .bool ((rd_T36 l0_2 a1_1).f1)] 36 (0, 0))) := ⟨(by rw [hw]; exact (bw0_ BK423))⟩; have n8_ : Aside0 (Below w.heap.size w w160) := ⟨(by rw [hw]; exact (hB HB))⟩; clear hw; clear HO_416000; clear HO_416001; clear HO_416002; clear BK402; clear BK403; clear BK404; clear BK415; clear BK423; clear HB; have HO_416000 := n0_; have HO_416001 := n1_; have HO_416002 := n2_; have BK402 := n3_; have BK403 := n4_; have BK404 := n5_; have BK415 := n6_; have BK423 := n7_; have HB := n8_; clear n0_ n1_ n2_ n3_ n4_ n5_ n6_ n7_ n8_; obtain ⟨hnb161, hnc161⟩ := nn_ NB415_404; obtain ⟨hcz162_0, hcz162_1, hcz162_2⟩ := bcs3_ BK415; obtain ⟨hfz162_0, hfz162_1, hfz162_2⟩ := bz3_ BK415; obtain ⟨hcz163_0, hcz163_1⟩ := bcs2_ BK403) | ((with_reducible refine gate_dst (N := 71) rfl ?_); refine goesL_ (some 71) rfl rfl Try.func22 (by kernel_rfl) rfl #[.slice Ao98 t412.length co98, .int .i64 a1_1, .int .i64 (wrap64 (a1_1 + 1))] rfl tm_ ?_; (with_reducible refine (impl_Hello_22.calls (fun k_ => some k_ = (.slice Ao98 t412.length co98 : Value).ownBlock) (.slice Ao98 t412.length co98) t412 a1_1 (wrap64 (a1_1 + 1)) t424 w _ ?side1 ?side2 A107.out).mono ?_); (case side1 => exact hB HB); (case side2 => exact Kd.R_tight rfl HO_416002.out); rintro e w164 ⟨v425, rfl, ho0, hb, hkp⟩; refine ⟨_, rfl, ?_⟩; have HO426 := Aside0.mk (Kd.R_mono (ok' := fun k_ => k_ ≠ gb423) ho0 (fun k_ hk_ => Or.elim hk_ (fun hs_ => fun e_ => (Kd.R_away HO_416002.out (fun _ hk => hk)) (by rw [← e_]; exact hs_)) (fun hn_ => (Kd.freshB (g := gb423) (o := .cells #[.int .i64 ((rd_T36 l0_2 a1_1).f0), .bool ((rd_T36 l0_2 a1_1).f1)] 36 (0, 0)) (ba BK423.out) k_ hn_)))); replace HO_416000 := Aside0.mk (Kd.R_mono (ok' := fun k_ => no_ (.slice Ao97 t409.length co97) k_) (Kd.R_keptB ((Kd.R_apart' HO_416000.out (Kd.R_typed HO_416002.out) (by decide))) hkp (fun k_ hk_ hs_ => (hk_.2) hs_)) (fun k_ hk_ => hk_.1.1)); replace HO_416001 := Aside0.mk (Kd.R_mono (ok' := fun k_ => no_ (.slice Ao92 t406.length co92) k_) (Kd.R_keptB ((Kd.R_apart' HO_416001.out (Kd.R_typed HO_416002.out) (by decide))) hkp (fun k_ hk_ hs_ => (hk_.2) hs_)) (fun k_ hk_ => hk_.1.1)); replace BK402 := Aside0.mk (blk_kept (ba BK402.out) hkp (fun hs_ => (fun e_ => (Kd.R_ne HO_416002.out BK402.out (by decide)) e_) hs_)); replace BK403 := Aside0.mk (blk_kept (ba BK403.out) hkp (fun hs_ => (fun e_ => (Kd.R_ne HO_416002.out BK403.out (by decide)) e_) hs_)); replace BK404 := Aside0.mk (blk_kept (ba BK404.out) hkp (fun hs_ => (fun e_ => (Kd.R_ne HO_416002.out BK404.out (by decide)) e_) hs_)); replace BK415 := Aside0.mk (blk_kept (ba BK415.out) hkp (fun hs_ => (fun e_ => (Kd.R_ne HO_416002.out BK415.out (by decide)) e_) hs_)); replace BK423 := Aside0.mk (blk_kept (ba BK423.out) hkp (fun hs_ => (fun e_ => (Kd.R_away HO_416002.out (fun _ hk => hk)) e_) hs_)); replace HB := Aside0.mk (hb); clear HO_416002; clear hb ho0; obtain ⟨Ao165, co165, eo165⟩ := Kd.R_slice HO426.out; subst eo165; obtain ⟨hcz166_0, hcz166_1, hcz166_2⟩ := bcs3_ BK415; obtain ⟨hfz166_0, hfz166_1, hfz166_2⟩ := bz3_ BK415; obtain ⟨hcz167_0, hcz167_1⟩ := bcs2_ BK403; obtain ⟨hcz168_0, hcz168_1, hcz168_2⟩ := bcs3_ BK404; obtain ⟨hfz168_0, hfz168_1, hfz168_2⟩ := bz3_ BK404))
    refine bodyPost_ret (results_ct rfl _ _ gb404 26 #[.slice Ao92 t406.length co92, .slice Ao97 t409.length co97, .slice Ao165 t424.length co165] (0, 0) _ rfl (bw1_ BK404 NB404_415) Try.underlying26 rfl (by kernel_rfl)) rfl ?_
    exact ⟨_, _, _, rt_, ro_ (Kd.R_far (p := ⟨gb404, 2, none⟩) (Kd.R_far (p := ⟨gb404, 1, none⟩) (Kd.R_far (p := ⟨gb404, 0, none⟩) (Kd.R_far (p := ⟨gb415, 2, none⟩) (Kd.R_types (Kd.R_types HO_416000.out BK415.out (by decide)) BK404.out (by decide)) (fun _ hk => hk.1.2) (.slice Ao165 t424.length co165)) (fun _ hk => hk.2) (.slice Ao92 t406.length co92)) (fun _ hk => hk.2) (.slice Ao97 t409.length co97)) (fun _ hk => hk.2) (.slice Ao165 t424.length co165)) (fun _ hk => hk.1.1), ro_ (Kd.R_far (p := ⟨gb404, 2, none⟩) (Kd.R_far (p := ⟨gb404, 1, none⟩) (Kd.R_far (p := ⟨gb404, 0, none⟩) (Kd.R_far (p := ⟨gb415, 2, none⟩) (Kd.R_types (Kd.R_types HO_416001.out BK415.out (by decide)) BK404.out (by decide)) (fun _ hk => hk.1.2) (.slice Ao165 t424.length co165)) (fun _ hk => hk.2) (.slice Ao92 t406.length co92)) (fun _ hk => hk.2) (.slice Ao97 t409.length co97)) (fun _ hk => hk.2) (.slice Ao165 t424.length co165)) (fun _ hk => hk.1.1), ro_ (Kd.R_far (p := ⟨gb404, 2, none⟩) (Kd.R_far (p := ⟨gb404, 1, none⟩) (Kd.R_far (p := ⟨gb404, 0, none⟩) (Kd.R_far (p := ⟨gb415, 2, none⟩) (Kd.R_types (Kd.R_types HO426.out BK415.out (by decide)) BK404.out (by decide)) (fun _ hk => hk.1.2) (.slice Ao165 t424.length co165)) (fun _ hk => hk.2) (.slice Ao92 t406.length co92)) (fun _ hk => hk.2) (.slice Ao97 t409.length co97)) (fun _ hk => hk.2) (.slice Ao165 t424.length co165)) (fun _ hk => trivial), hB HB⟩
   rw [if_pos c108] at H
   have c108b0 : (a1_0 == 2) = true := beq_iff_eq.mpr c108
   have c108b1 : (a1_0 != 2) = false := bne_eq_false_iff_eq.mpr c108
   clear c108
   replace H := Option.bind_eq_some_iff.mp H
   obtain ⟨t427, A1090, H⟩ := H
   replace H : (if 0 ≤ (wrap64 (1 - ((rd_T36 l0_2 a1_1).f0))) then (if (wrap64 (1 - ((rd_T36 l0_2 a1_1).f0))) < (t406.length : Int) then (if (wrap64 (1 - ((rd_T36 l0_2 a1_1).f0))) < (t409.length : Int) then (some ((t406.set ((wrap64 (1 - ((rd_T36 l0_2 a1_1).f0))) : Int).toNat t427), (t409.set ((wrap64 (1 - ((rd_T36 l0_2 a1_1).f0))) : Int).toNat 3), t424, true)) else (none)) else (none)) else (none)) = some (r1, r2, r3, r4) := H
   have A109 := Aside0.mk A1090
   clear A1090
   obtain ⟨ji110, hji110⟩ : ∃ j_ : Int, (wrap64 (1 - ((rd_T36 l0_2 a1_1).f0))) = j_ := ⟨_, rfl⟩
   replace H : (if 0 ≤ (ji110) then (if (ji110) < (t406.length : Int) then (if (ji110) < (t409.length : Int) then (some ((t406.set ((ji110) : Int).toNat t427), (t409.set ((ji110) : Int).toNat 3), t424, true)) else (none)) else (none)) else (none)) = some (r1, r2, r3, r4) := by first | (rw [hji110] at H; exact H) | (simp only [hji110] at H ⊢; exact H)
   (try rw [hji110] at A103)
   (try rw [hji110] at A107)
   (try rw [hji110] at A109)
   have hji110w : (IntKind.i64.wrap (1 - ((rd_T36 l0_2 a1_1).f0))) = ji110 := (i64_w _).trans hji110
   by_cases c111 : 0 ≤ (ji110)
   rotate_left
   ·rw [if_neg c111] at H
    exact absurd H (by simp)
   rw [if_pos c111] at H
   have c111b0 : decide (0 ≤ (ji110)) = true := decide_eq_true c111
   clear c111
   by_cases c112 : (ji110) < (t406.length : Int)
   rotate_left
   ·rw [if_neg c112] at H
    exact absurd H (by simp)
   rw [if_pos c112] at H
   have c112b0 : decide ((ji110) < (t406.length : Int)) = true := decide_eq_true c112
   clear c112
   obtain ⟨y428, hy428⟩ : ∃ y_ : List Int, y_ = (t406.set ((ji110) : Int).toNat t427) := ⟨_, rfl⟩
   replace H : (if (ji110) < (t409.length : Int) then (some (y428, (t409.set ((ji110) : Int).toNat 3), t424, true)) else (none)) = some (r1, r2, r3, r4) := by first | (rw [hy428]; with_reducible exact H) | (have H2_ := (Option.bind_some _ _).symm.trans H; rw [hy428]; with_reducible exact H2_) | (have H2_ := (Option.bind_some _ _).symm.trans H; with_reducible exact H2_) | with_reducible exact H | (rw [hy428]; exact H) | exact H
   have Ny428 := Aside0.mk hy428
   clear hy428
   by_cases c114 : (ji110) < (t409.length : Int)
   rotate_left
   ·rw [if_neg c114] at H
    exact absurd H (by simp)
   rw [if_pos c114] at H
   have c114b0 : decide ((ji110) < (t409.length : Int)) = true := decide_eq_true c114
   clear c114
   obtain ⟨y429, hy429⟩ : ∃ y_ : List Int, y_ = (t409.set ((ji110) : Int).toNat 3) := ⟨_, rfl⟩
   replace H : (some (y428, y429, t424, true)) = some (r1, r2, r3, r4) := by first | (rw [hy429]; with_reducible exact H) | (have H2_ := (Option.bind_some _ _).symm.trans H; rw [hy429]; with_reducible exact H2_) | (have H2_ := (Option.bind_some _ _).symm.trans H; with_reducible exact H2_) | with_reducible exact H | (rw [hy429]; exact H) | exact H
   have Ny429 := Aside0.mk hy429
   clear hy429
   simp only [Option.some.injEq, Prod.mk.injEq] at H
   obtain ⟨rfl, rfl, rfl, rfl⟩ := H
   obtain ⟨hnb116, hnc116⟩ := nn_ NB403_402
   obtain ⟨hnb117, hnc117⟩ := nn_ NB403_404
   obtain ⟨hnb118, hnc118⟩ := nn_ NB403_415
   obtain ⟨hcz119_0, hcz119_1⟩ := bcs2_ BK403
   obtain ⟨hfz119_0, hfz119_1⟩ := bz2_ BK403
   obtain ⟨hnb120, hnc120⟩ := nn_ NB402_404
   obtain ⟨hnb121, hnc121⟩ := nn_ NB402_415
   obtain ⟨hcz122_0, hcz122_1, hcz122_2⟩ := bcs3_ BK402
   obtain ⟨hfz122_0, hfz122_1, hfz122_2⟩ := bz3_ BK402
   try go_wp2_with (first | ((with_reducible refine gate_dst (N := 55) rfl ?_); refine goesL_ (some 55) rfl rfl Try.func21 (by kernel_rfl) rfl #[.int .i64 a1_1, .int .i64 0, .int .i64 (wrap64 ((l0_2.length : Int) - 1))] rfl tm_ ?_; (with_reducible refine (impl_in.calls a1_1 0 (wrap64 ((l0_2.length : Int) - 1)) true _ A103.out).mono ?_); rintro e w' ⟨rfl, ⟨nd, rfl⟩⟩; refine ⟨_, rfl, ?_⟩; (try (rw [drewN_self wc]; generalize hq_ : World.drewN wc _ = wc; have n0_ : Aside0 (Kd.R (Kd.int .i64) 3 wc w.heap.size (fun k_ => no_ (.slice Ao97 t409.length co97) k_) (.slice Ao92 t406.length co92) t406) := ⟨by rw [← hq_]; exact (ra HO_416000.out)⟩; have n1_ : Aside0 (Kd.R (Kd.int .i64) 3 wc w.heap.size (fun k_ => no_ (.slice Ao92 t406.length co92) k_) (.slice Ao97 t409.length co97) t409) := ⟨by rw [← hq_]; exact (ra HO_416001.out)⟩; have n2_ : Aside0 (Kd.R k36 36 wc w.heap.size (fun _ => True) (.slice Ao98 t412.length co98) t412) := ⟨by rw [← hq_]; exact (ra HO_416002.out)⟩; have n3_ : Aside0 (wc.heap[gb402]? = some (.cells #[.slice A0_0 l0_0.length c0_0, .slice A0_1 l0_1.length c0_1, .slice A0_2 l0_2.length c0_2] 26 (0, 0))) := ⟨by rw [← hq_]; exact (ba BK402.out)⟩; have n4_ : Aside0 (wc.heap[gb403]? = some (.cells #[.int .i64 a1_0, .int .i64 a1_1] 28 (0, 0))) := ⟨by rw [← hq_]; exact (ba BK403.out)⟩; have n5_ : Aside0 (wc.heap[gb404]? = some (.cells #[.slice none 0 0, .slice none 0 0, .slice none 0 0] 26 (0, 0))) := ⟨by rw [← hq_]; exact (ba BK404.out)⟩; have n6_ : Aside0 (wc.heap[gb415]? = some (.cells #[.slice Ao92 t406.length co92, .slice Ao97 t409.length co97, .slice Ao98 t412.length co98] 26 (0, 0))) := ⟨by rw [← hq_]; exact (ba BK415.out)⟩; have n7_ : Aside0 (Below w.heap.size w wc) := ⟨by rw [← hq_]; exact (hB HB)⟩; clear HO_416000 HO_416001 HO_416002 BK402 BK403 BK404 BK415 HB hq_; have HO_416000 := n0_; have HO_416001 := n1_; have HO_416002 := n2_; have BK402 := n3_; have BK403 := n4_; have BK404 := n5_; have BK415 := n6_; have HB := n7_; clear n0_ n1_ n2_ n3_ n4_ n5_ n6_ n7_)); obtain ⟨hcz119_0, hcz119_1⟩ := bcs2_ BK403; obtain ⟨hcz122_0, hcz122_1, hcz122_2⟩ := bcs3_ BK402; have p422 : 0 ≤ (a1_1 : Int) := od_; have q422 : a1_1 < (l0_2.length : Int) := od_; obtain ⟨ad422, e422, hx422_0, hx422_1⟩ := at_T36 HR0_2.out a1_1 p422 q422; cases e422; replace hx422_0 := hc_ HB hx422_0; replace hx422_1 := hc_ HB hx422_1; replace p422 := eq_true p422; replace q422 := eq_true q422) | ((with_reducible refine gate_dst (N := 7) rfl ?_); (try (refine gate_guard (by rfl) ?_; dsimp only)); refine bx_ev 7 #[.int .i64 0, .bool false] 36 ?_; intro gb423 hg w123 hbox hb; have BK423 := Aside0.mk (hbox); have GW423 := gw_ hg HB; have GE423 := gw_ hg HB; have NB402_423 := nl_ hg BK402; have NB423_402 := ng_ hg BK402; have NB403_423 := nl_ hg BK403; have NB423_403 := ng_ hg BK403; have NB404_423 := nl_ hg BK404; have NB423_404 := ng_ hg BK404; have NB415_423 := nl_ hg BK415; have NB423_415 := ng_ hg BK415; replace HO_416000 := rb_ HO_416000 hb; replace HO_416001 := rb_ HO_416001 hb; replace HO_416002 := Aside0.mk (Kd.R_below (Kd.R_elderB (ra HO_416002.out) gb423 (Nat.le_of_eq hg.symm)) hb); replace BK402 := bb_ BK402 hb; replace BK403 := bb_ BK403 hb; replace BK404 := bb_ BK404 hb; replace BK415 := bb_ BK415 hb; replace HB := bst_ HB hb; clear hb hbox hg; obtain ⟨hnb124, hnc124⟩ := nn_ NB423_402; obtain ⟨hnb125, hnc125⟩ := nn_ NB423_403; obtain ⟨hnb126, hnc126⟩ := nn_ NB423_404; obtain ⟨hnb127, hnc127⟩ := nn_ NB423_415; obtain ⟨hcz128_0, hcz128_1⟩ := bcs2_ BK423; obtain ⟨hfz128_0, hfz128_1⟩ := bz2_ BK423) | ((with_reducible refine gate_store (t := 36) (p := 7) rfl ?_); refine store_event (t := 36) (p := 7) (v := ?vo_w129) (w1 := ((w123.setCell ⟨gb423, 0, none⟩ (.int .i64 ((rd_T36 l0_2 a1_1).f0))).setCell ⟨gb423, 1, none⟩ (.bool ((rd_T36 l0_2 a1_1).f1)))) ?hg ?ho ?hn ?hr ?_; (case ho => rfl); (case hg => rfl); (case hn => rfl); (case hr => first | (go_simp; done) | (go_simp; rfl)); intro w129 hw; have n0_ : Aside0 (Kd.R (Kd.int .i64) 3 w129 w.heap.size (fun k_ => no_ (.slice Ao97 t409.length co97) k_) (.slice Ao92 t406.length co92) t406) := ⟨(by rw [hw]; exact (ra (Kd.R_mono (Kd.R_far (p := ⟨gb423, 1, none⟩) (Kd.R_far (p := ⟨gb423, 0, none⟩) (Kd.R_types HO_416000.out BK423.out (by decide)) (fun _ hk => hk.2) (.int .i64 ((rd_T36 l0_2 a1_1).f0))) (fun _ hk => hk.2) (.bool ((rd_T36 l0_2 a1_1).f1))) (fun _ hk => hk.1))))⟩; have n1_ : Aside0 (Kd.R (Kd.int .i64) 3 w129 w.heap.size (fun k_ => no_ (.slice Ao92 t406.length co92) k_) (.slice Ao97 t409.length co97) t409) := ⟨(by rw [hw]; exact (ra (Kd.R_mono (Kd.R_far (p := ⟨gb423, 1, none⟩) (Kd.R_far (p := ⟨gb423, 0, none⟩) (Kd.R_types HO_416001.out BK423.out (by decide)) (fun _ hk => hk.2) (.int .i64 ((rd_T36 l0_2 a1_1).f0))) (fun _ hk => hk.2) (.bool ((rd_T36 l0_2 a1_1).f1))) (fun _ hk => hk.1))))⟩; have n2_ : Aside0 (Kd.R k36 36 w129 w.heap.size (fun k_ => k_ ≠ gb423) (.slice Ao98 t412.length co98) t412) := ⟨(by rw [hw]; exact (ra (Kd.R_mono (Kd.R_far (p := ⟨gb423, 1, none⟩) (Kd.R_far (p := ⟨gb423, 0, none⟩) (Kd.R_mono HO_416002.out (fun k_ hk => (⟨hk, hk.2⟩ : _ ∧ k_ ≠ gb423))) (fun _ hk => hk.2) (.int .i64 ((rd_T36 l0_2 a1_1).f0))) (fun _ hk => hk.2) (.bool ((rd_T36 l0_2 a1_1).f1))) (fun _ hk => hk.1.2))))⟩; have n3_ : Aside0 (w129.heap[gb402]? = some (.cells #[.slice A0_0 l0_0.length c0_0, .slice A0_1 l0_1.length c0_1, .slice (some ad422) l0_2.length c0_2] 26 (0, 0))) := ⟨(by rw [hw]; exact (bx BK402))⟩; have n4_ : Aside0 (w129.heap[gb403]? = some (.cells #[.int .i64 a1_0, .int .i64 a1_1] 28 (0, 0))) := ⟨(by rw [hw]; exact (bx BK403))⟩; have n5_ : Aside0 (w129.heap[gb404]? = some (.cells #[.slice none 0 0, .slice none 0 0, .slice none 0 0] 26 (0, 0))) := ⟨(by rw [hw]; exact (bx BK404))⟩; have n6_ : Aside0 (w129.heap[gb415]? = some (.cells #[.slice Ao92 t406.length co92, .slice Ao97 t409.length co97, .slice Ao98 t412.length co98] 26 (0, 0))) := ⟨(by rw [hw]; exact (bx BK415))⟩; have n7_ : Aside0 (w129.heap[gb423]? = some (.cells #[.int .i64 ((rd_T36 l0_2 a1_1).f0), .bool ((rd_T36 l0_2 a1_1).f1)] 36 (0, 0))) := ⟨(by rw [hw]; exact (bw0_ BK423))⟩; have n8_ : Aside0 (Below w.heap.size w w129) := ⟨(by rw [hw]; exact (hB HB))⟩; clear hw; clear HO_416000; clear HO_416001; clear HO_416002; clear BK402; clear BK403; clear BK404; clear BK415; clear BK423; clear HB; have HO_416000 := n0_; have HO_416001 := n1_; have HO_416002 := n2_; have BK402 := n3_; have BK403 := n4_; have BK404 := n5_; have BK415 := n6_; have BK423 := n7_; have HB := n8_; clear n0_ n1_ n2_ n3_ n4_ n5_ n6_ n7_ n8_; obtain ⟨hnb130, hnc130⟩ := nn_ NB415_404; obtain ⟨hcz131_0, hcz131_1, hcz131_2⟩ := bcs3_ BK415; obtain ⟨hfz131_0, hfz131_1, hfz131_2⟩ := bz3_ BK415; obtain ⟨hcz132_0, hcz132_1⟩ := bcs2_ BK403) | ((with_reducible refine gate_dst (N := 71) rfl ?_); refine goesL_ (some 71) rfl rfl Try.func22 (by kernel_rfl) rfl #[.slice Ao98 t412.length co98, .int .i64 a1_1, .int .i64 (wrap64 (a1_1 + 1))] rfl tm_ ?_; (with_reducible refine (impl_Hello_22.calls (fun k_ => some k_ = (.slice Ao98 t412.length co98 : Value).ownBlock) (.slice Ao98 t412.length co98) t412 a1_1 (wrap64 (a1_1 + 1)) t424 w _ ?side1 ?side2 A107.out).mono ?_); (case side1 => exact hB HB); (case side2 => exact Kd.R_tight rfl HO_416002.out); rintro e w133 ⟨v425, rfl, ho0, hb, hkp⟩; refine ⟨_, rfl, ?_⟩; have HO426 := Aside0.mk (Kd.R_mono (ok' := fun k_ => k_ ≠ gb423) ho0 (fun k_ hk_ => Or.elim hk_ (fun hs_ => fun e_ => (Kd.R_away HO_416002.out (fun _ hk => hk)) (by rw [← e_]; exact hs_)) (fun hn_ => (Kd.freshB (g := gb423) (o := .cells #[.int .i64 ((rd_T36 l0_2 a1_1).f0), .bool ((rd_T36 l0_2 a1_1).f1)] 36 (0, 0)) (ba BK423.out) k_ hn_)))); replace HO_416000 := Aside0.mk (Kd.R_mono (ok' := fun k_ => no_ (.slice Ao97 t409.length co97) k_) (Kd.R_keptB ((Kd.R_apart' HO_416000.out (Kd.R_typed HO_416002.out) (by decide))) hkp (fun k_ hk_ hs_ => (hk_.2) hs_)) (fun k_ hk_ => hk_.1.1)); replace HO_416001 := Aside0.mk (Kd.R_mono (ok' := fun k_ => no_ (.slice Ao92 t406.length co92) k_) (Kd.R_keptB ((Kd.R_apart' HO_416001.out (Kd.R_typed HO_416002.out) (by decide))) hkp (fun k_ hk_ hs_ => (hk_.2) hs_)) (fun k_ hk_ => hk_.1.1)); replace BK402 := Aside0.mk (blk_kept (ba BK402.out) hkp (fun hs_ => (fun e_ => (Kd.R_ne HO_416002.out BK402.out (by decide)) e_) hs_)); replace BK403 := Aside0.mk (blk_kept (ba BK403.out) hkp (fun hs_ => (fun e_ => (Kd.R_ne HO_416002.out BK403.out (by decide)) e_) hs_)); replace BK404 := Aside0.mk (blk_kept (ba BK404.out) hkp (fun hs_ => (fun e_ => (Kd.R_ne HO_416002.out BK404.out (by decide)) e_) hs_)); replace BK415 := Aside0.mk (blk_kept (ba BK415.out) hkp (fun hs_ => (fun e_ => (Kd.R_ne HO_416002.out BK415.out (by decide)) e_) hs_)); replace BK423 := Aside0.mk (blk_kept (ba BK423.out) hkp (fun hs_ => (fun e_ => (Kd.R_away HO_416002.out (fun _ hk => hk)) e_) hs_)); replace HB := Aside0.mk (hb); clear HO_416002; clear hb ho0; obtain ⟨Ao134, co134, eo134⟩ := Kd.R_slice HO426.out; subst eo134; obtain ⟨hcz135_0, hcz135_1, hcz135_2⟩ := bcs3_ BK415; obtain ⟨hfz135_0, hfz135_1, hfz135_2⟩ := bz3_ BK415; obtain ⟨hcz136_0, hcz136_1⟩ := bcs2_ BK403))
   have n0_ : Aside0 (Kd.R (Kd.int .i64) 3 (w133.setCell ⟨gb415, 2, none⟩ (.slice Ao134 t424.length co134)) w.heap.size (fun k_ => no_ (.slice Ao97 t409.length co97) k_) (.slice Ao92 t406.length co92) t406) := ⟨ro_ (Kd.R_far (p := ⟨gb415, 2, none⟩) (Kd.R_types HO_416000.out BK415.out (by decide)) (fun _ hk => hk.2) (.slice Ao134 t424.length co134)) (fun _ hk => hk.1)⟩
   have n1_ : Aside0 (Kd.R (Kd.int .i64) 3 (w133.setCell ⟨gb415, 2, none⟩ (.slice Ao134 t424.length co134)) w.heap.size (fun k_ => no_ (.slice Ao92 t406.length co92) k_) (.slice Ao97 t409.length co97) t409) := ⟨ro_ (Kd.R_far (p := ⟨gb415, 2, none⟩) (Kd.R_types HO_416001.out BK415.out (by decide)) (fun _ hk => hk.2) (.slice Ao134 t424.length co134)) (fun _ hk => hk.1)⟩
   have n2_ : Aside0 (Kd.R k36 36 (w133.setCell ⟨gb415, 2, none⟩ (.slice Ao134 t424.length co134)) w.heap.size (fun k_ => k_ ≠ gb423) (.slice Ao134 t424.length co134) t424) := ⟨ro_ (Kd.R_far (p := ⟨gb415, 2, none⟩) (Kd.R_types HO426.out BK415.out (by decide)) (fun _ hk => hk.2) (.slice Ao134 t424.length co134)) (fun _ hk => hk.1)⟩
   have n3_ : Aside0 ((w133.setCell ⟨gb415, 2, none⟩ (.slice Ao134 t424.length co134)).heap[gb402]? = some (.cells #[.slice A0_0 l0_0.length c0_0, .slice A0_1 l0_1.length c0_1, .slice (some ad422) l0_2.length c0_2] 26 (0, 0))) := ⟨bw1_ BK402 NB402_415⟩
   have n4_ : Aside0 ((w133.setCell ⟨gb415, 2, none⟩ (.slice Ao134 t424.length co134)).heap[gb403]? = some (.cells #[.int .i64 a1_0, .int .i64 a1_1] 28 (0, 0))) := ⟨bw1_ BK403 NB403_415⟩
   have n5_ : Aside0 ((w133.setCell ⟨gb415, 2, none⟩ (.slice Ao134 t424.length co134)).heap[gb404]? = some (.cells #[.slice none 0 0, .slice none 0 0, .slice none 0 0] 26 (0, 0))) := ⟨bw1_ BK404 NB404_415⟩
   have n6_ : Aside0 ((w133.setCell ⟨gb415, 2, none⟩ (.slice Ao134 t424.length co134)).heap[gb415]? = some (.cells #[.slice Ao92 t406.length co92, .slice Ao97 t409.length co97, .slice Ao134 t424.length co134] 26 (0, 0))) := ⟨bw0_ BK415⟩
   have n7_ : Aside0 ((w133.setCell ⟨gb415, 2, none⟩ (.slice Ao134 t424.length co134)).heap[gb423]? = some (.cells #[.int .i64 ((rd_T36 l0_2 a1_1).f0), .bool ((rd_T36 l0_2 a1_1).f1)] 36 (0, 0))) := ⟨bw1_ BK423 NB423_415⟩
   have n8_ : Aside0 (Below w.heap.size w (w133.setCell ⟨gb415, 2, none⟩ (.slice Ao134 t424.length co134))) := ⟨hB HB⟩
   (try clear HO_416000)
   (try clear HO_416001)
   (try clear HO426)
   (try clear BK402)
   (try clear BK403)
   (try clear BK404)
   (try clear BK415)
   (try clear BK423)
   (try clear HB)
   generalize (w133.setCell ⟨gb415, 2, none⟩ (.slice Ao134 t424.length co134)) = w137 at n0_ n1_ n2_ n3_ n4_ n5_ n6_ n7_ n8_ ⊢
   have HO_416000 := n0_
   have HO_416001 := n1_
   have HO426 := n2_
   have BK402 := n3_
   have BK403 := n4_
   have BK404 := n5_
   have BK415 := n6_
   have BK423 := n7_
   have HB := n8_
   clear n0_ n1_ n2_ n3_ n4_ n5_ n6_ n7_ n8_
   replace HO_416000 := rd_ HO_416000
   replace HO_416001 := rd_ HO_416001
   replace HO426 := rd_ HO426
   replace BK402 := bd_ BK402
   replace BK403 := bd_ BK403
   replace BK404 := bd_ BK404
   replace BK415 := bd_ BK415
   replace BK423 := bd_ BK423
   replace HB := Aside0.mk (below_drew1 HB.out)
   refine start_ (n := 10) (S := fun w' => w'.cell? ⟨gb415, 0, none⟩ = some (.slice Ao92 t406.length co92) ∧ w'.cell? ⟨gb415, 1, none⟩ = some (.slice Ao97 t409.length co97) ∧ w'.cell? ⟨gb415, 2, none⟩ = some (.slice Ao134 t424.length co134) ∧ w'.cell? ⟨gb423, 0, none⟩ = some (.int .i64 ((rd_T36 l0_2 a1_1).f0)) ∧ w'.cell? ⟨gb423, 1, none⟩ = some (.bool ((rd_T36 l0_2 a1_1).f1))) (ds := [9]) (bs 10 0) (by kernel_rfl) rfl rfl ⟨bc_ BK415 0, bc_ BK415 1, bc_ BK415 2, bc_ BK423 0, bc_ BK423 1⟩ (fun hHeld => ?_); refine with_tabW impl_StepPair.tab17 impl_StepPair.bits17 (fun HT_ HW_ => ?_)
   generalize w137.drew = w138 at HO_416000 HO_416001 HO426 BK402 BK403 BK404 BK415 BK423 HB hHeld ⊢
   refine pu_ 0 76 (bs 10 1) HT_ ?_
   refine pu_ 2 78 (bs 10 5) HT_ ?_
   refine pu_ 5 81 (bs 10 37) HT_ ?_
   refine tk_ 1 77 (bs 10 39) HT_ HW_ hHeld ?_
   refine tk_ 3 79 (bs 10 47) HT_ HW_ hHeld ?_
   refine pu_ 4 80 (bs 10 63) HT_ ?_
   refine tk_ 6 82 (bs 10 127) HT_ HW_ hHeld ?_
   refine on_ 7 (some 83) (bs 10 255) HT_ (fun K hK => ?_)
   refine goes_ Try.func23 (by kernel_rfl) rfl #[.bool ((rd_T36 l0_2 a1_1).f1)] (by rfl) rfl rfl tm_ ?_
   with_reducible refine (impl_nextState.calls ((rd_T36 l0_2 a1_1).f1) t427 _ A109.out).mono ?_
   rintro e w' ⟨rfl, ⟨nd, rfl⟩⟩
   refine ⟨_, rfl, ?_⟩
   generalize hq_ : World.drewN w138 nd = w138
   replace HO_416000 := Aside0.mk (Kd.R_at hq_ HO_416000.out)
   replace HO_416001 := Aside0.mk (Kd.R_at hq_ HO_416001.out)
   replace HO426 := Aside0.mk (Kd.R_at hq_ HO426.out)
   replace BK402 := Aside0.mk (blk_at hq_ BK402.out)
   replace BK403 := Aside0.mk (blk_at hq_ BK403.out)
   replace BK404 := Aside0.mk (blk_at hq_ BK404.out)
   replace BK415 := Aside0.mk (blk_at hq_ BK415.out)
   replace BK423 := Aside0.mk (blk_at hq_ BK423.out)
   replace HB := Aside0.mk (below_at hq_ HB.out)
   have HQ_ := Aside0.mk hq_
   clear hq_
   have p113 : 0 ≤ ((ji110) : Int) := od_
   have q113 : ((ji110) : Int) < ((t406.length : Int) : Int) := od_
   obtain ⟨go113, co113, eo113, gb113, gl113, cl113, HG113⟩ := Kd.R_form HO_416000.out (by omega)
   (first | cases eo113 | (injection eo113 with ea_ en_ ec_; (first | subst ea_ | (injection ea_ with ea_; subst ea_)); subst ec_; clear en_))
   have GB113 := Aside0.mk gb113
   have GG113 := Aside0.mk HG113
   clear gb113 gl113 HG113
   obtain ⟨hx113_0, hf113_0⟩ := Kd.R_celln 0 HO_416000.out ((ji110) : Int) p113 q113
   replace p113 := eq_true p113
   replace q113 := eq_true q113
   have HP139 := Kd.R_putn HO_416000.out ((ji110) : Int) t427
   rw [← Ny428.out] at HP139
   have HQ139 := Aside0.mk HP139
   clear HP139
   refine hK.out _ _ ⟨bc_ BK415 0, bc_ BK415 1, bc_ BK415 2, bc_ BK423 0, bc_ BK423 1⟩ (fun hHeld => ?_)
   clear hK K
   refine nm_ 83 ?_
   refine pu_ 8 84 (bs 10 511) HT_ ?_
   refine last_ (i := 9) (N := none) (bs 10 1023) rfl rfl (one_of HT_.out (by kernel_rfl)) (by decide) (fun K hK => ?_)
   refine skip_ (w1 := ?_) (by rfl) rfl ?_ ?_
   rotate_left
   ·go_simp
    rfl
   refine hK.out _ _ ?_
   clear hK K
   refine done_ (done_of HT_.out (by kernel_rfl)) ?_
   have n0_ : Aside0 (Kd.R (Kd.int .i64) 3 (w138.setCell ⟨go113, ((ji110) : Int).toNat, none⟩ (.int .i64 t427)) w.heap.size (fun k_ => no_ (.slice Ao97 t409.length co97) k_) (.slice (some ⟨go113, 0, none⟩) t406.length co92) y428) := ⟨ra HQ139.out⟩
   have n1_ : Aside0 (Kd.R (Kd.int .i64) 3 (w138.setCell ⟨go113, ((ji110) : Int).toNat, none⟩ (.int .i64 t427)) w.heap.size (fun k_ => some k_ ≠ (.slice (some ⟨go113, 0, none⟩) t406.length co92 : Value).ownBlock) (.slice Ao97 t409.length co97) t409) := ⟨ro_ (Kd.R_far (p := ⟨go113, ((ji110) : Int).toNat, none⟩) (Kd.R_mono HO_416001.out (fun k_ hk => (⟨hk, fun e_ => hk (by rw [e_]; rfl)⟩ : _ ∧ k_ ≠ go113))) (fun _ hk => hk.2) (.int .i64 t427)) (fun _ hk => hk.1)⟩
   have n2_ : Aside0 (Kd.R k36 36 (w138.setCell ⟨go113, ((ji110) : Int).toNat, none⟩ (.int .i64 t427)) w.heap.size (fun k_ => k_ ≠ gb423) (.slice Ao134 t424.length co134) t424) := ⟨ro_ (Kd.R_far (p := ⟨go113, ((ji110) : Int).toNat, none⟩) (Kd.R_types HO426.out GG113.out (by decide)) (fun _ hk => hk.2) (.int .i64 t427)) (fun _ hk => hk.1)⟩
   have n3_ : Aside0 ((w138.setCell ⟨go113, ((ji110) : Int).toNat, none⟩ (.int .i64 t427)).heap[gb402]? = some (.cells #[.slice A0_0 l0_0.length c0_0, .slice A0_1 l0_1.length c0_1, .slice (some ad422) l0_2.length c0_2] 26 (0, 0))) := ⟨by (with_reducible repeat (first | refine blk_drewN ?_ _ | refine blk_drew ?_ | refine blk_alloc ?_ _)); refine blk_far ?_ (by have h_ := Kd.R_ne HO_416000.out BK402.out (by decide); intro e_; exact h_ (by rw [e_]; rfl)) _; (with_reducible repeat (first | refine blk_drewN ?_ _ | refine blk_drew ?_ | refine blk_alloc ?_ _)); exact BK402.out⟩
   have n4_ : Aside0 ((w138.setCell ⟨go113, ((ji110) : Int).toNat, none⟩ (.int .i64 t427)).heap[gb403]? = some (.cells #[.int .i64 a1_0, .int .i64 a1_1] 28 (0, 0))) := ⟨by (with_reducible repeat (first | refine blk_drewN ?_ _ | refine blk_drew ?_ | refine blk_alloc ?_ _)); refine blk_far ?_ (by have h_ := Kd.R_ne HO_416000.out BK403.out (by decide); intro e_; exact h_ (by rw [e_]; rfl)) _; (with_reducible repeat (first | refine blk_drewN ?_ _ | refine blk_drew ?_ | refine blk_alloc ?_ _)); exact BK403.out⟩
   have n5_ : Aside0 ((w138.setCell ⟨go113, ((ji110) : Int).toNat, none⟩ (.int .i64 t427)).heap[gb404]? = some (.cells #[.slice none 0 0, .slice none 0 0, .slice none 0 0] 26 (0, 0))) := ⟨by (with_reducible repeat (first | refine blk_drewN ?_ _ | refine blk_drew ?_ | refine blk_alloc ?_ _)); refine blk_far ?_ (by have h_ := Kd.R_ne HO_416000.out BK404.out (by decide); intro e_; exact h_ (by rw [e_]; rfl)) _; (with_reducible repeat (first | refine blk_drewN ?_ _ | refine blk_drew ?_ | refine blk_alloc ?_ _)); exact BK404.out⟩
   have n6_ : Aside0 ((w138.setCell ⟨go113, ((ji110) : Int).toNat, none⟩ (.int .i64 t427)).heap[gb415]? = some (.cells #[.slice (some ⟨go113, 0, none⟩) t406.length co92, .slice Ao97 t409.length co97, .slice Ao134 t424.length co134] 26 (0, 0))) := ⟨by (with_reducible repeat (first | refine blk_drewN ?_ _ | refine blk_drew ?_ | refine blk_alloc ?_ _)); refine blk_far ?_ (by have h_ := Kd.R_ne HO_416000.out BK415.out (by decide); intro e_; exact h_ (by rw [e_]; rfl)) _; (with_reducible repeat (first | refine blk_drewN ?_ _ | refine blk_drew ?_ | refine blk_alloc ?_ _)); exact BK415.out⟩
   have n7_ : Aside0 ((w138.setCell ⟨go113, ((ji110) : Int).toNat, none⟩ (.int .i64 t427)).heap[gb423]? = some (.cells #[.int .i64 ((rd_T36 l0_2 a1_1).f0), .bool ((rd_T36 l0_2 a1_1).f1)] 36 (0, 0))) := ⟨by (with_reducible repeat (first | refine blk_drewN ?_ _ | refine blk_drew ?_ | refine blk_alloc ?_ _)); refine blk_far ?_ (by have h_ := Kd.R_ne HO_416000.out BK423.out (by decide); intro e_; exact h_ (by rw [e_]; rfl)) _; (with_reducible repeat (first | refine blk_drewN ?_ _ | refine blk_drew ?_ | refine blk_alloc ?_ _)); exact BK423.out⟩
   have n8_ : Aside0 (Below w.heap.size w (w138.setCell ⟨go113, ((ji110) : Int).toNat, none⟩ (.int .i64 t427))) := ⟨hB HB⟩
   (try clear HO_416000)
   (try clear HO_416001)
   (try clear HO426)
   (try clear BK402)
   (try clear BK403)
   (try clear BK404)
   (try clear BK415)
   (try clear BK423)
   (try clear HB)
   generalize (w138.setCell ⟨go113, ((ji110) : Int).toNat, none⟩ (.int .i64 t427)) = w140 at n0_ n1_ n2_ n3_ n4_ n5_ n6_ n7_ n8_ ⊢
   have HO_416000 := n0_
   have HO_416001 := n1_
   have HO426 := n2_
   have BK402 := n3_
   have BK403 := n4_
   have BK404 := n5_
   have BK415 := n6_
   have BK423 := n7_
   have HB := n8_
   clear n0_ n1_ n2_ n3_ n4_ n5_ n6_ n7_ n8_
   obtain ⟨hcz141_0, hcz141_1, hcz141_2⟩ := bcs3_ BK415
   obtain ⟨hfz141_0, hfz141_1, hfz141_2⟩ := bz3_ BK415
   obtain ⟨hcz142_0, hcz142_1⟩ := bcs2_ BK423
   obtain ⟨hfz142_0, hfz142_1⟩ := bz2_ BK423
   have p115 : 0 ≤ ((ji110) : Int) := od_
   have q115 : ((ji110) : Int) < ((t409.length : Int) : Int) := od_
   obtain ⟨go115, co115, eo115, gb115, gl115, cl115, HG115⟩ := Kd.R_form HO_416001.out (by omega)
   (first | cases eo115 | (injection eo115 with ea_ en_ ec_; (first | subst ea_ | (injection ea_ with ea_; subst ea_)); subst ec_; clear en_))
   have GB115 := Aside0.mk gb115
   have GG115 := Aside0.mk HG115
   clear gb115 gl115 HG115
   obtain ⟨hx115_0, hf115_0⟩ := Kd.R_celln 0 HO_416001.out ((ji110) : Int) p115 q115
   replace p115 := eq_true p115
   replace q115 := eq_true q115
   obtain ⟨hy143_, hz143_⟩ := Kd.R_celln 0 HO_416001.out ((ji110) : Int) (od_) (od_)
   have HP143 := Kd.R_putg HO_416001.out ((ji110) : Int) 3
   try go_wp2_with (first | ((with_reducible refine gate_store (t := 3) (p := 90) rfl ?_); refine store_event (t := 3) (p := 90) (v := ?vo_w144) (w1 := (w140.setCell ⟨go115, ((ji110) : Int).toNat, none⟩ (.int .i64 3))) ?hg ?ho ?hn ?hr ?_; (case ho => rfl); (case hg => rfl); (case hn => rfl); (case hr => first | (go_simp; done) | (go_simp; rfl)); intro w144 hw; have hg : w140.grownBy w144 (some go115) := (by rw [hw]; exact HP143.2); have hp_ : Kd.R (Kd.int .i64) 3 w144 w.heap.size (fun k_ => some k_ ≠ (.slice (some ⟨go113, 0, none⟩) t406.length co92 : Value).ownBlock) (.slice (some ⟨go115, 0, none⟩) t409.length co97) y429 := (by rw [hw, Ny429.out]; exact HP143.1); clear HP143; replace HO_416000 := Aside0.mk (Kd.R_after (v := (.slice (some ⟨go115, 0, none⟩) t409.length co97)) (v1 := (.slice (some ⟨go115, 0, none⟩) t409.length co97)) (ok := (fun _ => True)) (rm_ HO_416000 (fun _ hk => ⟨trivial, hk⟩)).out hg (.inl rfl)); replace BK402 := Aside0.mk (blk_grown (g := gb402) (o := .cells #[.slice A0_0 l0_0.length c0_0, .slice A0_1 l0_1.length c0_1, .slice (some ad422) l0_2.length c0_2] 26 (0, 0)) (ba BK402.out) hg (Kd.R_ne HO_416001.out BK402.out (by decide))); replace BK403 := Aside0.mk (blk_grown (g := gb403) (o := .cells #[.int .i64 a1_0, .int .i64 a1_1] 28 (0, 0)) (ba BK403.out) hg (Kd.R_ne HO_416001.out BK403.out (by decide))); replace BK404 := Aside0.mk (blk_grown (g := gb404) (o := .cells #[.slice none 0 0, .slice none 0 0, .slice none 0 0] 26 (0, 0)) (ba BK404.out) hg (Kd.R_ne HO_416001.out BK404.out (by decide))); replace BK415 := Aside0.mk (blk_grown (g := gb415) (o := .cells #[.slice (some ⟨go113, 0, none⟩) t406.length co92, .slice (some ⟨go115, 0, none⟩) t409.length co97, .slice Ao134 t424.length co134] 26 (0, 0)) (ba BK415.out) hg (Kd.R_ne HO_416001.out BK415.out (by decide))); replace BK423 := Aside0.mk (blk_grown (g := gb423) (o := .cells #[.int .i64 ((rd_T36 l0_2 a1_1).f0), .bool ((rd_T36 l0_2 a1_1).f1)] 36 (0, 0)) (ba BK423.out) hg (Kd.R_ne HO_416001.out BK423.out (by decide))); replace HO426 := Aside0.mk (Kd.R_over' (v := (.slice (some ⟨go115, 0, none⟩) t409.length co97)) (ra HO426.out) (Kd.R_typed HO_416001.out) (by decide) hg); replace HO_416001 := Aside0.mk (hp_); replace HB := Aside0.mk ((by rw [hw]; exact below_set (HB.out) GB115.out : Below w.heap.size w w144)); clear hg hw hp_; obtain ⟨hcz145_0, hcz145_1, hcz145_2⟩ := bcs3_ BK415; obtain ⟨hfz145_0, hfz145_1, hfz145_2⟩ := bz3_ BK415; obtain ⟨hcz146_0, hcz146_1, hcz146_2⟩ := bcs3_ BK404; obtain ⟨hfz146_0, hfz146_1, hfz146_2⟩ := bz3_ BK404))
   refine bodyPost_ret (results_ct rfl _ _ gb404 26 #[.slice (some ⟨go113, 0, none⟩) t406.length co92, .slice (some ⟨go115, 0, none⟩) t409.length co97, .slice Ao134 t424.length co134] (0, 0) _ rfl (bw0_ BK404) Try.underlying26 rfl (by kernel_rfl)) rfl ?_
   exact ⟨_, _, _, by first | rfl | (simp [errW_none, errW_some] <;> rfl) | (simp only [← hji110]; first | rfl | (simp [errW_none, errW_some] <;> rfl)) | (simp [*, errW_none, errW_some] <;> rfl), ro_ (fs3_ HO_416000.out BK404.out) (fun _ hk => hk.1.2), ro_ (fs3_ HO_416001.out BK404.out) (fun _ hk => hk.1), ro_ (fs3_ HO426.out BK404.out) (fun _ hk => trivial), hB HB⟩

end Go.Proofs.Ytefdgdloghhnaaa.P
