import Derived.Test.YtfkjnpgpofcinaaF0
import Derived.Test.YtfkjnpgpofcinaaF1
import Derived.Test.YtfkjnpgpofcinaaF25
import Derived.Test.YtfkjnpgpofcinaaF26
namespace Go.Proofs.Ytfkjnpgpofcinaa.P
open Go.RowKit Go.Proofs.YtfkjnpgpofcinaaW.PrintWords Go.Proofs.YtfkjnpgpofcinaaW.PrintLast Go.Proofs.YtfkjnpgpofcinaaW.PrintMore
attribute [local go_sem] max2_int min2_int max_two min_two max_three min_three max_four min_four   -- for this text's walks alone
set_option linter.unusedVariables false
set_option linter.unusedSimpArgs false
attribute [local go_sem high] eqA45 eqA76 eqA83

mutual
def impl_StepPair.j0 : Nat → Int → Bool → List Int → List Int → List (S45) → Int → Int → List Int → List Int → List (S45) → Option (List Int × List Int × (List (S45)) × Bool)
 | 0, _, _, _, _, _, _, _, _, _, _ => none
 | k + 1, x16, x46, x775000, x775001, x775002, x776000, x776001, x788000, x788001, x788002 => if x46 = true then ((impl_in.f x776001 0 (wrap64 ((x775002.length : Int) - 1))).bind fun t793 => (if t793 = true then (if 0 ≤ x776001 then (if x776001 < (x775002.length : Int) then ((impl_Hello_85.f x788002 x776001 (wrap64 (x776001 + 1))).bind fun t796 => (if x776000 = 2 then ((impl_nextState.f ((rd_T45 x775002 x776001).f1)).bind fun t799 => (if 0 ≤ (wrap64 (1 - ((rd_T45 x775002 x776001).f0))) then (if (wrap64 (1 - ((rd_T45 x775002 x776001).f0))) < (x788000.length : Int) then (if (wrap64 (1 - ((rd_T45 x775002 x776001).f0))) < (x788001.length : Int) then (some ((x788000.set ((wrap64 (1 - ((rd_T45 x775002 x776001).f0))) : Int).toNat t799), (x788001.set ((wrap64 (1 - ((rd_T45 x775002 x776001).f0))) : Int).toNat 3), t796, true)) else (none)) else (none)) else (none))) else (some (x788000, x788001, t796, true)))) else (none)) else (none)) else (some (([] : List Int), ([] : List Int), ([] : List (S45)), false)))) else (if x16 = 4 then (if x776001 = 0 then (impl_StepPair.l0 k (x788000.length : Int) 0 x788000 x788001 x788002) else (some (([] : List Int), ([] : List Int), ([] : List (S45)), false))) else (some (([] : List Int), ([] : List Int), ([] : List (S45)), false)))
def impl_StepPair.l0 : Nat → Int → Int → List Int → List Int → List (S45) → Option (List Int × List Int × (List (S45)) × Bool)
 | 0, _, _, _, _, _ => none
 | k + 1, x99, x100, x788000, x788001, x788002 => if x100 < x99 then (if 0 ≤ x100 then (if x100 < (x788000.length : Int) then (if (rd x788000 x100) = 0 then (impl_StepPair.l0 k x99 (wrap64 (x100 + 1)) x788000 x788001 x788002) else (if x100 < (x788001.length : Int) then ((some (x788001.set (x100 : Int).toNat (wrap64 ((rd x788001 x100) - 1)) : List Int)).bind fun y804 => (if (rd y804 x100) = 0 then (impl_StepPair.l0 k x99 (wrap64 (x100 + 1)) (x788000.set (x100 : Int).toNat 0) y804 x788002) else (impl_StepPair.l0 k x99 (wrap64 (x100 + 1)) x788000 y804 x788002))) else (none))) else (none)) else (none)) else (some (x788000, x788001, x788002, true))
end
def impl_StepPair.f (k : Nat) (l0_0 : List Int) (l0_1 : List Int) (l0_2 : List (S45)) (a1_0 : Int) (a1_1 : Int) : Option (List Int × List Int × (List (S45)) × Bool) := (impl_GoodPair.f k l0_0 l0_1 l0_2).bind fun t777 => (if t777 = true then ((impl_Pair_own.f l0_0 l0_1 l0_2).bind fun bt778 => (if a1_0 = 1 then ((impl_in.f a1_1 0 1).bind fun t788 => (if t788 = true then (if (l0_2.length : Int) ≥ 12 then (some (([] : List Int), ([] : List Int), ([] : List (S45)), false)) else (if 0 ≤ a1_1 then (if a1_1 < (l0_0.length : Int) then (if bt778.2.2.length < 8796093022208 then (some (bt778.1, bt778.2.1, (bt778.2.2 ++ [(⟨a1_1, ((rd l0_0 a1_1) != 0)⟩ : S45)]), true)) else (none)) else (none)) else (none))) else (some (([] : List Int), ([] : List Int), ([] : List (S45)), false)))) else (if a1_0 = 2 then (impl_StepPair.j0 k a1_0 (a1_0 == 2) l0_0 l0_1 l0_2 a1_0 a1_1 bt778.1 bt778.2.1 bt778.2.2) else (impl_StepPair.j0 k a1_0 (a1_0 == 3) l0_0 l0_1 l0_2 a1_0 a1_1 bt778.1 bt778.2.1 bt778.2.2)))) else (some (([] : List Int), ([] : List Int), ([] : List (S45)), false)))
theorem impl_StepPair.mono_l : ∀ k, (∀ y0 y1 y2 y3 y4 y5 y6 y7 y8 y9, LeO (impl_StepPair.j0 k y0 y1 y2 y3 y4 y5 y6 y7 y8 y9) (impl_StepPair.j0 (k + 1) y0 y1 y2 y3 y4 y5 y6 y7 y8 y9)) ∧ (∀ y0 y1 y2 y3 y4, LeO (impl_StepPair.l0 k y0 y1 y2 y3 y4) (impl_StepPair.l0 (k + 1) y0 y1 y2 y3 y4))
 | 0 => ⟨fun _ _ _ _ _ _ _ _ _ _ r h => by simp [impl_StepPair.j0] at h, fun _ _ _ _ _ r h => by simp [impl_StepPair.l0] at h⟩
 | k + 1 => by
  obtain ⟨ih0, ih1⟩ := impl_StepPair.mono_l k
  refine ⟨?_, ?_⟩
  ·intro y0 y1 y2 y3 y4 y5 y6 y7 y8 y9
   unfold impl_StepPair.j0
   repeat' first
   | (with_reducible exact ih0 _ _ _ _ _ _ _ _ _ _)
   | (with_reducible exact ih1 _ _ _ _ _)
   | (with_reducible exact impl_GoodPair.mono _ _ _ _)
   | (with_reducible exact LeO.refl _)
   | (with_reducible exact LeO.none _)
   | (with_reducible refine LeO.ite ?_ ?_)
   | (with_reducible refine LeO.bind ?_ (fun _ => ?_))
  ·intro y0 y1 y2 y3 y4
   unfold impl_StepPair.l0
   repeat' first
   | (with_reducible exact ih0 _ _ _ _ _ _ _ _ _ _)
   | (with_reducible exact ih1 _ _ _ _ _)
   | (with_reducible exact impl_GoodPair.mono _ _ _ _)
   | (with_reducible exact LeO.refl _)
   | (with_reducible exact LeO.none _)
   | (with_reducible refine LeO.ite ?_ ?_)
   | (with_reducible refine LeO.bind ?_ (fun _ => ?_))
theorem impl_StepPair.mono : ∀ a0 a1 a2 a3 a4 k, LeO (impl_StepPair.f k a0 a1 a2 a3 a4) (impl_StepPair.f (k + 1) a0 a1 a2 a3 a4) := by
 intro a0 a1 a2 a3 a4 k
 obtain ⟨ih0, ih1⟩ := impl_StepPair.mono_l k
 unfold impl_StepPair.f
 repeat' first
   | (with_reducible exact ih0 _ _ _ _ _ _ _ _ _ _)
   | (with_reducible exact ih1 _ _ _ _ _)
   | (with_reducible exact impl_GoodPair.mono _ _ _ _)
   | (with_reducible exact LeO.refl _)
   | (with_reducible exact LeO.none _)
   | (with_reducible refine LeO.ite ?_ ?_)
   | (with_reducible refine LeO.bind ?_ (fun _ => ?_))
def impl_StepPair.T9 : Bool × List (List Nat × List Nat) := (true, [([], []), ([0], [0]), ([], []), ([2], [2]), ([], []), ([4], [4]), ([], []), ([6], [6]), ([5, 7], [5, 7]), ([8], [8]), ([9], [9]), ([3, 10], [3, 10]), ([11], [11]), ([1, 12], [1, 12]), ([0, 1, 2, 3, 4, 5, 6, 7, 8, 9, 10, 11, 12, 13], []), ([14, 13, 13, 0, 1, 2, 3, 4, 5, 6, 7, 8, 9, 10, 11, 12, 13], [13, 14])])
def impl_StepPair.B9 : List Nat := [0, 1, 0, 4, 0, 16, 0, 64, 240, 496, 1008, 2044, 4092, 8191, 16383, 32767]
theorem impl_StepPair.tab9 : rtab .any (opsOf Try.f18 9) = impl_StepPair.T9 := by kernel_rfl
theorem impl_StepPair.bits9 : waitsOk impl_StepPair.T9.2 impl_StepPair.B9 = true := by kernel_rfl
def impl_StepPair.T17 : Bool × List (List Nat × List Nat) := (true, [([], []), ([0], [0]), ([], []), ([2], [2]), ([3], [3]), ([], []), ([5], [5]), ([6], [6]), ([1, 4, 0, 1, 2, 3, 4, 5, 6, 7], [1, 4]), ([8, 7, 7, 0, 1, 2, 3, 4, 5, 6, 7], [7, 8])])
def impl_StepPair.B17 : List Nat := [0, 1, 0, 4, 12, 0, 32, 96, 255, 511]
theorem impl_StepPair.tab17 : rtab .any (opsOf Try.f18 17) = impl_StepPair.T17 := by kernel_rfl
theorem impl_StepPair.bits17 : waitsOk impl_StepPair.T17.2 impl_StepPair.B17 = true := by kernel_rfl
set_option maxHeartbeats 8000000 in
set_option maxRecDepth 100000 in
theorem impl_StepPair.calls (k : Nat) (A0_0 : Option Addr) (c0_0 : Nat) (l0_0 : List Int) (A0_1 : Option Addr) (c0_1 : Nat) (l0_1 : List Int) (A0_2 : Option Addr) (c0_2 : Nat) (l0_2 : List (S45)) (a1_0 : Int) (a1_1 : Int) (r1 : List Int) (r2 : List Int) (r3 : List (S45)) (r4 : Bool) (w : World) (hr0_0 : Kd.C (Kd.int .i64) w A0_0 l0_0.length l0_0) (hc0_0 : l0_0.length ≤ c0_0) (hr0_1 : Kd.C (Kd.int .i64) w A0_1 l0_1.length l0_1) (hc0_1 : l0_1.length ≤ c0_1) (hr0_2 : Kd.C k45 w A0_2 l0_2.length l0_2) (hc0_2 : l0_2.length ≤ c0_2) (h : impl_StepPair.f k l0_0 l0_1 l0_2 a1_0 a1_1 = some (r1, r2, r3, r4)) :
  Calls Try.prog 18 #[.agg #[.slice A0_0 l0_0.length c0_0, .slice A0_1 l0_1.length c0_1, .slice A0_2 l0_2.length c0_2], .agg #[.int .i64 a1_0, .int .i64 a1_1]] w fun e w' => ∃ v0_ v1_ v2_ : Value, e = .returned (.tuple #[.agg #[v0_, v1_, v2_], .bool r4]) ∧ Kd.R (Kd.int .i64) 3 w' w.heap.size (fun k_ => no_ v1_ k_) v0_ r1 ∧ Kd.R (Kd.int .i64) 3 w' w.heap.size (fun k_ => no_ v0_ k_) v1_ r2 ∧ Kd.R k45 45 w' w.heap.size (fun _ => True) v2_ r3 ∧ Below w.heap.size w w' := by
 have hu35 := Try.underlying35
 have hu37 := Try.underlying37
 have hu45 := Try.underlying45
 have HR0_0 := Aside0.mk hr0_0
 have HC0_0 := Aside0.mk hc0_0
 clear hr0_0 hc0_0
 have HR0_1 := Aside0.mk hr0_1
 have HC0_1 := Aside0.mk hc0_1
 clear hr0_1 hc0_1
 have HR0_2 := Aside0.mk hr0_2
 have HC0_2 := Aside0.mk hc0_2
 clear hr0_2 hc0_2
 have HB := Aside0.mk (Below.refl w.heap.size w)
 have H : ((impl_GoodPair.f k l0_0 l0_1 l0_2).bind fun t777 => (if t777 = true then ((impl_Pair_own.f l0_0 l0_1 l0_2).bind fun bt778 => (if a1_0 = 1 then ((impl_in.f a1_1 0 1).bind fun t788 => (if t788 = true then (if (l0_2.length : Int) ≥ 12 then (some (([] : List Int), ([] : List Int), ([] : List (S45)), false)) else (if 0 ≤ a1_1 then (if a1_1 < (l0_0.length : Int) then (if bt778.2.2.length < 8796093022208 then (some (bt778.1, bt778.2.1, (bt778.2.2 ++ [(⟨a1_1, ((rd l0_0 a1_1) != 0)⟩ : S45)]), true)) else (none)) else (none)) else (none))) else (some (([] : List Int), ([] : List Int), ([] : List (S45)), false)))) else (if a1_0 = 2 then (impl_StepPair.j0 k a1_0 (a1_0 == 2) l0_0 l0_1 l0_2 a1_0 a1_1 bt778.1 bt778.2.1 bt778.2.2) else (impl_StepPair.j0 k a1_0 (a1_0 == 3) l0_0 l0_1 l0_2 a1_0 a1_1 bt778.1 bt778.2.1 bt778.2.2)))) else (some (([] : List Int), ([] : List Int), ([] : List (S45)), false)))) = some (r1, r2, r3, r4) := h
 clear h
 replace H := Option.bind_eq_some_iff.mp H
 obtain ⟨t777, A30, H⟩ := H
 replace H : (if t777 = true then ((impl_Pair_own.f l0_0 l0_1 l0_2).bind fun bt778 => (if a1_0 = 1 then ((impl_in.f a1_1 0 1).bind fun t788 => (if t788 = true then (if (l0_2.length : Int) ≥ 12 then (some (([] : List Int), ([] : List Int), ([] : List (S45)), false)) else (if 0 ≤ a1_1 then (if a1_1 < (l0_0.length : Int) then (if bt778.2.2.length < 8796093022208 then (some (bt778.1, bt778.2.1, (bt778.2.2 ++ [(⟨a1_1, ((rd l0_0 a1_1) != 0)⟩ : S45)]), true)) else (none)) else (none)) else (none))) else (some (([] : List Int), ([] : List Int), ([] : List (S45)), false)))) else (if a1_0 = 2 then (impl_StepPair.j0 k a1_0 (a1_0 == 2) l0_0 l0_1 l0_2 a1_0 a1_1 bt778.1 bt778.2.1 bt778.2.2) else (impl_StepPair.j0 k a1_0 (a1_0 == 3) l0_0 l0_1 l0_2 a1_0 a1_1 bt778.1 bt778.2.1 bt778.2.2)))) else (some (([] : List Int), ([] : List Int), ([] : List (S45)), false))) = some (r1, r2, r3, r4) := H
 have A3 := Aside0.mk A30
 clear A30
 by_cases c4 : t777 = true
 rotate_left
 ·replace c4 := Bool.eq_false_iff.mpr c4
  subst c4
  rw [if_neg (show ¬ (false = true) by decide)] at H
  simp only [Option.some.injEq, Prod.mk.injEq] at H
  obtain ⟨rfl, rfl, rfl, rfl⟩ := H
  go_enter Try.func18, Try.ntmps18
  go_wp2_with (first | ((with_reducible refine gate_dst (N := 2) rfl ?_); (try (refine gate_guard (by rfl) ?_; dsimp only)); refine box_event ?hg (N := 2) ?hd (cs := #[.slice A0_0 l0_0.length c0_0, .slice A0_1 l0_1.length c0_1, .slice A0_2 l0_2.length c0_2]) (t := 35) ?hr ?_; (case hd => rfl); (case hg => rfl); (case hr => first | (go_simp; done) | (go_simp; rfl)); intro gb774 hg w240 hbox hb; have BK774 := Aside0.mk (hbox); have GW774 := gw_ hg HB; have GE774 := gw_ hg HB; replace HB := bst_ HB hb; clear hb hbox hg) | ((with_reducible refine gate_dst (N := 3) rfl ?_); (try (refine gate_guard (by rfl) ?_; dsimp only)); refine box_event ?hg (N := 3) ?hd (cs := #[.int .i64 a1_0, .int .i64 a1_1]) (t := 37) ?hr ?_; (case hd => rfl); (case hg => rfl); (case hr => first | (go_simp; done) | (go_simp; rfl)); intro gb775 hg w241 hbox hb; have BK775 := Aside0.mk (hbox); have GW775 := gw_ hg HB; have GE775 := gw_ hg HB; have NB774_775 := nl_ hg BK774; have NB775_774 := ng_ hg BK774; replace BK774 := bb_ BK774 hb; replace HB := bst_ HB hb; clear hb hbox hg) | ((with_reducible refine gate_dst (N := 4) rfl ?_); (try (refine gate_guard (by rfl) ?_; dsimp only)); refine box_event ?hg (N := 4) ?hd (cs := #[.slice none 0 0, .slice none 0 0, .slice none 0 0]) (t := 35) ?hr ?_; (case hd => rfl); (case hg => rfl); (case hr => first | (go_simp; done) | (go_simp; rfl)); intro gb776 hg w242 hbox hb; have BK776 := Aside0.mk (hbox); have GW776 := gw_ hg HB; have GE776 := gw_ hg HB; have NB774_776 := nl_ hg BK774; have NB776_774 := ng_ hg BK774; have NB775_776 := nl_ hg BK775; have NB776_775 := ng_ hg BK775; replace BK774 := bb_ BK774 hb; replace BK775 := bb_ BK775 hb; replace HB := bst_ HB hb; clear hb hbox hg; have hnb243 := NB774_775.out; have hnc243 := NB775_774.out; have hnb244 := NB774_776.out; have hnc244 := NB776_774.out; have hcz245_0 : w242.cell? ⟨gb774, 0, none⟩ = some (.slice A0_0 l0_0.length c0_0) := bc_ BK774 0; have hcz245_1 : w242.cell? ⟨gb774, 1, none⟩ = some (.slice A0_1 l0_1.length c0_1) := bc_ BK774 1; have hcz245_2 : w242.cell? ⟨gb774, 2, none⟩ = some (.slice A0_2 l0_2.length c0_2) := bc_ BK774 2; have hfz245_0 := blk_frozen BK774.out 0; have hfz245_1 := blk_frozen BK774.out 1; have hfz245_2 := blk_frozen BK774.out 2) | ((with_reducible refine gate_callee (f := 21) rfl ?_); refine goesL_ (some 10) rfl rfl Try.func21 (by kernel_rfl) rfl #[.agg #[.slice A0_0 l0_0.length c0_0, .slice A0_1 l0_1.length c0_1, .slice A0_2 l0_2.length c0_2]] rfl tm_ ?_; (with_reducible refine (impl_GoodPair.calls k _ _ l0_0 _ _ l0_1 _ _ l0_2 false _ ?side1 ?side2 ?side3 ?side4 ?side5 ?side6 A3.out).mono ?_); (case side1 => exact ca (Kd.C_below HR0_0.out HB.out)); (case side2 => exact HC0_0.out); (case side3 => exact ca (Kd.C_below HR0_1.out HB.out)); (case side4 => exact HC0_1.out); (case side5 => exact ca (Kd.C_below HR0_2.out HB.out)); (case side6 => exact HC0_2.out); rintro e w246 ⟨rfl, hb⟩; refine ⟨_, rfl, ?_⟩; replace BK774 := bb_ BK774 hb; replace BK775 := bb_ BK775 hb; replace BK776 := bb_ BK776 hb; replace HB := bst_ HB hb; clear hb; have hnb247 := NB776_775.out; have hnc247 := NB775_776.out; have hcz248_0 : w246.cell? ⟨gb776, 0, none⟩ = some (.slice none 0 0) := bc_ BK776 0; have hcz248_1 : w246.cell? ⟨gb776, 1, none⟩ = some (.slice none 0 0) := bc_ BK776 1; have hcz248_2 : w246.cell? ⟨gb776, 2, none⟩ = some (.slice none 0 0) := bc_ BK776 2; have hfz248_0 := blk_frozen BK776.out 0; have hfz248_1 := blk_frozen BK776.out 1; have hfz248_2 := blk_frozen BK776.out 2))
  refine bodyPost_ret (results_ct rfl _ _ gb776 35 #[.slice none 0 0, .slice none 0 0, .slice none 0 0] (0, 0) _ rfl (by (with_reducible repeat (first | refine blk_drewN ?_ _ | refine blk_drew ?_ | refine blk_alloc ?_ _)); refine blk_put (cs := #[.slice none 0 0, .slice none 0 0, .slice none 0 0]) ?_ 2 _ rfl; (with_reducible repeat (first | refine blk_drewN ?_ _ | refine blk_drew ?_ | refine blk_alloc ?_ _)); refine blk_put (cs := #[.slice none 0 0, .slice none 0 0, .slice none 0 0]) ?_ 1 _ rfl; (with_reducible repeat (first | refine blk_drewN ?_ _ | refine blk_drew ?_ | refine blk_alloc ?_ _)); refine blk_put (cs := #[.slice none 0 0, .slice none 0 0, .slice none 0 0]) ?_ 0 _ rfl; (with_reducible repeat (first | refine blk_drewN ?_ _ | refine blk_drew ?_ | refine blk_alloc ?_ _)); exact BK776.out) Try.underlying35 rfl (by kernel_rfl)) rfl ?_
  exact ⟨_, _, _, by first | rfl | (simp [errW_none, errW_some] <;> rfl) | (simp [*, errW_none, errW_some] <;> rfl), by first | exact Kd.R_nil _ _ _ _ _ | exact Kd.N_nil _ _ _ _ _ | exact Kd.V_nil _ _ _ _ _ | exact Kd.Q_nil _ _ _ _ _ | exact Kd.S_nil _ _ _ _ _, by first | exact Kd.R_nil _ _ _ _ _ | exact Kd.N_nil _ _ _ _ _ | exact Kd.V_nil _ _ _ _ _ | exact Kd.Q_nil _ _ _ _ _ | exact Kd.S_nil _ _ _ _ _, by first | exact Kd.R_nil _ _ _ _ _ | exact Kd.N_nil _ _ _ _ _ | exact Kd.V_nil _ _ _ _ _ | exact Kd.Q_nil _ _ _ _ _ | exact Kd.S_nil _ _ _ _ _, by repeat (first | (with_reducible first | exact HB.out | apply below_alloc | apply pw_below_drewN | apply below_drew1 | refine below_set ?_ GE774.out | refine below_set ?_ GE775.out | refine below_set ?_ GE776.out) | exact HB.out)⟩
 subst c4
 rw [if_pos rfl] at H
 replace H := Option.bind_eq_some_iff.mp H
 obtain ⟨⟨t778, t781, t784⟩, A50, H⟩ := H
 replace H : (if a1_0 = 1 then ((impl_in.f a1_1 0 1).bind fun t788 => (if t788 = true then (if (l0_2.length : Int) ≥ 12 then (some (([] : List Int), ([] : List Int), ([] : List (S45)), false)) else (if 0 ≤ a1_1 then (if a1_1 < (l0_0.length : Int) then (if t784.length < 8796093022208 then (some (t778, t781, (t784 ++ [(⟨a1_1, ((rd l0_0 a1_1) != 0)⟩ : S45)]), true)) else (none)) else (none)) else (none))) else (some (([] : List Int), ([] : List Int), ([] : List (S45)), false)))) else (if a1_0 = 2 then (impl_StepPair.j0 k a1_0 (a1_0 == 2) l0_0 l0_1 l0_2 a1_0 a1_1 t778 t781 t784) else (impl_StepPair.j0 k a1_0 (a1_0 == 3) l0_0 l0_1 l0_2 a1_0 a1_1 t778 t781 t784))) = some (r1, r2, r3, r4) := H
 have A5 := Aside0.mk A50
 clear A50
 by_cases c6 : a1_0 = 1
 ·rw [if_pos c6] at H
  have c6b0 : (a1_0 == 1) = true := beq_iff_eq.mpr c6
  have c6b1 : (a1_0 != 1) = false := bne_eq_false_iff_eq.mpr c6
  clear c6
  replace H := Option.bind_eq_some_iff.mp H
  obtain ⟨t788, A70, H⟩ := H
  replace H : (if t788 = true then (if (l0_2.length : Int) ≥ 12 then (some (([] : List Int), ([] : List Int), ([] : List (S45)), false)) else (if 0 ≤ a1_1 then (if a1_1 < (l0_0.length : Int) then (if t784.length < 8796093022208 then (some (t778, t781, (t784 ++ [(⟨a1_1, ((rd l0_0 a1_1) != 0)⟩ : S45)]), true)) else (none)) else (none)) else (none))) else (some (([] : List Int), ([] : List Int), ([] : List (S45)), false))) = some (r1, r2, r3, r4) := H
  have A7 := Aside0.mk A70
  clear A70
  by_cases c8 : t788 = true
  rotate_left
  ·replace c8 := Bool.eq_false_iff.mpr c8
   subst c8
   rw [if_neg (show ¬ (false = true) by decide)] at H
   simp only [Option.some.injEq, Prod.mk.injEq] at H
   obtain ⟨rfl, rfl, rfl, rfl⟩ := H
   go_enter Try.func18, Try.ntmps18
   go_wp2_with (first | ((with_reducible refine gate_dst (N := 2) rfl ?_); (try (refine gate_guard (by rfl) ?_; dsimp only)); refine box_event ?hg (N := 2) ?hd (cs := #[.slice A0_0 l0_0.length c0_0, .slice A0_1 l0_1.length c0_1, .slice A0_2 l0_2.length c0_2]) (t := 35) ?hr ?_; (case hd => rfl); (case hg => rfl); (case hr => first | (go_simp; done) | (go_simp; rfl)); intro gb774 hg w61 hbox hb; have BK774 := Aside0.mk (hbox); have GW774 := gw_ hg HB; have GE774 := gw_ hg HB; replace HB := bst_ HB hb; clear hb hbox hg) | ((with_reducible refine gate_dst (N := 3) rfl ?_); (try (refine gate_guard (by rfl) ?_; dsimp only)); refine box_event ?hg (N := 3) ?hd (cs := #[.int .i64 a1_0, .int .i64 a1_1]) (t := 37) ?hr ?_; (case hd => rfl); (case hg => rfl); (case hr => first | (go_simp; done) | (go_simp; rfl)); intro gb775 hg w62 hbox hb; have BK775 := Aside0.mk (hbox); have GW775 := gw_ hg HB; have GE775 := gw_ hg HB; have NB774_775 := nl_ hg BK774; have NB775_774 := ng_ hg BK774; replace BK774 := bb_ BK774 hb; replace HB := bst_ HB hb; clear hb hbox hg) | ((with_reducible refine gate_dst (N := 4) rfl ?_); (try (refine gate_guard (by rfl) ?_; dsimp only)); refine box_event ?hg (N := 4) ?hd (cs := #[.slice none 0 0, .slice none 0 0, .slice none 0 0]) (t := 35) ?hr ?_; (case hd => rfl); (case hg => rfl); (case hr => first | (go_simp; done) | (go_simp; rfl)); intro gb776 hg w63 hbox hb; have BK776 := Aside0.mk (hbox); have GW776 := gw_ hg HB; have GE776 := gw_ hg HB; have NB774_776 := nl_ hg BK774; have NB776_774 := ng_ hg BK774; have NB775_776 := nl_ hg BK775; have NB776_775 := ng_ hg BK775; replace BK774 := bb_ BK774 hb; replace BK775 := bb_ BK775 hb; replace HB := bst_ HB hb; clear hb hbox hg; have hnb64 := NB774_775.out; have hnc64 := NB775_774.out; have hnb65 := NB774_776.out; have hnc65 := NB776_774.out; have hcz66_0 : w63.cell? ⟨gb774, 0, none⟩ = some (.slice A0_0 l0_0.length c0_0) := bc_ BK774 0; have hcz66_1 : w63.cell? ⟨gb774, 1, none⟩ = some (.slice A0_1 l0_1.length c0_1) := bc_ BK774 1; have hcz66_2 : w63.cell? ⟨gb774, 2, none⟩ = some (.slice A0_2 l0_2.length c0_2) := bc_ BK774 2; have hfz66_0 := blk_frozen BK774.out 0; have hfz66_1 := blk_frozen BK774.out 1; have hfz66_2 := blk_frozen BK774.out 2) | ((with_reducible refine gate_callee (f := 21) rfl ?_); refine goesL_ (some 10) rfl rfl Try.func21 (by kernel_rfl) rfl #[.agg #[.slice A0_0 l0_0.length c0_0, .slice A0_1 l0_1.length c0_1, .slice A0_2 l0_2.length c0_2]] rfl tm_ ?_; (with_reducible refine (impl_GoodPair.calls k _ _ l0_0 _ _ l0_1 _ _ l0_2 true _ ?side1 ?side2 ?side3 ?side4 ?side5 ?side6 A3.out).mono ?_); (case side1 => exact ca (Kd.C_below HR0_0.out HB.out)); (case side2 => exact HC0_0.out); (case side3 => exact ca (Kd.C_below HR0_1.out HB.out)); (case side4 => exact HC0_1.out); (case side5 => exact ca (Kd.C_below HR0_2.out HB.out)); (case side6 => exact HC0_2.out); rintro e w67 ⟨rfl, hb⟩; refine ⟨_, rfl, ?_⟩; replace BK774 := bb_ BK774 hb; replace BK775 := bb_ BK775 hb; replace BK776 := bb_ BK776 hb; replace HB := bst_ HB hb; clear hb; have hcz68_0 : w67.cell? ⟨gb774, 0, none⟩ = some (.slice A0_0 l0_0.length c0_0) := bc_ BK774 0; have hcz68_1 : w67.cell? ⟨gb774, 1, none⟩ = some (.slice A0_1 l0_1.length c0_1) := bc_ BK774 1; have hcz68_2 : w67.cell? ⟨gb774, 2, none⟩ = some (.slice A0_2 l0_2.length c0_2) := bc_ BK774 2; have hfz68_0 := blk_frozen BK774.out 0; have hfz68_1 := blk_frozen BK774.out 1; have hfz68_2 := blk_frozen BK774.out 2) | ((with_reducible refine gate_callee (f := 83) rfl ?_); refine goesL_ (some 14) rfl rfl Try.func83 (by kernel_rfl) rfl #[.agg #[.slice A0_0 l0_0.length c0_0, .slice A0_1 l0_1.length c0_1, .slice A0_2 l0_2.length c0_2]] rfl tm_ ?_; (with_reducible refine (impl_Pair_own.calls _ _ l0_0 _ _ l0_1 _ _ l0_2 t778 t781 t784 _ ?side1 ?side2 ?side3 ?side4 ?side5 ?side6 A5.out).mono ?_); (case side1 => exact ca (Kd.C_below HR0_0.out HB.out)); (case side2 => exact HC0_0.out); (case side3 => exact ca (Kd.C_below HR0_1.out HB.out)); (case side4 => exact HC0_1.out); (case side5 => exact ca (Kd.C_below HR0_2.out HB.out)); (case side6 => exact HC0_2.out); rintro e w69 ⟨v779, v782, v785, rfl, ho0, ho1, ho2, hb⟩; refine ⟨_, rfl, ?_⟩; have HO780 := Aside0.mk (Kd.R_lower ho0 (below_size (hB HB))); have HO783 := Aside0.mk (Kd.R_lower ho1 (below_size (hB HB))); have HO786 := Aside0.mk (Kd.R_lower ho2 (below_size (hB HB))); replace BK774 := bb_ BK774 hb; replace BK775 := bb_ BK775 hb; replace BK776 := bb_ BK776 hb; replace HB := bst_ HB hb; clear hb ho0 ho1 ho2) | ((with_reducible refine gate_dst (N := 6) rfl ?_); (try (refine gate_guard (by rfl) ?_; dsimp only)); refine box_event ?hg (N := 6) ?hd (cs := #[.slice none 0 0, .slice none 0 0, .slice none 0 0]) (t := 35) ?hr ?_; (case hd => rfl); (case hg => rfl); (case hr => first | (go_simp; done) | (go_simp; rfl)); intro gb787 hg w70 hbox hb; have BK787 := Aside0.mk (hbox); have GW787 := gw_ hg HB; have GE787 := gw_ hg HB; have NB774_787 := nl_ hg BK774; have NB787_774 := ng_ hg BK774; have NB775_787 := nl_ hg BK775; have NB787_775 := ng_ hg BK775; have NB776_787 := nl_ hg BK776; have NB787_776 := ng_ hg BK776; replace HO780 := rb_ HO780 hb; replace HO783 := rb_ HO783 hb; replace HO786 := rb_ HO786 hb; replace BK774 := bb_ BK774 hb; replace BK775 := bb_ BK775 hb; replace BK776 := bb_ BK776 hb; replace HB := bst_ HB hb; clear hb hbox hg; obtain ⟨Ao71, co71, eo71⟩ := Kd.R_slice HO780.out; subst eo71; have hnb72 := NB787_774.out; have hnc72 := NB774_787.out; have hnb73 := NB787_775.out; have hnc73 := NB775_787.out; have hnb74 := NB787_776.out; have hnc74 := NB776_787.out; have hcz75_0 : w70.cell? ⟨gb787, 0, none⟩ = some (.slice none 0 0) := bc_ BK787 0; have hcz75_1 : w70.cell? ⟨gb787, 1, none⟩ = some (.slice none 0 0) := bc_ BK787 1; have hcz75_2 : w70.cell? ⟨gb787, 2, none⟩ = some (.slice none 0 0) := bc_ BK787 2; have hfz75_0 := blk_frozen BK787.out 0; have hfz75_1 := blk_frozen BK787.out 1; have hfz75_2 := blk_frozen BK787.out 2; obtain ⟨Ao76, co76, eo76⟩ := Kd.R_slice HO783.out; subst eo76; obtain ⟨Ao77, co77, eo77⟩ := Kd.R_slice HO786.out; subst eo77; have hnb78 := NB775_776.out; have hnc78 := NB776_775.out; have hcz79_0 : w70.cell? ⟨gb775, 0, none⟩ = some (.int .i64 a1_0) := bc_ BK775 0; have hcz79_1 : w70.cell? ⟨gb775, 1, none⟩ = some (.int .i64 a1_1) := bc_ BK775 1; have hfz79_0 := blk_frozen BK775.out 0; have hfz79_1 := blk_frozen BK775.out 1) | ((with_reducible refine gate_callee (f := 84) rfl ?_); refine goesL_ (some 22) rfl rfl Try.func84 (by kernel_rfl) rfl #[.int .i64 a1_1, .int .i64 0, .int .i64 1] rfl tm_ ?_; (with_reducible refine (impl_in.calls a1_1 0 1 false _ A7.out).mono ?_); rintro e w' ⟨rfl, ⟨nd, rfl⟩⟩; refine ⟨_, rfl, ?_⟩; have hcz80_0 : w70.cell? ⟨gb776, 0, none⟩ = some (.slice none 0 0) := bc_ BK776 0; have hcz80_1 : w70.cell? ⟨gb776, 1, none⟩ = some (.slice none 0 0) := bc_ BK776 1; have hcz80_2 : w70.cell? ⟨gb776, 2, none⟩ = some (.slice none 0 0) := bc_ BK776 2; have hfz80_0 := blk_frozen BK776.out 0; have hfz80_1 := blk_frozen BK776.out 1; have hfz80_2 := blk_frozen BK776.out 2))
   refine bodyPost_ret (results_ct rfl _ _ gb776 35 #[.slice none 0 0, .slice none 0 0, .slice none 0 0] (0, 0) _ rfl (by (with_reducible repeat (first | refine blk_drewN ?_ _ | refine blk_drew ?_ | refine blk_alloc ?_ _)); refine blk_put (cs := #[.slice none 0 0, .slice none 0 0, .slice none 0 0]) ?_ 2 _ rfl; (with_reducible repeat (first | refine blk_drewN ?_ _ | refine blk_drew ?_ | refine blk_alloc ?_ _)); refine blk_put (cs := #[.slice none 0 0, .slice none 0 0, .slice none 0 0]) ?_ 1 _ rfl; (with_reducible repeat (first | refine blk_drewN ?_ _ | refine blk_drew ?_ | refine blk_alloc ?_ _)); refine blk_put (cs := #[.slice none 0 0, .slice none 0 0, .slice none 0 0]) ?_ 0 _ rfl; (with_reducible repeat (first | refine blk_drewN ?_ _ | refine blk_drew ?_ | refine blk_alloc ?_ _)); refine blk_far ?_ NB776_787.out _; (with_reducible repeat (first | refine blk_drewN ?_ _ | refine blk_drew ?_ | refine blk_alloc ?_ _)); refine blk_far ?_ NB776_787.out _; (with_reducible repeat (first | refine blk_drewN ?_ _ | refine blk_drew ?_ | refine blk_alloc ?_ _)); refine blk_far ?_ NB776_787.out _; (with_reducible repeat (first | refine blk_drewN ?_ _ | refine blk_drew ?_ | refine blk_alloc ?_ _)); exact BK776.out) Try.underlying35 rfl (by kernel_rfl)) rfl ?_
   exact ⟨_, _, _, by first | rfl | (simp [errW_none, errW_some] <;> rfl) | (simp [*, errW_none, errW_some] <;> rfl), by first | exact Kd.R_nil _ _ _ _ _ | exact Kd.N_nil _ _ _ _ _ | exact Kd.V_nil _ _ _ _ _ | exact Kd.Q_nil _ _ _ _ _ | exact Kd.S_nil _ _ _ _ _, by first | exact Kd.R_nil _ _ _ _ _ | exact Kd.N_nil _ _ _ _ _ | exact Kd.V_nil _ _ _ _ _ | exact Kd.Q_nil _ _ _ _ _ | exact Kd.S_nil _ _ _ _ _, by first | exact Kd.R_nil _ _ _ _ _ | exact Kd.N_nil _ _ _ _ _ | exact Kd.V_nil _ _ _ _ _ | exact Kd.Q_nil _ _ _ _ _ | exact Kd.S_nil _ _ _ _ _, by repeat (first | (with_reducible first | exact HB.out | apply below_alloc | apply pw_below_drewN | apply below_drew1 | refine below_set ?_ GE774.out | refine below_set ?_ GE775.out | refine below_set ?_ GE776.out | refine below_set ?_ GE787.out) | exact HB.out)⟩
  subst c8
  rw [if_pos rfl] at H
  by_cases c9 : (l0_2.length : Int) ≥ 12
  ·rw [if_pos c9] at H
   have c9b0 : decide (12 ≤ (l0_2.length : Int)) = true := decide_eq_true c9
   have c9b1 : decide (12 ≤ l0_2.length) = true := decide_eq_true (by omega)
   clear c9
   simp only [Option.some.injEq, Prod.mk.injEq] at H
   obtain ⟨rfl, rfl, rfl, rfl⟩ := H
   go_enter Try.func18, Try.ntmps18
   go_wp2_with (first | ((with_reducible refine gate_dst (N := 2) rfl ?_); (try (refine gate_guard (by rfl) ?_; dsimp only)); refine box_event ?hg (N := 2) ?hd (cs := #[.slice A0_0 l0_0.length c0_0, .slice A0_1 l0_1.length c0_1, .slice A0_2 l0_2.length c0_2]) (t := 35) ?hr ?_; (case hd => rfl); (case hg => rfl); (case hr => first | (go_simp; done) | (go_simp; rfl)); intro gb774 hg w10 hbox hb; have BK774 := Aside0.mk (hbox); have GW774 := gw_ hg HB; have GE774 := gw_ hg HB; replace HB := bst_ HB hb; clear hb hbox hg) | ((with_reducible refine gate_dst (N := 3) rfl ?_); (try (refine gate_guard (by rfl) ?_; dsimp only)); refine box_event ?hg (N := 3) ?hd (cs := #[.int .i64 a1_0, .int .i64 a1_1]) (t := 37) ?hr ?_; (case hd => rfl); (case hg => rfl); (case hr => first | (go_simp; done) | (go_simp; rfl)); intro gb775 hg w11 hbox hb; have BK775 := Aside0.mk (hbox); have GW775 := gw_ hg HB; have GE775 := gw_ hg HB; have NB774_775 := nl_ hg BK774; have NB775_774 := ng_ hg BK774; replace BK774 := bb_ BK774 hb; replace HB := bst_ HB hb; clear hb hbox hg) | ((with_reducible refine gate_dst (N := 4) rfl ?_); (try (refine gate_guard (by rfl) ?_; dsimp only)); refine box_event ?hg (N := 4) ?hd (cs := #[.slice none 0 0, .slice none 0 0, .slice none 0 0]) (t := 35) ?hr ?_; (case hd => rfl); (case hg => rfl); (case hr => first | (go_simp; done) | (go_simp; rfl)); intro gb776 hg w12 hbox hb; have BK776 := Aside0.mk (hbox); have GW776 := gw_ hg HB; have GE776 := gw_ hg HB; have NB774_776 := nl_ hg BK774; have NB776_774 := ng_ hg BK774; have NB775_776 := nl_ hg BK775; have NB776_775 := ng_ hg BK775; replace BK774 := bb_ BK774 hb; replace BK775 := bb_ BK775 hb; replace HB := bst_ HB hb; clear hb hbox hg; have hnb13 := NB774_775.out; have hnc13 := NB775_774.out; have hnb14 := NB774_776.out; have hnc14 := NB776_774.out; have hcz15_0 : w12.cell? ⟨gb774, 0, none⟩ = some (.slice A0_0 l0_0.length c0_0) := bc_ BK774 0; have hcz15_1 : w12.cell? ⟨gb774, 1, none⟩ = some (.slice A0_1 l0_1.length c0_1) := bc_ BK774 1; have hcz15_2 : w12.cell? ⟨gb774, 2, none⟩ = some (.slice A0_2 l0_2.length c0_2) := bc_ BK774 2; have hfz15_0 := blk_frozen BK774.out 0; have hfz15_1 := blk_frozen BK774.out 1; have hfz15_2 := blk_frozen BK774.out 2) | ((with_reducible refine gate_callee (f := 21) rfl ?_); refine goesL_ (some 10) rfl rfl Try.func21 (by kernel_rfl) rfl #[.agg #[.slice A0_0 l0_0.length c0_0, .slice A0_1 l0_1.length c0_1, .slice A0_2 l0_2.length c0_2]] rfl tm_ ?_; (with_reducible refine (impl_GoodPair.calls k _ _ l0_0 _ _ l0_1 _ _ l0_2 true _ ?side1 ?side2 ?side3 ?side4 ?side5 ?side6 A3.out).mono ?_); (case side1 => exact ca (Kd.C_below HR0_0.out HB.out)); (case side2 => exact HC0_0.out); (case side3 => exact ca (Kd.C_below HR0_1.out HB.out)); (case side4 => exact HC0_1.out); (case side5 => exact ca (Kd.C_below HR0_2.out HB.out)); (case side6 => exact HC0_2.out); rintro e w16 ⟨rfl, hb⟩; refine ⟨_, rfl, ?_⟩; replace BK774 := bb_ BK774 hb; replace BK775 := bb_ BK775 hb; replace BK776 := bb_ BK776 hb; replace HB := bst_ HB hb; clear hb; have hcz17_0 : w16.cell? ⟨gb774, 0, none⟩ = some (.slice A0_0 l0_0.length c0_0) := bc_ BK774 0; have hcz17_1 : w16.cell? ⟨gb774, 1, none⟩ = some (.slice A0_1 l0_1.length c0_1) := bc_ BK774 1; have hcz17_2 : w16.cell? ⟨gb774, 2, none⟩ = some (.slice A0_2 l0_2.length c0_2) := bc_ BK774 2; have hfz17_0 := blk_frozen BK774.out 0; have hfz17_1 := blk_frozen BK774.out 1; have hfz17_2 := blk_frozen BK774.out 2) | ((with_reducible refine gate_callee (f := 83) rfl ?_); refine goesL_ (some 14) rfl rfl Try.func83 (by kernel_rfl) rfl #[.agg #[.slice A0_0 l0_0.length c0_0, .slice A0_1 l0_1.length c0_1, .slice A0_2 l0_2.length c0_2]] rfl tm_ ?_; (with_reducible refine (impl_Pair_own.calls _ _ l0_0 _ _ l0_1 _ _ l0_2 t778 t781 t784 _ ?side1 ?side2 ?side3 ?side4 ?side5 ?side6 A5.out).mono ?_); (case side1 => exact ca (Kd.C_below HR0_0.out HB.out)); (case side2 => exact HC0_0.out); (case side3 => exact ca (Kd.C_below HR0_1.out HB.out)); (case side4 => exact HC0_1.out); (case side5 => exact ca (Kd.C_below HR0_2.out HB.out)); (case side6 => exact HC0_2.out); rintro e w18 ⟨v779, v782, v785, rfl, ho0, ho1, ho2, hb⟩; refine ⟨_, rfl, ?_⟩; have HO780 := Aside0.mk (Kd.R_lower ho0 (below_size (hB HB))); have HO783 := Aside0.mk (Kd.R_lower ho1 (below_size (hB HB))); have HO786 := Aside0.mk (Kd.R_lower ho2 (below_size (hB HB))); replace BK774 := bb_ BK774 hb; replace BK775 := bb_ BK775 hb; replace BK776 := bb_ BK776 hb; replace HB := bst_ HB hb; clear hb ho0 ho1 ho2) | ((with_reducible refine gate_dst (N := 6) rfl ?_); (try (refine gate_guard (by rfl) ?_; dsimp only)); refine box_event ?hg (N := 6) ?hd (cs := #[.slice none 0 0, .slice none 0 0, .slice none 0 0]) (t := 35) ?hr ?_; (case hd => rfl); (case hg => rfl); (case hr => first | (go_simp; done) | (go_simp; rfl)); intro gb787 hg w19 hbox hb; have BK787 := Aside0.mk (hbox); have GW787 := gw_ hg HB; have GE787 := gw_ hg HB; have NB774_787 := nl_ hg BK774; have NB787_774 := ng_ hg BK774; have NB775_787 := nl_ hg BK775; have NB787_775 := ng_ hg BK775; have NB776_787 := nl_ hg BK776; have NB787_776 := ng_ hg BK776; replace HO780 := rb_ HO780 hb; replace HO783 := rb_ HO783 hb; replace HO786 := rb_ HO786 hb; replace BK774 := bb_ BK774 hb; replace BK775 := bb_ BK775 hb; replace BK776 := bb_ BK776 hb; replace HB := bst_ HB hb; clear hb hbox hg; obtain ⟨Ao20, co20, eo20⟩ := Kd.R_slice HO780.out; subst eo20; have hnb21 := NB787_774.out; have hnc21 := NB774_787.out; have hnb22 := NB787_775.out; have hnc22 := NB775_787.out; have hnb23 := NB787_776.out; have hnc23 := NB776_787.out; have hcz24_0 : w19.cell? ⟨gb787, 0, none⟩ = some (.slice none 0 0) := bc_ BK787 0; have hcz24_1 : w19.cell? ⟨gb787, 1, none⟩ = some (.slice none 0 0) := bc_ BK787 1; have hcz24_2 : w19.cell? ⟨gb787, 2, none⟩ = some (.slice none 0 0) := bc_ BK787 2; have hfz24_0 := blk_frozen BK787.out 0; have hfz24_1 := blk_frozen BK787.out 1; have hfz24_2 := blk_frozen BK787.out 2; obtain ⟨Ao25, co25, eo25⟩ := Kd.R_slice HO783.out; subst eo25; obtain ⟨Ao26, co26, eo26⟩ := Kd.R_slice HO786.out; subst eo26; have hnb27 := NB775_776.out; have hnc27 := NB776_775.out; have hcz28_0 : w19.cell? ⟨gb775, 0, none⟩ = some (.int .i64 a1_0) := bc_ BK775 0; have hcz28_1 : w19.cell? ⟨gb775, 1, none⟩ = some (.int .i64 a1_1) := bc_ BK775 1; have hfz28_0 := blk_frozen BK775.out 0; have hfz28_1 := blk_frozen BK775.out 1) | ((with_reducible refine gate_callee (f := 84) rfl ?_); refine goesL_ (some 22) rfl rfl Try.func84 (by kernel_rfl) rfl #[.int .i64 a1_1, .int .i64 0, .int .i64 1] rfl tm_ ?_; (with_reducible refine (impl_in.calls a1_1 0 1 true _ A7.out).mono ?_); rintro e w' ⟨rfl, ⟨nd, rfl⟩⟩; refine ⟨_, rfl, ?_⟩; have hcz29_0 : w19.cell? ⟨gb774, 0, none⟩ = some (.slice A0_0 l0_0.length c0_0) := bc_ BK774 0; have hcz29_1 : w19.cell? ⟨gb774, 1, none⟩ = some (.slice A0_1 l0_1.length c0_1) := bc_ BK774 1; have hcz29_2 : w19.cell? ⟨gb774, 2, none⟩ = some (.slice A0_2 l0_2.length c0_2) := bc_ BK774 2; have hfz29_0 := blk_frozen BK774.out 0; have hfz29_1 := blk_frozen BK774.out 1; have hfz29_2 := blk_frozen BK774.out 2; have hcz30_0 : w19.cell? ⟨gb776, 0, none⟩ = some (.slice none 0 0) := bc_ BK776 0; have hcz30_1 : w19.cell? ⟨gb776, 1, none⟩ = some (.slice none 0 0) := bc_ BK776 1; have hcz30_2 : w19.cell? ⟨gb776, 2, none⟩ = some (.slice none 0 0) := bc_ BK776 2; have hfz30_0 := blk_frozen BK776.out 0; have hfz30_1 := blk_frozen BK776.out 1; have hfz30_2 := blk_frozen BK776.out 2))
   refine bodyPost_ret (results_ct rfl _ _ gb776 35 #[.slice none 0 0, .slice none 0 0, .slice none 0 0] (0, 0) _ rfl (by (with_reducible repeat (first | refine blk_drewN ?_ _ | refine blk_drew ?_ | refine blk_alloc ?_ _)); refine blk_put (cs := #[.slice none 0 0, .slice none 0 0, .slice none 0 0]) ?_ 2 _ rfl; (with_reducible repeat (first | refine blk_drewN ?_ _ | refine blk_drew ?_ | refine blk_alloc ?_ _)); refine blk_put (cs := #[.slice none 0 0, .slice none 0 0, .slice none 0 0]) ?_ 1 _ rfl; (with_reducible repeat (first | refine blk_drewN ?_ _ | refine blk_drew ?_ | refine blk_alloc ?_ _)); refine blk_put (cs := #[.slice none 0 0, .slice none 0 0, .slice none 0 0]) ?_ 0 _ rfl; (with_reducible repeat (first | refine blk_drewN ?_ _ | refine blk_drew ?_ | refine blk_alloc ?_ _)); refine blk_far ?_ NB776_787.out _; (with_reducible repeat (first | refine blk_drewN ?_ _ | refine blk_drew ?_ | refine blk_alloc ?_ _)); refine blk_far ?_ NB776_787.out _; (with_reducible repeat (first | refine blk_drewN ?_ _ | refine blk_drew ?_ | refine blk_alloc ?_ _)); refine blk_far ?_ NB776_787.out _; (with_reducible repeat (first | refine blk_drewN ?_ _ | refine blk_drew ?_ | refine blk_alloc ?_ _)); exact BK776.out) Try.underlying35 rfl (by kernel_rfl)) rfl ?_
   exact ⟨_, _, _, by first | rfl | (simp [errW_none, errW_some] <;> rfl) | (simp [*, errW_none, errW_some] <;> rfl), by first | exact Kd.R_nil _ _ _ _ _ | exact Kd.N_nil _ _ _ _ _ | exact Kd.V_nil _ _ _ _ _ | exact Kd.Q_nil _ _ _ _ _ | exact Kd.S_nil _ _ _ _ _, by first | exact Kd.R_nil _ _ _ _ _ | exact Kd.N_nil _ _ _ _ _ | exact Kd.V_nil _ _ _ _ _ | exact Kd.Q_nil _ _ _ _ _ | exact Kd.S_nil _ _ _ _ _, by first | exact Kd.R_nil _ _ _ _ _ | exact Kd.N_nil _ _ _ _ _ | exact Kd.V_nil _ _ _ _ _ | exact Kd.Q_nil _ _ _ _ _ | exact Kd.S_nil _ _ _ _ _, by repeat (first | (with_reducible first | exact HB.out | apply below_alloc | apply pw_below_drewN | apply below_drew1 | refine below_set ?_ GE774.out | refine below_set ?_ GE775.out | refine below_set ?_ GE776.out | refine below_set ?_ GE787.out) | exact HB.out)⟩
  rw [if_neg c9] at H
  have c9b0 : decide (12 ≤ (l0_2.length : Int)) = false := decide_eq_false c9
  have c9b1 : decide (12 ≤ l0_2.length) = false := decide_eq_false (by omega)
  clear c9
  by_cases c31 : 0 ≤ a1_1
  rotate_left
  ·rw [if_neg c31] at H
   exact absurd H (by simp)
  rw [if_pos c31] at H
  have c31b0 : decide (0 ≤ a1_1) = true := decide_eq_true c31
  clear c31
  by_cases c32 : a1_1 < (l0_0.length : Int)
  rotate_left
  ·rw [if_neg c32] at H
   exact absurd H (by simp)
  rw [if_pos c32] at H
  have c32b0 : decide (a1_1 < (l0_0.length : Int)) = true := decide_eq_true c32
  clear c32
  by_cases c33 : t784.length < 8796093022208
  rotate_left
  ·rw [if_neg c33] at H
   exact absurd H (by simp)
  rw [if_pos c33] at H
  have LMc33 := Aside0.mk c33
  clear c33
  obtain ⟨y790, hy790⟩ : ∃ y_ : List (S45), y_ = (t784 ++ [(⟨a1_1, ((rd l0_0 a1_1) != 0)⟩ : S45)]) := ⟨_, rfl⟩
  replace H : (some (t778, t781, y790, true)) = some (r1, r2, r3, r4) := by first | (rw [hy790]; with_reducible exact H) | (have H2_ := (Option.bind_some _ _).symm.trans H; rw [hy790]; with_reducible exact H2_) | (have H2_ := (Option.bind_some _ _).symm.trans H; with_reducible exact H2_) | with_reducible exact H | (rw [hy790]; exact H) | exact H
  have Ny790 := Aside0.mk hy790
  clear hy790
  simp only [Option.some.injEq, Prod.mk.injEq] at H
  obtain ⟨rfl, rfl, rfl, rfl⟩ := H
  go_enter Try.func18, Try.ntmps18
  try go_wp2_with (first | ((with_reducible refine gate_dst (N := 2) rfl ?_); (try (refine gate_guard (by rfl) ?_; dsimp only)); refine box_event ?hg (N := 2) ?hd (cs := #[.slice A0_0 l0_0.length c0_0, .slice A0_1 l0_1.length c0_1, .slice A0_2 l0_2.length c0_2]) (t := 35) ?hr ?_; (case hd => rfl); (case hg => rfl); (case hr => first | (go_simp; done) | (go_simp; rfl)); intro gb774 hg w34 hbox hb; have BK774 := Aside0.mk (hbox); have GW774 := gw_ hg HB; have GE774 := gw_ hg HB; replace HB := bst_ HB hb; clear hb hbox hg) | ((with_reducible refine gate_dst (N := 3) rfl ?_); (try (refine gate_guard (by rfl) ?_; dsimp only)); refine box_event ?hg (N := 3) ?hd (cs := #[.int .i64 a1_0, .int .i64 a1_1]) (t := 37) ?hr ?_; (case hd => rfl); (case hg => rfl); (case hr => first | (go_simp; done) | (go_simp; rfl)); intro gb775 hg w35 hbox hb; have BK775 := Aside0.mk (hbox); have GW775 := gw_ hg HB; have GE775 := gw_ hg HB; have NB774_775 := nl_ hg BK774; have NB775_774 := ng_ hg BK774; replace BK774 := bb_ BK774 hb; replace HB := bst_ HB hb; clear hb hbox hg) | ((with_reducible refine gate_dst (N := 4) rfl ?_); (try (refine gate_guard (by rfl) ?_; dsimp only)); refine box_event ?hg (N := 4) ?hd (cs := #[.slice none 0 0, .slice none 0 0, .slice none 0 0]) (t := 35) ?hr ?_; (case hd => rfl); (case hg => rfl); (case hr => first | (go_simp; done) | (go_simp; rfl)); intro gb776 hg w36 hbox hb; have BK776 := Aside0.mk (hbox); have GW776 := gw_ hg HB; have GE776 := gw_ hg HB; have NB774_776 := nl_ hg BK774; have NB776_774 := ng_ hg BK774; have NB775_776 := nl_ hg BK775; have NB776_775 := ng_ hg BK775; replace BK774 := bb_ BK774 hb; replace BK775 := bb_ BK775 hb; replace HB := bst_ HB hb; clear hb hbox hg; have hnb37 := NB774_775.out; have hnc37 := NB775_774.out; have hnb38 := NB774_776.out; have hnc38 := NB776_774.out; have hcz39_0 : w36.cell? ⟨gb774, 0, none⟩ = some (.slice A0_0 l0_0.length c0_0) := bc_ BK774 0; have hcz39_1 : w36.cell? ⟨gb774, 1, none⟩ = some (.slice A0_1 l0_1.length c0_1) := bc_ BK774 1; have hcz39_2 : w36.cell? ⟨gb774, 2, none⟩ = some (.slice A0_2 l0_2.length c0_2) := bc_ BK774 2; have hfz39_0 := blk_frozen BK774.out 0; have hfz39_1 := blk_frozen BK774.out 1; have hfz39_2 := blk_frozen BK774.out 2) | ((with_reducible refine gate_callee (f := 21) rfl ?_); refine goesL_ (some 10) rfl rfl Try.func21 (by kernel_rfl) rfl #[.agg #[.slice A0_0 l0_0.length c0_0, .slice A0_1 l0_1.length c0_1, .slice A0_2 l0_2.length c0_2]] rfl tm_ ?_; (with_reducible refine (impl_GoodPair.calls k _ _ l0_0 _ _ l0_1 _ _ l0_2 true _ ?side1 ?side2 ?side3 ?side4 ?side5 ?side6 A3.out).mono ?_); (case side1 => exact ca (Kd.C_below HR0_0.out HB.out)); (case side2 => exact HC0_0.out); (case side3 => exact ca (Kd.C_below HR0_1.out HB.out)); (case side4 => exact HC0_1.out); (case side5 => exact ca (Kd.C_below HR0_2.out HB.out)); (case side6 => exact HC0_2.out); rintro e w40 ⟨rfl, hb⟩; refine ⟨_, rfl, ?_⟩; replace BK774 := bb_ BK774 hb; replace BK775 := bb_ BK775 hb; replace BK776 := bb_ BK776 hb; replace HB := bst_ HB hb; clear hb; have hcz41_0 : w40.cell? ⟨gb774, 0, none⟩ = some (.slice A0_0 l0_0.length c0_0) := bc_ BK774 0; have hcz41_1 : w40.cell? ⟨gb774, 1, none⟩ = some (.slice A0_1 l0_1.length c0_1) := bc_ BK774 1; have hcz41_2 : w40.cell? ⟨gb774, 2, none⟩ = some (.slice A0_2 l0_2.length c0_2) := bc_ BK774 2; have hfz41_0 := blk_frozen BK774.out 0; have hfz41_1 := blk_frozen BK774.out 1; have hfz41_2 := blk_frozen BK774.out 2) | ((with_reducible refine gate_callee (f := 83) rfl ?_); refine goesL_ (some 14) rfl rfl Try.func83 (by kernel_rfl) rfl #[.agg #[.slice A0_0 l0_0.length c0_0, .slice A0_1 l0_1.length c0_1, .slice A0_2 l0_2.length c0_2]] rfl tm_ ?_; (with_reducible refine (impl_Pair_own.calls _ _ l0_0 _ _ l0_1 _ _ l0_2 t778 t781 t784 _ ?side1 ?side2 ?side3 ?side4 ?side5 ?side6 A5.out).mono ?_); (case side1 => exact ca (Kd.C_below HR0_0.out HB.out)); (case side2 => exact HC0_0.out); (case side3 => exact ca (Kd.C_below HR0_1.out HB.out)); (case side4 => exact HC0_1.out); (case side5 => exact ca (Kd.C_below HR0_2.out HB.out)); (case side6 => exact HC0_2.out); rintro e w42 ⟨v779, v782, v785, rfl, ho0, ho1, ho2, hb⟩; refine ⟨_, rfl, ?_⟩; have HO780 := Aside0.mk (Kd.R_lower ho0 (below_size (hB HB))); have HO783 := Aside0.mk (Kd.R_lower ho1 (below_size (hB HB))); have HO786 := Aside0.mk (Kd.R_lower ho2 (below_size (hB HB))); replace BK774 := bb_ BK774 hb; replace BK775 := bb_ BK775 hb; replace BK776 := bb_ BK776 hb; replace HB := bst_ HB hb; clear hb ho0 ho1 ho2) | ((with_reducible refine gate_dst (N := 6) rfl ?_); (try (refine gate_guard (by rfl) ?_; dsimp only)); refine box_event ?hg (N := 6) ?hd (cs := #[.slice none 0 0, .slice none 0 0, .slice none 0 0]) (t := 35) ?hr ?_; (case hd => rfl); (case hg => rfl); (case hr => first | (go_simp; done) | (go_simp; rfl)); intro gb787 hg w43 hbox hb; have BK787 := Aside0.mk (hbox); have GW787 := gw_ hg HB; have GE787 := gw_ hg HB; have NB774_787 := nl_ hg BK774; have NB787_774 := ng_ hg BK774; have NB775_787 := nl_ hg BK775; have NB787_775 := ng_ hg BK775; have NB776_787 := nl_ hg BK776; have NB787_776 := ng_ hg BK776; replace HO780 := rb_ HO780 hb; replace HO783 := rb_ HO783 hb; replace HO786 := rb_ HO786 hb; replace BK774 := bb_ BK774 hb; replace BK775 := bb_ BK775 hb; replace BK776 := bb_ BK776 hb; replace HB := bst_ HB hb; clear hb hbox hg; obtain ⟨Ao44, co44, eo44⟩ := Kd.R_slice HO780.out; subst eo44; have hnb45 := NB787_774.out; have hnc45 := NB774_787.out; have hnb46 := NB787_775.out; have hnc46 := NB775_787.out; have hnb47 := NB787_776.out; have hnc47 := NB776_787.out; have hcz48_0 : w43.cell? ⟨gb787, 0, none⟩ = some (.slice none 0 0) := bc_ BK787 0; have hcz48_1 : w43.cell? ⟨gb787, 1, none⟩ = some (.slice none 0 0) := bc_ BK787 1; have hcz48_2 : w43.cell? ⟨gb787, 2, none⟩ = some (.slice none 0 0) := bc_ BK787 2; have hfz48_0 := blk_frozen BK787.out 0; have hfz48_1 := blk_frozen BK787.out 1; have hfz48_2 := blk_frozen BK787.out 2; obtain ⟨Ao49, co49, eo49⟩ := Kd.R_slice HO783.out; subst eo49; obtain ⟨Ao50, co50, eo50⟩ := Kd.R_slice HO786.out; subst eo50; have hnb51 := NB775_776.out; have hnc51 := NB776_775.out; have hcz52_0 : w43.cell? ⟨gb775, 0, none⟩ = some (.int .i64 a1_0) := bc_ BK775 0; have hcz52_1 : w43.cell? ⟨gb775, 1, none⟩ = some (.int .i64 a1_1) := bc_ BK775 1; have hfz52_0 := blk_frozen BK775.out 0; have hfz52_1 := blk_frozen BK775.out 1) | ((with_reducible refine gate_callee (f := 84) rfl ?_); refine goesL_ (some 22) rfl rfl Try.func84 (by kernel_rfl) rfl #[.int .i64 a1_1, .int .i64 0, .int .i64 1] rfl tm_ ?_; (with_reducible refine (impl_in.calls a1_1 0 1 true _ A7.out).mono ?_); rintro e w' ⟨rfl, ⟨nd, rfl⟩⟩; refine ⟨_, rfl, ?_⟩; have hcz53_0 : w43.cell? ⟨gb774, 0, none⟩ = some (.slice A0_0 l0_0.length c0_0) := bc_ BK774 0; have hcz53_1 : w43.cell? ⟨gb774, 1, none⟩ = some (.slice A0_1 l0_1.length c0_1) := bc_ BK774 1; have hcz53_2 : w43.cell? ⟨gb774, 2, none⟩ = some (.slice A0_2 l0_2.length c0_2) := bc_ BK774 2; have hfz53_0 := blk_frozen BK774.out 0; have hfz53_1 := blk_frozen BK774.out 1; have hfz53_2 := blk_frozen BK774.out 2))
  have n0_ : Aside0 (Kd.R (Kd.int .i64) 3 (((w43.setCell ⟨gb787, 0, none⟩ (.slice Ao44 t778.length co44)).setCell ⟨gb787, 1, none⟩ (.slice Ao49 t781.length co49)).setCell ⟨gb787, 2, none⟩ (.slice Ao50 t784.length co50)) w.heap.size (fun k_ => no_ (.slice Ao49 t781.length co49) k_) (.slice Ao44 t778.length co44) t778) := ⟨by (with_reducible repeat (first | apply Kd.R_alloc | apply Kd.R_drewN | apply Kd.R_drew)); exact Kd.R_mono (fs3_ HO780.out BK787.out) (fun _ hk => hk.1)⟩
  have n1_ : Aside0 (Kd.R (Kd.int .i64) 3 (((w43.setCell ⟨gb787, 0, none⟩ (.slice Ao44 t778.length co44)).setCell ⟨gb787, 1, none⟩ (.slice Ao49 t781.length co49)).setCell ⟨gb787, 2, none⟩ (.slice Ao50 t784.length co50)) w.heap.size (fun k_ => no_ (.slice Ao44 t778.length co44) k_) (.slice Ao49 t781.length co49) t781) := ⟨by (with_reducible repeat (first | apply Kd.R_alloc | apply Kd.R_drewN | apply Kd.R_drew)); exact Kd.R_mono (fs3_ HO783.out BK787.out) (fun _ hk => hk.1)⟩
  have n2_ : Aside0 (Kd.R k45 45 (((w43.setCell ⟨gb787, 0, none⟩ (.slice Ao44 t778.length co44)).setCell ⟨gb787, 1, none⟩ (.slice Ao49 t781.length co49)).setCell ⟨gb787, 2, none⟩ (.slice Ao50 t784.length co50)) w.heap.size (fun _ => True) (.slice Ao50 t784.length co50) t784) := ⟨by (with_reducible repeat (first | apply Kd.R_alloc | apply Kd.R_drewN | apply Kd.R_drew)); exact Kd.R_mono (fs3_ HO786.out BK787.out) (fun _ hk => trivial)⟩
  have n3_ : Aside0 ((((w43.setCell ⟨gb787, 0, none⟩ (.slice Ao44 t778.length co44)).setCell ⟨gb787, 1, none⟩ (.slice Ao49 t781.length co49)).setCell ⟨gb787, 2, none⟩ (.slice Ao50 t784.length co50)).heap[gb774]? = some (.cells #[.slice A0_0 l0_0.length c0_0, .slice A0_1 l0_1.length c0_1, .slice A0_2 l0_2.length c0_2] 35 (0, 0))) := ⟨by (with_reducible repeat (first | refine blk_drewN ?_ _ | refine blk_drew ?_ | refine blk_alloc ?_ _)); refine blk_far ?_ NB774_787.out _; (with_reducible repeat (first | refine blk_drewN ?_ _ | refine blk_drew ?_ | refine blk_alloc ?_ _)); refine blk_far ?_ NB774_787.out _; (with_reducible repeat (first | refine blk_drewN ?_ _ | refine blk_drew ?_ | refine blk_alloc ?_ _)); refine blk_far ?_ NB774_787.out _; (with_reducible repeat (first | refine blk_drewN ?_ _ | refine blk_drew ?_ | refine blk_alloc ?_ _)); exact BK774.out⟩
  have n4_ : Aside0 ((((w43.setCell ⟨gb787, 0, none⟩ (.slice Ao44 t778.length co44)).setCell ⟨gb787, 1, none⟩ (.slice Ao49 t781.length co49)).setCell ⟨gb787, 2, none⟩ (.slice Ao50 t784.length co50)).heap[gb775]? = some (.cells #[.int .i64 a1_0, .int .i64 a1_1] 37 (0, 0))) := ⟨by (with_reducible repeat (first | refine blk_drewN ?_ _ | refine blk_drew ?_ | refine blk_alloc ?_ _)); refine blk_far ?_ NB775_787.out _; (with_reducible repeat (first | refine blk_drewN ?_ _ | refine blk_drew ?_ | refine blk_alloc ?_ _)); refine blk_far ?_ NB775_787.out _; (with_reducible repeat (first | refine blk_drewN ?_ _ | refine blk_drew ?_ | refine blk_alloc ?_ _)); refine blk_far ?_ NB775_787.out _; (with_reducible repeat (first | refine blk_drewN ?_ _ | refine blk_drew ?_ | refine blk_alloc ?_ _)); exact BK775.out⟩
  have n5_ : Aside0 ((((w43.setCell ⟨gb787, 0, none⟩ (.slice Ao44 t778.length co44)).setCell ⟨gb787, 1, none⟩ (.slice Ao49 t781.length co49)).setCell ⟨gb787, 2, none⟩ (.slice Ao50 t784.length co50)).heap[gb776]? = some (.cells #[.slice none 0 0, .slice none 0 0, .slice none 0 0] 35 (0, 0))) := ⟨by (with_reducible repeat (first | refine blk_drewN ?_ _ | refine blk_drew ?_ | refine blk_alloc ?_ _)); refine blk_far ?_ NB776_787.out _; (with_reducible repeat (first | refine blk_drewN ?_ _ | refine blk_drew ?_ | refine blk_alloc ?_ _)); refine blk_far ?_ NB776_787.out _; (with_reducible repeat (first | refine blk_drewN ?_ _ | refine blk_drew ?_ | refine blk_alloc ?_ _)); refine blk_far ?_ NB776_787.out _; (with_reducible repeat (first | refine blk_drewN ?_ _ | refine blk_drew ?_ | refine blk_alloc ?_ _)); exact BK776.out⟩
  have n6_ : Aside0 ((((w43.setCell ⟨gb787, 0, none⟩ (.slice Ao44 t778.length co44)).setCell ⟨gb787, 1, none⟩ (.slice Ao49 t781.length co49)).setCell ⟨gb787, 2, none⟩ (.slice Ao50 t784.length co50)).heap[gb787]? = some (.cells #[.slice Ao44 t778.length co44, .slice Ao49 t781.length co49, .slice Ao50 t784.length co50] 35 (0, 0))) := ⟨by (with_reducible repeat (first | refine blk_drewN ?_ _ | refine blk_drew ?_ | refine blk_alloc ?_ _)); refine blk_put (cs := #[.slice Ao44 t778.length co44, .slice Ao49 t781.length co49, .slice none 0 0]) ?_ 2 _ rfl; (with_reducible repeat (first | refine blk_drewN ?_ _ | refine blk_drew ?_ | refine blk_alloc ?_ _)); refine blk_put (cs := #[.slice Ao44 t778.length co44, .slice none 0 0, .slice none 0 0]) ?_ 1 _ rfl; (with_reducible repeat (first | refine blk_drewN ?_ _ | refine blk_drew ?_ | refine blk_alloc ?_ _)); refine blk_put (cs := #[.slice none 0 0, .slice none 0 0, .slice none 0 0]) ?_ 0 _ rfl; (with_reducible repeat (first | refine blk_drewN ?_ _ | refine blk_drew ?_ | refine blk_alloc ?_ _)); exact BK787.out⟩
  have n7_ : Aside0 (Below w.heap.size w (((w43.setCell ⟨gb787, 0, none⟩ (.slice Ao44 t778.length co44)).setCell ⟨gb787, 1, none⟩ (.slice Ao49 t781.length co49)).setCell ⟨gb787, 2, none⟩ (.slice Ao50 t784.length co50))) := ⟨hB HB⟩
  (try clear HO780)
  (try clear HO783)
  (try clear HO786)
  (try clear BK774)
  (try clear BK775)
  (try clear BK776)
  (try clear BK787)
  (try clear HB)
  generalize (((w43.setCell ⟨gb787, 0, none⟩ (.slice Ao44 t778.length co44)).setCell ⟨gb787, 1, none⟩ (.slice Ao49 t781.length co49)).setCell ⟨gb787, 2, none⟩ (.slice Ao50 t784.length co50)) = w54 at n0_ n1_ n2_ n3_ n4_ n5_ n6_ n7_ ⊢
  have HO780 := n0_
  have HO783 := n1_
  have HO786 := n2_
  have BK774 := n3_
  have BK775 := n4_
  have BK776 := n5_
  have BK787 := n6_
  have HB := n7_
  clear n0_ n1_ n2_ n3_ n4_ n5_ n6_ n7_
  (try (rw [drewN_self w54]; generalize hq_ : World.drewN w54 _ = w54; have n0_ : Aside0 (Kd.R (Kd.int .i64) 3 w54 w.heap.size (fun k_ => no_ (.slice Ao49 t781.length co49) k_) (.slice Ao44 t778.length co44) t778) := ⟨by rw [← hq_]; exact (ra HO780.out)⟩; have n1_ : Aside0 (Kd.R (Kd.int .i64) 3 w54 w.heap.size (fun k_ => no_ (.slice Ao44 t778.length co44) k_) (.slice Ao49 t781.length co49) t781) := ⟨by rw [← hq_]; exact (ra HO783.out)⟩; have n2_ : Aside0 (Kd.R k45 45 w54 w.heap.size (fun _ => True) (.slice Ao50 t784.length co50) t784) := ⟨by rw [← hq_]; exact (ra HO786.out)⟩; have n3_ : Aside0 (w54.heap[gb774]? = some (.cells #[.slice A0_0 l0_0.length c0_0, .slice A0_1 l0_1.length c0_1, .slice A0_2 l0_2.length c0_2] 35 (0, 0))) := ⟨by rw [← hq_]; exact (ba BK774.out)⟩; have n4_ : Aside0 (w54.heap[gb775]? = some (.cells #[.int .i64 a1_0, .int .i64 a1_1] 37 (0, 0))) := ⟨by rw [← hq_]; exact (ba BK775.out)⟩; have n5_ : Aside0 (w54.heap[gb776]? = some (.cells #[.slice none 0 0, .slice none 0 0, .slice none 0 0] 35 (0, 0))) := ⟨by rw [← hq_]; exact (ba BK776.out)⟩; have n6_ : Aside0 (w54.heap[gb787]? = some (.cells #[.slice Ao44 t778.length co44, .slice Ao49 t781.length co49, .slice Ao50 t784.length co50] 35 (0, 0))) := ⟨by rw [← hq_]; exact (ba BK787.out)⟩; have n7_ : Aside0 (Below w.heap.size w w54) := ⟨by rw [← hq_]; exact (hB HB)⟩; clear HO780 HO783 HO786 BK774 BK775 BK776 BK787 HB hq_; have HO780 := n0_; have HO783 := n1_; have HO786 := n2_; have BK774 := n3_; have BK775 := n4_; have BK776 := n5_; have BK787 := n6_; have HB := n7_; clear n0_ n1_ n2_ n3_ n4_ n5_ n6_ n7_))
  replace HO780 := rd_ HO780
  replace HO783 := rd_ HO783
  replace HO786 := rd_ HO786
  replace BK774 := bd_ BK774
  replace BK775 := bd_ BK775
  replace BK776 := bd_ BK776
  replace BK787 := bd_ BK787
  replace HB := Aside0.mk (below_drew1 HB.out)
  have p789 : 0 ≤ (a1_1 : Int) := of_decide_eq_true (by first | (with_reducible assumption) | assumption)
  have q789 : a1_1 < (l0_0.length : Int) := of_decide_eq_true (by first | (with_reducible assumption) | assumption)
  obtain ⟨ad789, e789, hx789_0⟩ := Kd.at_int HR0_0.out a1_1 p789 q789
  have hw789_0 := hx789_0
  cases e789
  replace hx789_0 := (HB.out.cell (World.block_lt_of_cell? w _ hx789_0)).trans hx789_0
  replace p789 := eq_true p789
  replace q789 := eq_true q789
  refine start_ (n := 16) (S := fun w' => w'.cell? ⟨gb787, 0, none⟩ = some (.slice Ao44 t778.length co44) ∧ w'.cell? ⟨gb787, 1, none⟩ = some (.slice Ao49 t781.length co49) ∧ w'.cell? ⟨gb787, 2, none⟩ = some (.slice Ao50 t784.length co50) ∧ w'.cell? ⟨gb775, 0, none⟩ = some (.int .i64 a1_0) ∧ w'.cell? ⟨gb775, 1, none⟩ = some (.int .i64 a1_1) ∧ w'.cell? ⟨gb774, 0, none⟩ = some (.slice (some ad789) l0_0.length c0_0) ∧ w'.cell? ⟨gb774, 1, none⟩ = some (.slice A0_1 l0_1.length c0_1) ∧ w'.cell? ⟨gb774, 2, none⟩ = some (.slice A0_2 l0_2.length c0_2) ∧ w'.cell? (ad789.add (a1_1).toNat) = some (.int .i64 (rd l0_0 a1_1))) (ds := [15]) (bs 16 0) (by kernel_rfl) rfl rfl ⟨bc_ BK787 0, bc_ BK787 1, bc_ BK787 2, bc_ BK775 0, bc_ BK775 1, bc_ BK774 0, bc_ BK774 1, bc_ BK774 2, ((HB.out.cell (World.block_lt_of_cell? w _ hw789_0)).trans hw789_0)⟩ (fun hHeld => ?_); refine with_tabW impl_StepPair.tab9 impl_StepPair.bits9 (fun HT_ HW_ => ?_)
  generalize w54.drew = w55 at HO780 HO783 HO786 BK774 BK775 BK776 BK787 HB hx789_0 hHeld ⊢
  refine pu_ 0 31 (bs 16 1) HT_ ?_
  refine pu_ 2 33 (bs 16 5) HT_ ?_
  refine pu_ 4 35 (bs 16 21) HT_ ?_
  refine pu_ 6 37 (bs 16 85) HT_ ?_
  refine tk_ 1 32 (bs 16 87) HT_ HW_ hHeld ?_
  refine tk_ 3 34 (bs 16 95) HT_ HW_ hHeld ?_
  refine tk_ 5 36 (bs 16 127) HT_ HW_ hHeld ?_
  refine tk_ 7 38 (bs 16 255) HT_ HW_ hHeld ?_
  refine pu_ 8 39 (bs 16 511) HT_ ?_
  refine tk_ 9 40 (bs 16 1023) HT_ HW_ hHeld ?_
  refine pu_ 10 41 (bs 16 2047) HT_ ?_
  refine pu_ 11 42 (bs 16 4095) HT_ ?_
  refine one_ (i := 12) (N := some 43) (bs 16 8191) rfl rfl (one_of HT_.out (by kernel_rfl)) (by decide) (fun K hK => ?_)
  refine value_ (w1 := ?_) (v := ?_) (by rfl) rfl ?_ ?_
  rotate_left 2
  ·go_simp
   constructor
   ·rfl
   ·rfl
  refine hK.out _ _ ⟨(blk_cell (blk_alloc BK787.out _) 0).trans rfl, (blk_cell (blk_alloc BK787.out _) 1).trans rfl, (blk_cell (blk_alloc BK787.out _) 2).trans rfl, (blk_cell (blk_alloc BK775.out _) 0).trans rfl, (blk_cell (blk_alloc BK775.out _) 1).trans rfl, (blk_cell (blk_alloc BK774.out _) 0).trans rfl, (blk_cell (blk_alloc BK774.out _) 1).trans rfl, (blk_cell (blk_alloc BK774.out _) 2).trans rfl, (World.cell?_alloc_lt _ _ _ (World.block_lt_of_cell? _ _ (((HB.out.cell (World.block_lt_of_cell? w _ hw789_0)).trans hw789_0)))).trans (((HB.out.cell (World.block_lt_of_cell? w _ hw789_0)).trans hw789_0))⟩ (fun hHeld => ?_)
  clear hK K
  refine nm_ 43 ?_
  refine one_ (i := 13) (N := some 44) (bs 16 16383) rfl rfl (one_of HT_.out (by kernel_rfl)) (by decide) (fun K hK => ?_)
  refine Kd.R_append_step k45 (w0 := w) w.heap.size (by rfl) (.tmp 32) (.tmp 43) 33 45 (.agg #[(.int .i64 0), (.bool false)]) 16 rfl Try.underlying33 info45 rfl (by decide) (by omega) (.slice Ao50 t784.length co50) t784 (⟨a1_1, ((rd l0_0 a1_1) != 0)⟩ : S45) [.int .i64 a1_1, .bool ((rd l0_0 a1_1) != 0)] (fun _ => True) (fun _ => False) rfl rfl ?aP (fun _ hk => hk.elim) ?aF ?aO ?aB ?aS ?aL ?_
  (case aP => exact k45_mkM _ _ _ (⟨a1_1, ((rd l0_0 a1_1) != 0)⟩ : S45))
  (case aB => exact (hB HB))
  (case aF => exact (fun _ _ => trivial))
  (case aO => exact (ra HO786.out))
  (case aS => exact (below_size (hB HB)))
  (case aL => have := LMc33.out; omega)
  intro v791 w56 ho hb hg hat
  rw [← Ny790.out] at ho
  have HO792 := Aside0.mk (ho)
  replace BK774 := Aside0.mk (blk_grown (g := gb774) (o := .cells #[.slice (some ad789) l0_0.length c0_0, .slice A0_1 l0_1.length c0_1, .slice A0_2 l0_2.length c0_2] 35 (0, 0)) (ba BK774.out) hg (Kd.R_ne HO786.out BK774.out (by decide)))
  replace BK775 := Aside0.mk (blk_grown (g := gb775) (o := .cells #[.int .i64 a1_0, .int .i64 a1_1] 37 (0, 0)) (ba BK775.out) hg (Kd.R_ne HO786.out BK775.out (by decide)))
  replace BK776 := Aside0.mk (blk_grown (g := gb776) (o := .cells #[.slice none 0 0, .slice none 0 0, .slice none 0 0] 35 (0, 0)) (ba BK776.out) hg (Kd.R_ne HO786.out BK776.out (by decide)))
  replace HO780 := Aside0.mk (Kd.R_over' (ra HO780.out) (Kd.R_typed (ra HO786.out)) (by decide) hg)
  replace HO783 := Aside0.mk (Kd.R_over' (ra HO783.out) (Kd.R_typed (ra HO786.out)) (by decide) hg)
  replace BK787 := Aside0.mk (blk_grown (g := gb787) (o := .cells #[.slice Ao44 t778.length co44, .slice Ao49 t781.length co49, .slice Ao50 t784.length co50] 35 (0, 0)) (ba BK787.out) hg (Kd.R_ne HO786.out BK787.out (by decide)))
  replace HB := Aside0.mk (hb)
  clear HO786
  clear ho hb hg hat
  obtain ⟨Ao57, co57, eo57⟩ := Kd.R_slice HO792.out
  subst eo57
  refine hK.out _ _ ⟨bc_ BK787 0, bc_ BK787 1, bc_ BK787 2, bc_ BK775 0, bc_ BK775 1, bc_ BK774 0, bc_ BK774 1, bc_ BK774 2, ((HB.out.cell (World.block_lt_of_cell? w _ hw789_0)).trans hw789_0)⟩ (fun hHeld => ?_)
  clear hK K
  refine nm_ 44 ?_
  refine pu_ 14 45 (bs 16 32767) HT_ ?_
  refine last_ (i := 15) (N := none) (bs 16 65535) rfl rfl (one_of HT_.out (by kernel_rfl)) (by decide) (fun K hK => ?_)
  have hs58 : w56.cell? ⟨gb787, 2, none⟩ = some (.slice Ao50 t784.length co50) := bc_ BK787 2
  have hfs58 := blk_frozen BK787.out 2
  have hns58_0 := NB774_787.out
  have hns58_1 := NB775_787.out
  have hns58_2 := NB776_787.out
  have hms58_0 := NB787_774.out
  have hms58_1 := NB787_775.out
  have hms58_2 := NB787_776.out
  refine skip_ (w1 := ?_) (by rfl) rfl ?_ ?_
  rotate_left
  ·go_simp
   rfl
  refine hK.out _ _ ?_
  clear hK K
  refine done_ (done_of HT_.out (by kernel_rfl)) ?_
  have hcz59_0 : w56.cell? ⟨gb787, 0, none⟩ = some (.slice Ao44 t778.length co44) := bc_ BK787 0
  have hcz59_1 : w56.cell? ⟨gb787, 1, none⟩ = some (.slice Ao49 t781.length co49) := bc_ BK787 1
  have hcz59_2 : w56.cell? ⟨gb787, 2, none⟩ = some (.slice Ao50 t784.length co50) := bc_ BK787 2
  have hfz59_0 := blk_frozen BK787.out 0
  have hfz59_1 := blk_frozen BK787.out 1
  have hfz59_2 := blk_frozen BK787.out 2
  have hcz60_0 : w56.cell? ⟨gb776, 0, none⟩ = some (.slice none 0 0) := bc_ BK776 0
  have hcz60_1 : w56.cell? ⟨gb776, 1, none⟩ = some (.slice none 0 0) := bc_ BK776 1
  have hcz60_2 : w56.cell? ⟨gb776, 2, none⟩ = some (.slice none 0 0) := bc_ BK776 2
  have hfz60_0 := blk_frozen BK776.out 0
  have hfz60_1 := blk_frozen BK776.out 1
  have hfz60_2 := blk_frozen BK776.out 2
  try go_wp2
  refine bodyPost_ret (results_ct rfl _ _ gb776 35 #[.slice Ao44 t778.length co44, .slice Ao49 t781.length co49, .slice Ao57 y790.length co57] (0, 0) _ rfl (by (with_reducible repeat (first | refine blk_drewN ?_ _ | refine blk_drew ?_ | refine blk_alloc ?_ _)); refine blk_put (cs := #[.slice Ao44 t778.length co44, .slice Ao49 t781.length co49, .slice none 0 0]) ?_ 2 _ rfl; (with_reducible repeat (first | refine blk_drewN ?_ _ | refine blk_drew ?_ | refine blk_alloc ?_ _)); refine blk_put (cs := #[.slice Ao44 t778.length co44, .slice none 0 0, .slice none 0 0]) ?_ 1 _ rfl; (with_reducible repeat (first | refine blk_drewN ?_ _ | refine blk_drew ?_ | refine blk_alloc ?_ _)); refine blk_put (cs := #[.slice none 0 0, .slice none 0 0, .slice none 0 0]) ?_ 0 _ rfl; (with_reducible repeat (first | refine blk_drewN ?_ _ | refine blk_drew ?_ | refine blk_alloc ?_ _)); refine blk_far ?_ NB776_787.out _; (with_reducible repeat (first | refine blk_drewN ?_ _ | refine blk_drew ?_ | refine blk_alloc ?_ _)); exact BK776.out) Try.underlying35 rfl (by kernel_rfl)) rfl ?_
  exact ⟨_, _, _, by first | rfl | (simp [errW_none, errW_some] <;> rfl) | (simp [*, errW_none, errW_some] <;> rfl), by (with_reducible repeat (first | apply Kd.R_alloc | apply Kd.R_drewN | apply Kd.R_drew)); exact Kd.R_mono (Kd.R_far (p := ⟨gb776, 2, none⟩) (Kd.R_far (p := ⟨gb776, 1, none⟩) (Kd.R_far (p := ⟨gb776, 0, none⟩) (Kd.R_far (p := ⟨gb787, 2, none⟩) (Kd.R_types (Kd.R_types HO780.out BK787.out (by decide)) BK776.out (by decide)) (fun _ hk => hk.1.2) (.slice Ao57 y790.length co57)) (fun _ hk => hk.2) (.slice Ao44 t778.length co44)) (fun _ hk => hk.2) (.slice Ao49 t781.length co49)) (fun _ hk => hk.2) (.slice Ao57 y790.length co57)) (fun _ hk => hk.1.1), by (with_reducible repeat (first | apply Kd.R_alloc | apply Kd.R_drewN | apply Kd.R_drew)); exact Kd.R_mono (Kd.R_far (p := ⟨gb776, 2, none⟩) (Kd.R_far (p := ⟨gb776, 1, none⟩) (Kd.R_far (p := ⟨gb776, 0, none⟩) (Kd.R_far (p := ⟨gb787, 2, none⟩) (Kd.R_types (Kd.R_types HO783.out BK787.out (by decide)) BK776.out (by decide)) (fun _ hk => hk.1.2) (.slice Ao57 y790.length co57)) (fun _ hk => hk.2) (.slice Ao44 t778.length co44)) (fun _ hk => hk.2) (.slice Ao49 t781.length co49)) (fun _ hk => hk.2) (.slice Ao57 y790.length co57)) (fun _ hk => hk.1.1), by (with_reducible repeat (first | apply Kd.R_alloc | apply Kd.R_drewN | apply Kd.R_drew)); exact Kd.R_mono (Kd.R_far (p := ⟨gb776, 2, none⟩) (Kd.R_far (p := ⟨gb776, 1, none⟩) (Kd.R_far (p := ⟨gb776, 0, none⟩) (Kd.R_far (p := ⟨gb787, 2, none⟩) (Kd.R_types (Kd.R_types HO792.out BK787.out (by decide)) BK776.out (by decide)) (fun _ hk => hk.1.2) (.slice Ao57 y790.length co57)) (fun _ hk => hk.2) (.slice Ao44 t778.length co44)) (fun _ hk => hk.2) (.slice Ao49 t781.length co49)) (fun _ hk => hk.2) (.slice Ao57 y790.length co57)) (fun _ hk => trivial), by repeat (first | (with_reducible first | exact HB.out | apply below_alloc | apply pw_below_drewN | apply below_drew1 | refine below_set ?_ GE774.out | refine below_set ?_ GE775.out | refine below_set ?_ GE776.out | refine below_set ?_ GE787.out) | exact HB.out)⟩
 rw [if_neg c6] at H
 have c6b0 : (a1_0 == 1) = false := beq_eq_false_iff_ne.mpr c6
 have c6b1 : (a1_0 != 1) = true := bne_iff_ne.mpr c6
 have HC81 := Aside0.mk H
 clear H
 go_enter Try.func18, Try.ntmps18
 go_upto_if 46 with (first | ((with_reducible refine gate_dst (N := 2) rfl ?_); (try (refine gate_guard (by rfl) ?_; dsimp only)); refine box_event ?hg (N := 2) ?hd (cs := #[.slice A0_0 l0_0.length c0_0, .slice A0_1 l0_1.length c0_1, .slice A0_2 l0_2.length c0_2]) (t := 35) ?hr ?_; (case hd => rfl); (case hg => rfl); (case hr => first | (go_simp; done) | (go_simp; rfl)); intro gb774 hg w82 hbox hb; have BK774 := Aside0.mk (hbox); have GW774 := gw_ hg HB; have GE774 := gw_ hg HB; replace HB := bst_ HB hb; clear hb hbox hg) | ((with_reducible refine gate_dst (N := 3) rfl ?_); (try (refine gate_guard (by rfl) ?_; dsimp only)); refine box_event ?hg (N := 3) ?hd (cs := #[.int .i64 a1_0, .int .i64 a1_1]) (t := 37) ?hr ?_; (case hd => rfl); (case hg => rfl); (case hr => first | (go_simp; done) | (go_simp; rfl)); intro gb775 hg w83 hbox hb; have BK775 := Aside0.mk (hbox); have GW775 := gw_ hg HB; have GE775 := gw_ hg HB; have NB774_775 := nl_ hg BK774; have NB775_774 := ng_ hg BK774; replace BK774 := bb_ BK774 hb; replace HB := bst_ HB hb; clear hb hbox hg) | ((with_reducible refine gate_dst (N := 4) rfl ?_); (try (refine gate_guard (by rfl) ?_; dsimp only)); refine box_event ?hg (N := 4) ?hd (cs := #[.slice none 0 0, .slice none 0 0, .slice none 0 0]) (t := 35) ?hr ?_; (case hd => rfl); (case hg => rfl); (case hr => first | (go_simp; done) | (go_simp; rfl)); intro gb776 hg w84 hbox hb; have BK776 := Aside0.mk (hbox); have GW776 := gw_ hg HB; have GE776 := gw_ hg HB; have NB774_776 := nl_ hg BK774; have NB776_774 := ng_ hg BK774; have NB775_776 := nl_ hg BK775; have NB776_775 := ng_ hg BK775; replace BK774 := bb_ BK774 hb; replace BK775 := bb_ BK775 hb; replace HB := bst_ HB hb; clear hb hbox hg; have hnb85 := NB774_775.out; have hnc85 := NB775_774.out; have hnb86 := NB774_776.out; have hnc86 := NB776_774.out; have hcz87_0 : w84.cell? ⟨gb774, 0, none⟩ = some (.slice A0_0 l0_0.length c0_0) := bc_ BK774 0; have hcz87_1 : w84.cell? ⟨gb774, 1, none⟩ = some (.slice A0_1 l0_1.length c0_1) := bc_ BK774 1; have hcz87_2 : w84.cell? ⟨gb774, 2, none⟩ = some (.slice A0_2 l0_2.length c0_2) := bc_ BK774 2; have hfz87_0 := blk_frozen BK774.out 0; have hfz87_1 := blk_frozen BK774.out 1; have hfz87_2 := blk_frozen BK774.out 2) | ((with_reducible refine gate_callee (f := 21) rfl ?_); refine goesL_ (some 10) rfl rfl Try.func21 (by kernel_rfl) rfl #[.agg #[.slice A0_0 l0_0.length c0_0, .slice A0_1 l0_1.length c0_1, .slice A0_2 l0_2.length c0_2]] rfl tm_ ?_; (with_reducible refine (impl_GoodPair.calls k _ _ l0_0 _ _ l0_1 _ _ l0_2 true _ ?side1 ?side2 ?side3 ?side4 ?side5 ?side6 A3.out).mono ?_); (case side1 => exact ca (Kd.C_below HR0_0.out HB.out)); (case side2 => exact HC0_0.out); (case side3 => exact ca (Kd.C_below HR0_1.out HB.out)); (case side4 => exact HC0_1.out); (case side5 => exact ca (Kd.C_below HR0_2.out HB.out)); (case side6 => exact HC0_2.out); rintro e w88 ⟨rfl, hb⟩; refine ⟨_, rfl, ?_⟩; replace BK774 := bb_ BK774 hb; replace BK775 := bb_ BK775 hb; replace BK776 := bb_ BK776 hb; replace HB := bst_ HB hb; clear hb; have hcz89_0 : w88.cell? ⟨gb774, 0, none⟩ = some (.slice A0_0 l0_0.length c0_0) := bc_ BK774 0; have hcz89_1 : w88.cell? ⟨gb774, 1, none⟩ = some (.slice A0_1 l0_1.length c0_1) := bc_ BK774 1; have hcz89_2 : w88.cell? ⟨gb774, 2, none⟩ = some (.slice A0_2 l0_2.length c0_2) := bc_ BK774 2; have hfz89_0 := blk_frozen BK774.out 0; have hfz89_1 := blk_frozen BK774.out 1; have hfz89_2 := blk_frozen BK774.out 2) | ((with_reducible refine gate_callee (f := 83) rfl ?_); refine goesL_ (some 14) rfl rfl Try.func83 (by kernel_rfl) rfl #[.agg #[.slice A0_0 l0_0.length c0_0, .slice A0_1 l0_1.length c0_1, .slice A0_2 l0_2.length c0_2]] rfl tm_ ?_; (with_reducible refine (impl_Pair_own.calls _ _ l0_0 _ _ l0_1 _ _ l0_2 t778 t781 t784 _ ?side1 ?side2 ?side3 ?side4 ?side5 ?side6 A5.out).mono ?_); (case side1 => exact ca (Kd.C_below HR0_0.out HB.out)); (case side2 => exact HC0_0.out); (case side3 => exact ca (Kd.C_below HR0_1.out HB.out)); (case side4 => exact HC0_1.out); (case side5 => exact ca (Kd.C_below HR0_2.out HB.out)); (case side6 => exact HC0_2.out); rintro e w90 ⟨v779, v782, v785, rfl, ho0, ho1, ho2, hb⟩; refine ⟨_, rfl, ?_⟩; have HO780 := Aside0.mk (Kd.R_lower ho0 (below_size (hB HB))); have HO783 := Aside0.mk (Kd.R_lower ho1 (below_size (hB HB))); have HO786 := Aside0.mk (Kd.R_lower ho2 (below_size (hB HB))); replace BK774 := bb_ BK774 hb; replace BK775 := bb_ BK775 hb; replace BK776 := bb_ BK776 hb; replace HB := bst_ HB hb; clear hb ho0 ho1 ho2) | ((with_reducible refine gate_dst (N := 6) rfl ?_); (try (refine gate_guard (by rfl) ?_; dsimp only)); refine box_event ?hg (N := 6) ?hd (cs := #[.slice none 0 0, .slice none 0 0, .slice none 0 0]) (t := 35) ?hr ?_; (case hd => rfl); (case hg => rfl); (case hr => first | (go_simp; done) | (go_simp; rfl)); intro gb787 hg w91 hbox hb; have BK787 := Aside0.mk (hbox); have GW787 := gw_ hg HB; have GE787 := gw_ hg HB; have NB774_787 := nl_ hg BK774; have NB787_774 := ng_ hg BK774; have NB775_787 := nl_ hg BK775; have NB787_775 := ng_ hg BK775; have NB776_787 := nl_ hg BK776; have NB787_776 := ng_ hg BK776; replace HO780 := rb_ HO780 hb; replace HO783 := rb_ HO783 hb; replace HO786 := rb_ HO786 hb; replace BK774 := bb_ BK774 hb; replace BK775 := bb_ BK775 hb; replace BK776 := bb_ BK776 hb; replace HB := bst_ HB hb; clear hb hbox hg; obtain ⟨Ao92, co92, eo92⟩ := Kd.R_slice HO780.out; subst eo92; have hnb93 := NB787_774.out; have hnc93 := NB774_787.out; have hnb94 := NB787_775.out; have hnc94 := NB775_787.out; have hnb95 := NB787_776.out; have hnc95 := NB776_787.out; have hcz96_0 : w91.cell? ⟨gb787, 0, none⟩ = some (.slice none 0 0) := bc_ BK787 0; have hcz96_1 : w91.cell? ⟨gb787, 1, none⟩ = some (.slice none 0 0) := bc_ BK787 1; have hcz96_2 : w91.cell? ⟨gb787, 2, none⟩ = some (.slice none 0 0) := bc_ BK787 2; have hfz96_0 := blk_frozen BK787.out 0; have hfz96_1 := blk_frozen BK787.out 1; have hfz96_2 := blk_frozen BK787.out 2; obtain ⟨Ao97, co97, eo97⟩ := Kd.R_slice HO783.out; subst eo97; obtain ⟨Ao98, co98, eo98⟩ := Kd.R_slice HO786.out; subst eo98; have hnb99 := NB775_776.out; have hnc99 := NB776_775.out; have hcz100_0 : w91.cell? ⟨gb775, 0, none⟩ = some (.int .i64 a1_0) := bc_ BK775 0; have hcz100_1 : w91.cell? ⟨gb775, 1, none⟩ = some (.int .i64 a1_1) := bc_ BK775 1; have hfz100_0 := blk_frozen BK775.out 0; have hfz100_1 := blk_frozen BK775.out 1))
 (try simp only [Act.put, List.setIfInBounds_toArray, List.set_cons_zero, List.set_cons_succ])
 go_cut [46] (fun v46 wc => ∃ (kq : Nat) (x46_80 : Bool), v46 = .bool x46_80 ∧ Aside0 (impl_StepPair.j0 kq a1_0 x46_80 l0_0 l0_1 l0_2 a1_0 a1_1 t778 t781 t784 = some (r1, r2, r3, r4)) ∧ Aside0 (kq ≤ k) ∧ Aside0 (Kd.R (Kd.int .i64) 3 wc w.heap.size (fun k_ => no_ (.slice Ao97 t781.length co97) k_) (.slice Ao92 t778.length co92) t778) ∧ Aside0 (Kd.R (Kd.int .i64) 3 wc w.heap.size (fun k_ => no_ (.slice Ao92 t778.length co92) k_) (.slice Ao97 t781.length co97) t781) ∧ Aside0 (Kd.R k45 45 wc w.heap.size (fun _ => True) (.slice Ao98 t784.length co98) t784) ∧ Aside0 (wc.heap[gb774]? = some (.cells #[(.slice A0_0 l0_0.length c0_0), (.slice A0_1 l0_1.length c0_1), (.slice A0_2 l0_2.length c0_2)] 35 (0, 0))) ∧ Aside0 (wc.heap[gb775]? = some (.cells #[.int .i64 a1_0, .int .i64 a1_1] 37 (0, 0))) ∧ Aside0 (wc.heap[gb776]? = some (.cells #[(.slice none 0 0), (.slice none 0 0), (.slice none 0 0)] 35 (0, 0))) ∧ Aside0 (wc.heap[gb787]? = some (.cells #[(.slice Ao92 t778.length co92), (.slice Ao97 t781.length co97), (.slice Ao98 t784.length co98)] 35 (0, 0))) ∧ Aside0 (Below w.heap.size w wc))
 case first =>
  have H := HC81.out
  clear HC81
  by_cases c101 : a1_0 = 2
  rotate_left
  ·rw [if_neg c101] at H
   have c101b0 : (a1_0 == 2) = false := beq_eq_false_iff_ne.mpr c101
   have c101b1 : (a1_0 != 2) = true := bne_iff_ne.mpr c101
   (first | rw [c101b0] | (simp only [i64_w, i32_w]; rw [c101b0]) | skip)
   have H' := Aside0.mk H
   clear H
   go_wp2
   go_meet
   case rel => exact ⟨_, ((a1_0 == 3)), (by first | rfl | (simp; done) | (simp [*]; done)), H', ⟨by first | omega | exact Nat.le_refl _⟩, ⟨by (with_reducible repeat (first | apply Kd.R_alloc | apply Kd.R_drewN | apply Kd.R_drew)); exact Kd.R_mono (fs3_ HO780.out BK787.out) (fun _ hk => hk.1)⟩, ⟨by (with_reducible repeat (first | apply Kd.R_alloc | apply Kd.R_drewN | apply Kd.R_drew)); exact Kd.R_mono (fs3_ HO783.out BK787.out) (fun _ hk => hk.1)⟩, ⟨by (with_reducible repeat (first | apply Kd.R_alloc | apply Kd.R_drewN | apply Kd.R_drew)); exact Kd.R_mono (fs3_ HO786.out BK787.out) (fun _ hk => trivial)⟩, ⟨by (with_reducible repeat (first | refine blk_drewN ?_ _ | refine blk_drew ?_ | refine blk_alloc ?_ _)); refine blk_far ?_ NB774_787.out _; (with_reducible repeat (first | refine blk_drewN ?_ _ | refine blk_drew ?_ | refine blk_alloc ?_ _)); refine blk_far ?_ NB774_787.out _; (with_reducible repeat (first | refine blk_drewN ?_ _ | refine blk_drew ?_ | refine blk_alloc ?_ _)); refine blk_far ?_ NB774_787.out _; (with_reducible repeat (first | refine blk_drewN ?_ _ | refine blk_drew ?_ | refine blk_alloc ?_ _)); exact BK774.out⟩, ⟨by (with_reducible repeat (first | refine blk_drewN ?_ _ | refine blk_drew ?_ | refine blk_alloc ?_ _)); refine blk_far ?_ NB775_787.out _; (with_reducible repeat (first | refine blk_drewN ?_ _ | refine blk_drew ?_ | refine blk_alloc ?_ _)); refine blk_far ?_ NB775_787.out _; (with_reducible repeat (first | refine blk_drewN ?_ _ | refine blk_drew ?_ | refine blk_alloc ?_ _)); refine blk_far ?_ NB775_787.out _; (with_reducible repeat (first | refine blk_drewN ?_ _ | refine blk_drew ?_ | refine blk_alloc ?_ _)); exact BK775.out⟩, ⟨by (with_reducible repeat (first | refine blk_drewN ?_ _ | refine blk_drew ?_ | refine blk_alloc ?_ _)); refine blk_far ?_ NB776_787.out _; (with_reducible repeat (first | refine blk_drewN ?_ _ | refine blk_drew ?_ | refine blk_alloc ?_ _)); refine blk_far ?_ NB776_787.out _; (with_reducible repeat (first | refine blk_drewN ?_ _ | refine blk_drew ?_ | refine blk_alloc ?_ _)); refine blk_far ?_ NB776_787.out _; (with_reducible repeat (first | refine blk_drewN ?_ _ | refine blk_drew ?_ | refine blk_alloc ?_ _)); exact BK776.out⟩, ⟨by (with_reducible repeat (first | refine blk_drewN ?_ _ | refine blk_drew ?_ | refine blk_alloc ?_ _)); refine blk_put (cs := #[.slice Ao92 t778.length co92, .slice Ao97 t781.length co97, .slice none 0 0]) ?_ 2 _ rfl; (with_reducible repeat (first | refine blk_drewN ?_ _ | refine blk_drew ?_ | refine blk_alloc ?_ _)); refine blk_put (cs := #[.slice Ao92 t778.length co92, .slice none 0 0, .slice none 0 0]) ?_ 1 _ rfl; (with_reducible repeat (first | refine blk_drewN ?_ _ | refine blk_drew ?_ | refine blk_alloc ?_ _)); refine blk_put (cs := #[.slice none 0 0, .slice none 0 0, .slice none 0 0]) ?_ 0 _ rfl; (with_reducible repeat (first | refine blk_drewN ?_ _ | refine blk_drew ?_ | refine blk_alloc ?_ _)); exact BK787.out⟩, ⟨hB HB⟩⟩
  rw [if_pos c101] at H
  have c101b0 : (a1_0 == 2) = true := beq_iff_eq.mpr c101
  have c101b1 : (a1_0 != 2) = false := bne_eq_false_iff_eq.mpr c101
  clear c101
  (first | rw [c101b0] | (simp only [i64_w, i32_w]; rw [c101b0]) | skip)
  have H' := Aside0.mk H
  clear H
  go_wp2
  go_meet
  case rel => exact ⟨_, ((a1_0 == 2)), (by first | rfl | (simp; done) | (simp [*]; done)), H', ⟨by first | omega | exact Nat.le_refl _⟩, ⟨by (with_reducible repeat (first | apply Kd.R_alloc | apply Kd.R_drewN | apply Kd.R_drew)); exact Kd.R_mono (fs3_ HO780.out BK787.out) (fun _ hk => hk.1)⟩, ⟨by (with_reducible repeat (first | apply Kd.R_alloc | apply Kd.R_drewN | apply Kd.R_drew)); exact Kd.R_mono (fs3_ HO783.out BK787.out) (fun _ hk => hk.1)⟩, ⟨by (with_reducible repeat (first | apply Kd.R_alloc | apply Kd.R_drewN | apply Kd.R_drew)); exact Kd.R_mono (fs3_ HO786.out BK787.out) (fun _ hk => trivial)⟩, ⟨by (with_reducible repeat (first | refine blk_drewN ?_ _ | refine blk_drew ?_ | refine blk_alloc ?_ _)); refine blk_far ?_ NB774_787.out _; (with_reducible repeat (first | refine blk_drewN ?_ _ | refine blk_drew ?_ | refine blk_alloc ?_ _)); refine blk_far ?_ NB774_787.out _; (with_reducible repeat (first | refine blk_drewN ?_ _ | refine blk_drew ?_ | refine blk_alloc ?_ _)); refine blk_far ?_ NB774_787.out _; (with_reducible repeat (first | refine blk_drewN ?_ _ | refine blk_drew ?_ | refine blk_alloc ?_ _)); exact BK774.out⟩, ⟨by (with_reducible repeat (first | refine blk_drewN ?_ _ | refine blk_drew ?_ | refine blk_alloc ?_ _)); refine blk_far ?_ NB775_787.out _; (with_reducible repeat (first | refine blk_drewN ?_ _ | refine blk_drew ?_ | refine blk_alloc ?_ _)); refine blk_far ?_ NB775_787.out _; (with_reducible repeat (first | refine blk_drewN ?_ _ | refine blk_drew ?_ | refine blk_alloc ?_ _)); refine blk_far ?_ NB775_787.out _; (with_reducible repeat (first | refine blk_drewN ?_ _ | refine blk_drew ?_ | refine blk_alloc ?_ _)); exact BK775.out⟩, ⟨by (with_reducible repeat (first | refine blk_drewN ?_ _ | refine blk_drew ?_ | refine blk_alloc ?_ _)); refine blk_far ?_ NB776_787.out _; (with_reducible repeat (first | refine blk_drewN ?_ _ | refine blk_drew ?_ | refine blk_alloc ?_ _)); refine blk_far ?_ NB776_787.out _; (with_reducible repeat (first | refine blk_drewN ?_ _ | refine blk_drew ?_ | refine blk_alloc ?_ _)); refine blk_far ?_ NB776_787.out _; (with_reducible repeat (first | refine blk_drewN ?_ _ | refine blk_drew ?_ | refine blk_alloc ?_ _)); exact BK776.out⟩, ⟨by (with_reducible repeat (first | refine blk_drewN ?_ _ | refine blk_drew ?_ | refine blk_alloc ?_ _)); refine blk_put (cs := #[.slice Ao92 t778.length co92, .slice Ao97 t781.length co97, .slice none 0 0]) ?_ 2 _ rfl; (with_reducible repeat (first | refine blk_drewN ?_ _ | refine blk_drew ?_ | refine blk_alloc ?_ _)); refine blk_put (cs := #[.slice Ao92 t778.length co92, .slice none 0 0, .slice none 0 0]) ?_ 1 _ rfl; (with_reducible repeat (first | refine blk_drewN ?_ _ | refine blk_drew ?_ | refine blk_alloc ?_ _)); refine blk_put (cs := #[.slice none 0 0, .slice none 0 0, .slice none 0 0]) ?_ 0 _ rfl; (with_reducible repeat (first | refine blk_drewN ?_ _ | refine blk_drew ?_ | refine blk_alloc ?_ _)); exact BK787.out⟩, ⟨hB HB⟩⟩
 case rest =>
  clear HC81
  try clear c4
  try clear c6
  try clear c6b0
  try clear c6b1
  try clear hcz100_0
  try clear hcz100_1
  try clear hcz87_0
  try clear hcz87_1
  try clear hcz87_2
  try clear hcz89_0
  try clear hcz89_1
  try clear hcz89_2
  try clear hcz96_0
  try clear hcz96_1
  try clear hcz96_2
  try clear hfz100_0
  try clear hfz100_1
  try clear hfz87_0
  try clear hfz87_1
  try clear hfz87_2
  try clear hfz89_0
  try clear hfz89_1
  try clear hfz89_2
  try clear hfz96_0
  try clear hfz96_1
  try clear hfz96_2
  obtain ⟨kq, x46_80, rfl, HA, HJ80, HO_788000, HO_788001, HO_788002, BK774, BK775, BK776, BK787, HB⟩ := hcut
  cases kq with
  | zero => exact absurd HA.out (by simp [impl_StepPair.j0])
  | succ kj80 =>
   have H := HA.out
   clear HA
   simp only [impl_StepPair.j0] at H
   by_cases c102 : x46_80 = true
   rotate_left
   ·replace c102 := Bool.eq_false_iff.mpr c102
    subst c102
    rw [if_neg (show ¬ (false = true) by decide)] at H
    by_cases c178 : a1_0 = 4
    rotate_left
    ·rw [if_neg c178] at H
     have c178b0 : (a1_0 == 4) = false := beq_eq_false_iff_ne.mpr c178
     have c178b1 : (a1_0 != 4) = true := bne_iff_ne.mpr c178
     simp only [Option.some.injEq, Prod.mk.injEq] at H
     obtain ⟨rfl, rfl, rfl, rfl⟩ := H
     have hnb236 := NB776_774.out
     have hnc236 := NB774_776.out
     have hnb237 := NB776_775.out
     have hnc237 := NB775_776.out
     have hnb238 := NB776_787.out
     have hnc238 := NB787_776.out
     have hcz239_0 : wc.cell? ⟨gb776, 0, none⟩ = some (.slice none 0 0) := bc_ BK776 0
     have hcz239_1 : wc.cell? ⟨gb776, 1, none⟩ = some (.slice none 0 0) := bc_ BK776 1
     have hcz239_2 : wc.cell? ⟨gb776, 2, none⟩ = some (.slice none 0 0) := bc_ BK776 2
     have hfz239_0 := blk_frozen BK776.out 0
     have hfz239_1 := blk_frozen BK776.out 1
     have hfz239_2 := blk_frozen BK776.out 2
     go_wp2
     refine bodyPost_ret (results_ct rfl _ _ gb776 35 #[.slice none 0 0, .slice none 0 0, .slice none 0 0] (0, 0) _ rfl (by (with_reducible repeat (first | refine blk_drewN ?_ _ | refine blk_drew ?_ | refine blk_alloc ?_ _)); refine blk_put (cs := #[.slice none 0 0, .slice none 0 0, .slice none 0 0]) ?_ 2 _ rfl; (with_reducible repeat (first | refine blk_drewN ?_ _ | refine blk_drew ?_ | refine blk_alloc ?_ _)); refine blk_put (cs := #[.slice none 0 0, .slice none 0 0, .slice none 0 0]) ?_ 1 _ rfl; (with_reducible repeat (first | refine blk_drewN ?_ _ | refine blk_drew ?_ | refine blk_alloc ?_ _)); refine blk_put (cs := #[.slice none 0 0, .slice none 0 0, .slice none 0 0]) ?_ 0 _ rfl; (with_reducible repeat (first | refine blk_drewN ?_ _ | refine blk_drew ?_ | refine blk_alloc ?_ _)); exact BK776.out) Try.underlying35 rfl (by kernel_rfl)) rfl ?_
     exact ⟨_, _, _, by first | rfl | (simp [errW_none, errW_some] <;> rfl) | (simp [*, errW_none, errW_some] <;> rfl), by first | exact Kd.R_nil _ _ _ _ _ | exact Kd.N_nil _ _ _ _ _ | exact Kd.V_nil _ _ _ _ _ | exact Kd.Q_nil _ _ _ _ _ | exact Kd.S_nil _ _ _ _ _, by first | exact Kd.R_nil _ _ _ _ _ | exact Kd.N_nil _ _ _ _ _ | exact Kd.V_nil _ _ _ _ _ | exact Kd.Q_nil _ _ _ _ _ | exact Kd.S_nil _ _ _ _ _, by first | exact Kd.R_nil _ _ _ _ _ | exact Kd.N_nil _ _ _ _ _ | exact Kd.V_nil _ _ _ _ _ | exact Kd.Q_nil _ _ _ _ _ | exact Kd.S_nil _ _ _ _ _, by repeat (first | (with_reducible first | exact HB.out | apply below_alloc | apply pw_below_drewN | apply below_drew1 | refine below_set ?_ GE774.out | refine below_set ?_ GE775.out | refine below_set ?_ GE776.out | refine below_set ?_ GE787.out) | exact HB.out)⟩
    rw [if_pos c178] at H
    have c178b0 : (a1_0 == 4) = true := beq_iff_eq.mpr c178
    have c178b1 : (a1_0 != 4) = false := bne_eq_false_iff_eq.mpr c178
    clear c178
    by_cases c179 : a1_1 = 0
    rotate_left
    ·rw [if_neg c179] at H
     have c179b0 : (a1_1 == 0) = false := beq_eq_false_iff_ne.mpr c179
     have c179b1 : (a1_1 != 0) = true := bne_iff_ne.mpr c179
     simp only [Option.some.injEq, Prod.mk.injEq] at H
     obtain ⟨rfl, rfl, rfl, rfl⟩ := H
     have hnb229 := NB775_774.out
     have hnc229 := NB774_775.out
     have hnb230 := NB775_776.out
     have hnc230 := NB776_775.out
     have hnb231 := NB775_787.out
     have hnc231 := NB787_775.out
     have hcz232_0 : wc.cell? ⟨gb775, 0, none⟩ = some (.int .i64 a1_0) := bc_ BK775 0
     have hcz232_1 : wc.cell? ⟨gb775, 1, none⟩ = some (.int .i64 a1_1) := bc_ BK775 1
     have hfz232_0 := blk_frozen BK775.out 0
     have hfz232_1 := blk_frozen BK775.out 1
     have hnb233 := NB776_774.out
     have hnc233 := NB774_776.out
     have hnb234 := NB776_787.out
     have hnc234 := NB787_776.out
     have hcz235_0 : wc.cell? ⟨gb776, 0, none⟩ = some (.slice none 0 0) := bc_ BK776 0
     have hcz235_1 : wc.cell? ⟨gb776, 1, none⟩ = some (.slice none 0 0) := bc_ BK776 1
     have hcz235_2 : wc.cell? ⟨gb776, 2, none⟩ = some (.slice none 0 0) := bc_ BK776 2
     have hfz235_0 := blk_frozen BK776.out 0
     have hfz235_1 := blk_frozen BK776.out 1
     have hfz235_2 := blk_frozen BK776.out 2
     go_wp2
     refine bodyPost_ret (results_ct rfl _ _ gb776 35 #[.slice none 0 0, .slice none 0 0, .slice none 0 0] (0, 0) _ rfl (by (with_reducible repeat (first | refine blk_drewN ?_ _ | refine blk_drew ?_ | refine blk_alloc ?_ _)); refine blk_put (cs := #[.slice none 0 0, .slice none 0 0, .slice none 0 0]) ?_ 2 _ rfl; (with_reducible repeat (first | refine blk_drewN ?_ _ | refine blk_drew ?_ | refine blk_alloc ?_ _)); refine blk_put (cs := #[.slice none 0 0, .slice none 0 0, .slice none 0 0]) ?_ 1 _ rfl; (with_reducible repeat (first | refine blk_drewN ?_ _ | refine blk_drew ?_ | refine blk_alloc ?_ _)); refine blk_put (cs := #[.slice none 0 0, .slice none 0 0, .slice none 0 0]) ?_ 0 _ rfl; (with_reducible repeat (first | refine blk_drewN ?_ _ | refine blk_drew ?_ | refine blk_alloc ?_ _)); exact BK776.out) Try.underlying35 rfl (by kernel_rfl)) rfl ?_
     exact ⟨_, _, _, by first | rfl | (simp [errW_none, errW_some] <;> rfl) | (simp [*, errW_none, errW_some] <;> rfl), by first | exact Kd.R_nil _ _ _ _ _ | exact Kd.N_nil _ _ _ _ _ | exact Kd.V_nil _ _ _ _ _ | exact Kd.Q_nil _ _ _ _ _ | exact Kd.S_nil _ _ _ _ _, by first | exact Kd.R_nil _ _ _ _ _ | exact Kd.N_nil _ _ _ _ _ | exact Kd.V_nil _ _ _ _ _ | exact Kd.Q_nil _ _ _ _ _ | exact Kd.S_nil _ _ _ _ _, by first | exact Kd.R_nil _ _ _ _ _ | exact Kd.N_nil _ _ _ _ _ | exact Kd.V_nil _ _ _ _ _ | exact Kd.Q_nil _ _ _ _ _ | exact Kd.S_nil _ _ _ _ _, by repeat (first | (with_reducible first | exact HB.out | apply below_alloc | apply pw_below_drewN | apply below_drew1 | refine below_set ?_ GE774.out | refine below_set ?_ GE775.out | refine below_set ?_ GE776.out | refine below_set ?_ GE787.out) | exact HB.out)⟩
    rw [if_pos c179] at H
    have c179b0 : (a1_1 == 0) = true := beq_iff_eq.mpr c179
    have c179b1 : (a1_1 != 0) = false := bne_eq_false_iff_eq.mpr c179
    clear c179
    have H' := Aside0.mk H
    clear H
    have hnb180 := NB775_774.out
    have hnc180 := NB774_775.out
    have hnb181 := NB775_776.out
    have hnc181 := NB776_775.out
    have hnb182 := NB775_787.out
    have hnc182 := NB787_775.out
    have hcz183_0 : wc.cell? ⟨gb775, 0, none⟩ = some (.int .i64 a1_0) := bc_ BK775 0
    have hcz183_1 : wc.cell? ⟨gb775, 1, none⟩ = some (.int .i64 a1_1) := bc_ BK775 1
    have hfz183_0 := blk_frozen BK775.out 0
    have hfz183_1 := blk_frozen BK775.out 1
    have hnb184 := NB787_774.out
    have hnc184 := NB774_787.out
    have hnb185 := NB787_776.out
    have hnc185 := NB776_787.out
    have hcz186_0 : wc.cell? ⟨gb787, 0, none⟩ = some (.slice Ao92 t778.length co92) := bc_ BK787 0
    have hcz186_1 : wc.cell? ⟨gb787, 1, none⟩ = some (.slice Ao97 t781.length co97) := bc_ BK787 1
    have hcz186_2 : wc.cell? ⟨gb787, 2, none⟩ = some (.slice Ao98 t784.length co98) := bc_ BK787 2
    have hfz186_0 := blk_frozen BK787.out 0
    have hfz186_1 := blk_frozen BK787.out 1
    have hfz186_2 := blk_frozen BK787.out 2
    go_wp2
    go_loopg [100] kj80 (fun kq v100 w' => ∃ (x100_2 : Int) (x788000_2 : List Int) (x788001_2 : List Int) (u788000 : Value) (u788001 : Value), v100 = .int .i64 x100_2 ∧ Aside0 (impl_StepPair.l0 kq (t778.length : Int) x100_2 x788000_2 x788001_2 t784 = some (r1, r2, r3, r4)) ∧ Aside0 (kq ≤ kj80) ∧ Aside0 (Kd.R (Kd.int .i64) 3 w' w.heap.size (fun k_ => some k_ ≠ (u788001 : Value).ownBlock) u788000 x788000_2) ∧ Aside0 (Kd.R (Kd.int .i64) 3 w' w.heap.size (fun k_ => some k_ ≠ (u788000 : Value).ownBlock) u788001 x788001_2) ∧ Aside0 (Kd.R k45 45 w' w.heap.size (fun _ => True) (.slice Ao98 t784.length co98) t784) ∧ Aside0 (w'.heap[gb774]? = some (.cells #[(.slice A0_0 l0_0.length c0_0), (.slice A0_1 l0_1.length c0_1), (.slice A0_2 l0_2.length c0_2)] 35 (0, 0))) ∧ Aside0 (w'.heap[gb775]? = some (.cells #[.int .i64 a1_0, .int .i64 a1_1] 37 (0, 0))) ∧ Aside0 (w'.heap[gb776]? = some (.cells #[(.slice none 0 0), (.slice none 0 0), (.slice none 0 0)] 35 (0, 0))) ∧ Aside0 (w'.heap[gb787]? = some (.cells #[u788000, u788001, (.slice Ao98 t784.length co98)] 35 (0, 0))) ∧ Aside0 (Below w.heap.size w w'))
    case atStart => exact ⟨(0), (t778), (t781), (.slice Ao92 t778.length co92), (.slice Ao97 t781.length co97), (by first | rfl | (simp; done) | (simp [*]; done)), H', ⟨Nat.le_refl _⟩, ⟨ra HO_788000.out⟩, ⟨ra HO_788001.out⟩, ⟨ra HO_788002.out⟩, ⟨by (with_reducible repeat (first | refine blk_drewN ?_ _ | refine blk_drew ?_ | refine blk_alloc ?_ _)); exact BK774.out⟩, ⟨by (with_reducible repeat (first | refine blk_drewN ?_ _ | refine blk_drew ?_ | refine blk_alloc ?_ _)); exact BK775.out⟩, ⟨by (with_reducible repeat (first | refine blk_drewN ?_ _ | refine blk_drew ?_ | refine blk_alloc ?_ _)); exact BK776.out⟩, ⟨by (with_reducible repeat (first | refine blk_drewN ?_ _ | refine blk_drew ?_ | refine blk_alloc ?_ _)); exact BK787.out⟩, ⟨hB HB⟩⟩
    case round =>
     clear H'
     try clear c4
     try clear c6
     try clear c6b0
     try clear c6b1
     try clear c102
     try clear c178
     try clear c178b0
     try clear c178b1
     try clear c179
     try clear c179b0
     try clear c179b1
     try clear hcz100_0
     try clear hcz100_1
     try clear hcz183_0
     try clear hcz183_1
     try clear hcz186_0
     try clear hcz186_1
     try clear hcz186_2
     try clear hcz87_0
     try clear hcz87_1
     try clear hcz87_2
     try clear hcz89_0
     try clear hcz89_1
     try clear hcz89_2
     try clear hcz96_0
     try clear hcz96_1
     try clear hcz96_2
     try clear hfz100_0
     try clear hfz100_1
     try clear hfz183_0
     try clear hfz183_1
     try clear hfz186_0
     try clear hfz186_1
     try clear hfz186_2
     try clear hfz87_0
     try clear hfz87_1
     try clear hfz87_2
     try clear hfz89_0
     try clear hfz89_1
     try clear hfz89_2
     try clear hfz96_0
     try clear hfz96_1
     try clear hfz96_2
     obtain ⟨x100_2, x788000_2, x788001_2, u788000, u788001, rfl, HA, HK2, HO_788000, HO_788001, HO_788002, BK774, BK775, BK776, BK787, HB⟩ := hrel
     cases gk with
     | zero => exact absurd HA.out (by simp [impl_StepPair.l0])
     | succ k2 =>
      have H := HA.out
      clear HA
      simp only [impl_StepPair.l0] at H
      by_cases c187 : x100_2 < (t778.length : Int)
      rotate_left
      ·rw [if_neg c187] at H
       have c187b0 : decide (x100_2 < (t778.length : Int)) = false := decide_eq_false c187
       clear c187
       simp only [Option.some.injEq, Prod.mk.injEq] at H
       obtain ⟨rfl, rfl, rfl, rfl⟩ := H
       have hnb220 := NB787_774.out
       have hnc220 := NB774_787.out
       have hnb221 := NB787_775.out
       have hnc221 := NB775_787.out
       have hnb222 := NB787_776.out
       have hnc222 := NB776_787.out
       have hcz223_0 : wr.cell? ⟨gb787, 0, none⟩ = some (u788000) := bc_ BK787 0
       have hcz223_1 : wr.cell? ⟨gb787, 1, none⟩ = some (u788001) := bc_ BK787 1
       have hcz223_2 : wr.cell? ⟨gb787, 2, none⟩ = some (.slice Ao98 t784.length co98) := bc_ BK787 2
       have hfz223_0 := blk_frozen BK787.out 0
       have hfz223_1 := blk_frozen BK787.out 1
       have hfz223_2 := blk_frozen BK787.out 2
       obtain ⟨Ao224, co224, eo224⟩ := Kd.R_slice HO_788000.out
       subst eo224
       have hnb225 := NB776_774.out
       have hnc225 := NB774_776.out
       have hnb226 := NB776_775.out
       have hnc226 := NB775_776.out
       have hcz227_0 : wr.cell? ⟨gb776, 0, none⟩ = some (.slice none 0 0) := bc_ BK776 0
       have hcz227_1 : wr.cell? ⟨gb776, 1, none⟩ = some (.slice none 0 0) := bc_ BK776 1
       have hcz227_2 : wr.cell? ⟨gb776, 2, none⟩ = some (.slice none 0 0) := bc_ BK776 2
       have hfz227_0 := blk_frozen BK776.out 0
       have hfz227_1 := blk_frozen BK776.out 1
       have hfz227_2 := blk_frozen BK776.out 2
       obtain ⟨Ao228, co228, eo228⟩ := Kd.R_slice HO_788001.out
       subst eo228
       go_wp2
       refine bodyPost_ret (results_ct rfl _ _ gb776 35 #[.slice Ao224 x788000_2.length co224, .slice Ao228 x788001_2.length co228, .slice Ao98 t784.length co98] (0, 0) _ rfl (by (with_reducible repeat (first | refine blk_drewN ?_ _ | refine blk_drew ?_ | refine blk_alloc ?_ _)); refine blk_put (cs := #[.slice Ao224 x788000_2.length co224, .slice Ao228 x788001_2.length co228, .slice none 0 0]) ?_ 2 _ rfl; (with_reducible repeat (first | refine blk_drewN ?_ _ | refine blk_drew ?_ | refine blk_alloc ?_ _)); refine blk_put (cs := #[.slice Ao224 x788000_2.length co224, .slice none 0 0, .slice none 0 0]) ?_ 1 _ rfl; (with_reducible repeat (first | refine blk_drewN ?_ _ | refine blk_drew ?_ | refine blk_alloc ?_ _)); refine blk_put (cs := #[.slice none 0 0, .slice none 0 0, .slice none 0 0]) ?_ 0 _ rfl; (with_reducible repeat (first | refine blk_drewN ?_ _ | refine blk_drew ?_ | refine blk_alloc ?_ _)); exact BK776.out) Try.underlying35 rfl (by kernel_rfl)) rfl ?_
       exact ⟨_, _, _, by first | rfl | (simp [errW_none, errW_some] <;> rfl) | (simp [*, errW_none, errW_some] <;> rfl), by (with_reducible repeat (first | apply Kd.R_alloc | apply Kd.R_drewN | apply Kd.R_drew)); exact Kd.R_mono (fs3_ HO_788000.out BK776.out) (fun _ hk => hk.1), by (with_reducible repeat (first | apply Kd.R_alloc | apply Kd.R_drewN | apply Kd.R_drew)); exact Kd.R_mono (fs3_ HO_788001.out BK776.out) (fun _ hk => hk.1), by (with_reducible repeat (first | apply Kd.R_alloc | apply Kd.R_drewN | apply Kd.R_drew)); exact Kd.R_mono (fs3_ HO_788002.out BK776.out) (fun _ hk => trivial), by repeat (first | (with_reducible first | exact HB.out | apply below_alloc | apply pw_below_drewN | apply below_drew1 | refine below_set ?_ GE774.out | refine below_set ?_ GE775.out | refine below_set ?_ GE776.out | refine below_set ?_ GE787.out) | exact HB.out)⟩
      rw [if_pos c187] at H
      have c187b0 : decide (x100_2 < (t778.length : Int)) = true := decide_eq_true c187
      clear c187
      by_cases c188 : 0 ≤ x100_2
      rotate_left
      ·rw [if_neg c188] at H
       exact absurd H (by simp)
      rw [if_pos c188] at H
      have c188b0 : decide (0 ≤ x100_2) = true := decide_eq_true c188
      clear c188
      by_cases c189 : x100_2 < (x788000_2.length : Int)
      rotate_left
      ·rw [if_neg c189] at H
       exact absurd H (by simp)
      rw [if_pos c189] at H
      have c189b0 : decide (x100_2 < (x788000_2.length : Int)) = true := decide_eq_true c189
      clear c189
      by_cases c190 : (rd x788000_2 x100_2) = 0
      ·rw [if_pos c190] at H
       have c190b0 : ((rd x788000_2 x100_2) == 0) = true := beq_iff_eq.mpr c190
       have c190b1 : ((rd x788000_2 x100_2) != 0) = false := bne_eq_false_iff_eq.mpr c190
       clear c190
       have H' := Aside0.mk H
       clear H
       have hnb191 := NB787_774.out
       have hnc191 := NB774_787.out
       have hnb192 := NB787_775.out
       have hnc192 := NB775_787.out
       have hnb193 := NB787_776.out
       have hnc193 := NB776_787.out
       have hcz194_0 : wr.cell? ⟨gb787, 0, none⟩ = some (u788000) := bc_ BK787 0
       have hcz194_1 : wr.cell? ⟨gb787, 1, none⟩ = some (u788001) := bc_ BK787 1
       have hcz194_2 : wr.cell? ⟨gb787, 2, none⟩ = some (.slice Ao98 t784.length co98) := bc_ BK787 2
       have hfz194_0 := blk_frozen BK787.out 0
       have hfz194_1 := blk_frozen BK787.out 1
       have hfz194_2 := blk_frozen BK787.out 2
       obtain ⟨Ao195, co195, eo195⟩ := Kd.R_slice HO_788000.out
       subst eo195
       have p802 : 0 ≤ (x100_2 : Int) := of_decide_eq_true (by first | (with_reducible assumption) | assumption)
       have q802 : x100_2 < (x788000_2.length : Int) := of_decide_eq_true (by first | (with_reducible assumption) | assumption)
       obtain ⟨ad802, e802, hx802_0⟩ := Kd.at_int (Kd.R_reads' HO_788000.out).2.2 x100_2 p802 q802
       cases e802
       replace p802 := eq_true p802
       replace q802 := eq_true q802
       go_wp2
       go_roundg k2
       case measure => have := HJ80.out; have := HK2.out; omega
       case rel => exact ⟨(wrap64 (x100_2 + 1)), (x788000_2), (x788001_2), (.slice (some ad802) x788000_2.length co195), (u788001), (by first | rfl | (simp; done) | (simp [*]; done)), H', ⟨by have := HJ80.out; have := HK2.out; omega⟩, ⟨ra HO_788000.out⟩, ⟨ra HO_788001.out⟩, ⟨ra HO_788002.out⟩, ⟨by (with_reducible repeat (first | refine blk_drewN ?_ _ | refine blk_drew ?_ | refine blk_alloc ?_ _)); exact BK774.out⟩, ⟨by (with_reducible repeat (first | refine blk_drewN ?_ _ | refine blk_drew ?_ | refine blk_alloc ?_ _)); exact BK775.out⟩, ⟨by (with_reducible repeat (first | refine blk_drewN ?_ _ | refine blk_drew ?_ | refine blk_alloc ?_ _)); exact BK776.out⟩, ⟨by (with_reducible repeat (first | refine blk_drewN ?_ _ | refine blk_drew ?_ | refine blk_alloc ?_ _)); exact BK787.out⟩, ⟨hB HB⟩⟩
      rw [if_neg c190] at H
      have c190b0 : ((rd x788000_2 x100_2) == 0) = false := beq_eq_false_iff_ne.mpr c190
      have c190b1 : ((rd x788000_2 x100_2) != 0) = true := bne_iff_ne.mpr c190
      by_cases c196 : x100_2 < (x788001_2.length : Int)
      rotate_left
      ·rw [if_neg c196] at H
       exact absurd H (by simp)
      rw [if_pos c196] at H
      have c196b0 : decide (x100_2 < (x788001_2.length : Int)) = true := decide_eq_true c196
      clear c196
      obtain ⟨y804, hy804⟩ : ∃ y_ : List Int, y_ = (x788001_2.set (x100_2 : Int).toNat (wrap64 ((rd x788001_2 x100_2) - 1))) := ⟨_, rfl⟩
      replace H : (if (rd y804 x100_2) = 0 then (impl_StepPair.l0 k2 (t778.length : Int) (wrap64 (x100_2 + 1)) (x788000_2.set (x100_2 : Int).toNat 0) y804 t784) else (impl_StepPair.l0 k2 (t778.length : Int) (wrap64 (x100_2 + 1)) x788000_2 y804 t784)) = some (r1, r2, r3, r4) := by first | (rw [hy804]; with_reducible exact H) | (have H2_ := (Option.bind_some _ _).symm.trans H; rw [hy804]; with_reducible exact H2_) | (have H2_ := (Option.bind_some _ _).symm.trans H; with_reducible exact H2_) | with_reducible exact H | (rw [hy804]; exact H) | exact H
      have Ny804 := Aside0.mk hy804
      clear hy804
      by_cases c198 : (rd y804 x100_2) = 0
      rotate_left
      ·rw [if_neg c198] at H
       have c198b0 : ((rd y804 x100_2) == 0) = false := beq_eq_false_iff_ne.mpr c198
       have c198b1 : ((rd y804 x100_2) != 0) = true := bne_iff_ne.mpr c198
       have H' := Aside0.mk H
       clear H
       have hnb211 := NB787_774.out
       have hnc211 := NB774_787.out
       have hnb212 := NB787_775.out
       have hnc212 := NB775_787.out
       have hnb213 := NB787_776.out
       have hnc213 := NB776_787.out
       have hcz214_0 : wr.cell? ⟨gb787, 0, none⟩ = some (u788000) := bc_ BK787 0
       have hcz214_1 : wr.cell? ⟨gb787, 1, none⟩ = some (u788001) := bc_ BK787 1
       have hcz214_2 : wr.cell? ⟨gb787, 2, none⟩ = some (.slice Ao98 t784.length co98) := bc_ BK787 2
       have hfz214_0 := blk_frozen BK787.out 0
       have hfz214_1 := blk_frozen BK787.out 1
       have hfz214_2 := blk_frozen BK787.out 2
       obtain ⟨Ao215, co215, eo215⟩ := Kd.R_slice HO_788000.out
       subst eo215
       have p802 : 0 ≤ (x100_2 : Int) := of_decide_eq_true (by first | (with_reducible assumption) | assumption)
       have q802 : x100_2 < (x788000_2.length : Int) := of_decide_eq_true (by first | (with_reducible assumption) | assumption)
       obtain ⟨ad802, e802, hx802_0⟩ := Kd.at_int (Kd.R_reads' HO_788000.out).2.2 x100_2 p802 q802
       cases e802
       replace p802 := eq_true p802
       replace q802 := eq_true q802
       obtain ⟨Ao216, co216, eo216⟩ := Kd.R_slice HO_788001.out
       subst eo216
       have p803 : 0 ≤ (x100_2 : Int) := of_decide_eq_true (by first | (with_reducible assumption) | assumption)
       have q803 : x100_2 < (x788001_2.length : Int) := of_decide_eq_true (by first | (with_reducible assumption) | assumption)
       obtain ⟨ad803, e803, hx803_0⟩ := Kd.at_int (Kd.R_reads' HO_788001.out).2.2 x100_2 p803 q803
       cases e803
       replace p803 := eq_true p803
       replace q803 := eq_true q803
       have p197 : 0 ≤ (x100_2 : Int) := of_decide_eq_true (by first | (with_reducible assumption) | assumption)
       have q197 : (x100_2 : Int) < ((x788001_2.length : Int) : Int) := of_decide_eq_true (by first | (with_reducible assumption) | assumption)
       obtain ⟨go197, co197, eo197, gb197, gl197, cl197, HG197⟩ := Kd.R_form HO_788001.out (by omega)
       (first | cases eo197 | (injection eo197 with ea_ en_ ec_; (first | subst ea_ | (injection ea_ with ea_; subst ea_)); subst ec_; clear en_))
       have GB197 := Aside0.mk gb197
       have GG197 := Aside0.mk HG197
       clear gb197 gl197 HG197
       (first | simp only [add_plain] at hx803_0 | skip)
       obtain ⟨hx197_0, hf197_0⟩ := Kd.R_celln 0 HO_788001.out (x100_2 : Int) p197 q197
       replace p197 := eq_true p197
       replace q197 := eq_true q197
       have HP217 := Kd.R_putg HO_788001.out (x100_2 : Int) (wrap64 ((rd x788001_2 x100_2) - 1))
       go_wp2_with (first | ((with_reducible refine gate_store (t := 3) (p := 115) rfl ?_); refine store_event (t := 3) (p := 115) (v := ?vo_w218) (w1 := (wr.setCell ⟨go197, (x100_2 : Int).toNat, none⟩ (.int .i64 (wrap64 ((rd x788001_2 x100_2) - 1))))) ?hg ?ho ?hn ?hr ?_; (case ho => rfl); (case hg => rfl); (case hn => rfl); (case hr => first | (go_simp; done) | (go_simp; rfl)); intro w218 hw; have hg : wr.grownBy w218 (some go197) := (by rw [hw]; exact HP217.2); have hp_ : Kd.R (Kd.int .i64) 3 w218 w.heap.size (fun k_ => some k_ ≠ (.slice (some ad802) x788000_2.length co215 : Value).ownBlock) (.slice (some ⟨go197, 0, none⟩) x788001_2.length co216) y804 := (by rw [hw, Ny804.out]; exact HP217.1); clear HP217; replace HO_788000 := Aside0.mk (Kd.R_after (v := (.slice (some ⟨go197, 0, none⟩) x788001_2.length co216)) (v1 := (.slice (some ⟨go197, 0, none⟩) x788001_2.length co216)) (ok := (fun _ => True)) (rm_ HO_788000 (fun _ hk => ⟨trivial, hk⟩)).out hg (.inl rfl)); replace HO_788002 := Aside0.mk (Kd.R_over' (v := (.slice (some ⟨go197, 0, none⟩) x788001_2.length co216)) (ra HO_788002.out) (Kd.R_typed HO_788001.out) (by decide) hg); replace BK774 := Aside0.mk (blk_grown (g := gb774) (o := .cells #[.slice A0_0 l0_0.length c0_0, .slice A0_1 l0_1.length c0_1, .slice A0_2 l0_2.length c0_2] 35 (0, 0)) (ba BK774.out) hg (Kd.R_ne HO_788001.out BK774.out (by decide))); replace BK775 := Aside0.mk (blk_grown (g := gb775) (o := .cells #[.int .i64 a1_0, .int .i64 a1_1] 37 (0, 0)) (ba BK775.out) hg (Kd.R_ne HO_788001.out BK775.out (by decide))); replace BK776 := Aside0.mk (blk_grown (g := gb776) (o := .cells #[.slice none 0 0, .slice none 0 0, .slice none 0 0] 35 (0, 0)) (ba BK776.out) hg (Kd.R_ne HO_788001.out BK776.out (by decide))); replace BK787 := Aside0.mk (blk_grown (g := gb787) (o := .cells #[.slice (some ad802) x788000_2.length co215, .slice (some ⟨go197, 0, none⟩) x788001_2.length co216, .slice Ao98 t784.length co98] 35 (0, 0)) (ba BK787.out) hg (Kd.R_ne HO_788001.out BK787.out (by decide))); replace HO_788001 := Aside0.mk (hp_); replace HB := Aside0.mk ((by rw [hw]; exact below_set (HB.out) GB197.out : Below w.heap.size w w218)); clear hg hw hp_; have hcz219_0 : w218.cell? ⟨gb787, 0, none⟩ = some (.slice (some ad802) x788000_2.length co215) := bc_ BK787 0; have hcz219_1 : w218.cell? ⟨gb787, 1, none⟩ = some (.slice (some ⟨go197, 0, none⟩) x788001_2.length co216) := bc_ BK787 1; have hcz219_2 : w218.cell? ⟨gb787, 2, none⟩ = some (.slice Ao98 t784.length co98) := bc_ BK787 2; have hfz219_0 := blk_frozen BK787.out 0; have hfz219_1 := blk_frozen BK787.out 1; have hfz219_2 := blk_frozen BK787.out 2; have p805 : 0 ≤ (x100_2 : Int) := of_decide_eq_true (by first | (with_reducible assumption) | assumption); have q805 : x100_2 < (y804.length : Int) := (by have h_ : (x100_2 : Int) < ((x788001_2.length : Int) : Int) := of_decide_eq_true (by first | (with_reducible assumption) | assumption); first | (have e_ := (Kd.R_reads' HO_788001.out).1; omega) | simpa only [Ny804.out, List.length_set] using h_); have ql805 : ((x100_2 : Int) < ((x788001_2.length : Int) : Int)) = True := eq_true (of_decide_eq_true (by first | (with_reducible assumption) | assumption)); obtain ⟨ad805, e805, hx805_0⟩ := Kd.at_int (Kd.R_reads' HO_788001.out).2.2 x100_2 p805 q805; obtain rfl : (⟨go197, 0, none⟩ : Addr) = ad805 := (by injection e805); (first | simp only [add_plain] at hx805_0 | simp only [add_at] at hx805_0 | simp only [Addr.add, Nat.zero_add] at hx805_0 | skip); replace p805 := eq_true p805; replace q805 := eq_true q805))
       go_roundg k2
       case measure => have := HJ80.out; have := HK2.out; omega
       case rel => exact ⟨(wrap64 (x100_2 + 1)), (x788000_2), (y804), (.slice (some ad802) x788000_2.length co215), (.slice (some ⟨go197, 0, none⟩) x788001_2.length co216), (by first | rfl | (simp; done) | (simp [*]; done)), H', ⟨by have := HJ80.out; have := HK2.out; omega⟩, rm_ HO_788000 (fun _ hk => hk.2), ⟨ra HO_788001.out⟩, ⟨ra HO_788002.out⟩, ⟨by (with_reducible repeat (first | refine blk_drewN ?_ _ | refine blk_drew ?_ | refine blk_alloc ?_ _)); exact BK774.out⟩, ⟨by (with_reducible repeat (first | refine blk_drewN ?_ _ | refine blk_drew ?_ | refine blk_alloc ?_ _)); exact BK775.out⟩, ⟨by (with_reducible repeat (first | refine blk_drewN ?_ _ | refine blk_drew ?_ | refine blk_alloc ?_ _)); exact BK776.out⟩, ⟨by (with_reducible repeat (first | refine blk_drewN ?_ _ | refine blk_drew ?_ | refine blk_alloc ?_ _)); exact BK787.out⟩, ⟨hB HB⟩⟩
      rw [if_pos c198] at H
      have c198b0 : ((rd y804 x100_2) == 0) = true := beq_iff_eq.mpr c198
      have c198b1 : ((rd y804 x100_2) != 0) = false := bne_eq_false_iff_eq.mpr c198
      clear c198
      obtain ⟨y806, hy806⟩ : ∃ y_ : List Int, y_ = (x788000_2.set (x100_2 : Int).toNat 0) := ⟨_, rfl⟩
      replace H : (impl_StepPair.l0 k2 (t778.length : Int) (wrap64 (x100_2 + 1)) y806 y804 t784) = some (r1, r2, r3, r4) := by first | (rw [hy806]; with_reducible exact H) | (have H2_ := (Option.bind_some _ _).symm.trans H; rw [hy806]; with_reducible exact H2_) | (have H2_ := (Option.bind_some _ _).symm.trans H; with_reducible exact H2_) | with_reducible exact H | (rw [hy806]; exact H) | exact H
      have Ny806 := Aside0.mk hy806
      clear hy806
      have H' := Aside0.mk H
      clear H
      have hnb200 := NB787_774.out
      have hnc200 := NB774_787.out
      have hnb201 := NB787_775.out
      have hnc201 := NB775_787.out
      have hnb202 := NB787_776.out
      have hnc202 := NB776_787.out
      have hcz203_0 : wr.cell? ⟨gb787, 0, none⟩ = some (u788000) := bc_ BK787 0
      have hcz203_1 : wr.cell? ⟨gb787, 1, none⟩ = some (u788001) := bc_ BK787 1
      have hcz203_2 : wr.cell? ⟨gb787, 2, none⟩ = some (.slice Ao98 t784.length co98) := bc_ BK787 2
      have hfz203_0 := blk_frozen BK787.out 0
      have hfz203_1 := blk_frozen BK787.out 1
      have hfz203_2 := blk_frozen BK787.out 2
      obtain ⟨Ao204, co204, eo204⟩ := Kd.R_slice HO_788000.out
      subst eo204
      have p802 : 0 ≤ (x100_2 : Int) := of_decide_eq_true (by first | (with_reducible assumption) | assumption)
      have q802 : x100_2 < (x788000_2.length : Int) := of_decide_eq_true (by first | (with_reducible assumption) | assumption)
      obtain ⟨ad802, e802, hx802_0⟩ := Kd.at_int (Kd.R_reads' HO_788000.out).2.2 x100_2 p802 q802
      cases e802
      replace p802 := eq_true p802
      replace q802 := eq_true q802
      obtain ⟨Ao205, co205, eo205⟩ := Kd.R_slice HO_788001.out
      subst eo205
      have p803 : 0 ≤ (x100_2 : Int) := of_decide_eq_true (by first | (with_reducible assumption) | assumption)
      have q803 : x100_2 < (x788001_2.length : Int) := of_decide_eq_true (by first | (with_reducible assumption) | assumption)
      obtain ⟨ad803, e803, hx803_0⟩ := Kd.at_int (Kd.R_reads' HO_788001.out).2.2 x100_2 p803 q803
      cases e803
      replace p803 := eq_true p803
      replace q803 := eq_true q803
      have p197 : 0 ≤ (x100_2 : Int) := of_decide_eq_true (by first | (with_reducible assumption) | assumption)
      have q197 : (x100_2 : Int) < ((x788001_2.length : Int) : Int) := of_decide_eq_true (by first | (with_reducible assumption) | assumption)
      obtain ⟨go197, co197, eo197, gb197, gl197, cl197, HG197⟩ := Kd.R_form HO_788001.out (by omega)
      (first | cases eo197 | (injection eo197 with ea_ en_ ec_; (first | subst ea_ | (injection ea_ with ea_; subst ea_)); subst ec_; clear en_))
      have GB197 := Aside0.mk gb197
      have GG197 := Aside0.mk HG197
      clear gb197 gl197 HG197
      (first | simp only [add_plain] at hx803_0 | skip)
      obtain ⟨hx197_0, hf197_0⟩ := Kd.R_celln 0 HO_788001.out (x100_2 : Int) p197 q197
      replace p197 := eq_true p197
      replace q197 := eq_true q197
      have HP206 := Kd.R_putg HO_788001.out (x100_2 : Int) (wrap64 ((rd x788001_2 x100_2) - 1))
      go_wp2_with (first | ((with_reducible refine gate_store (t := 3) (p := 115) rfl ?_); refine store_event (t := 3) (p := 115) (v := ?vo_w207) (w1 := (wr.setCell ⟨go197, (x100_2 : Int).toNat, none⟩ (.int .i64 (wrap64 ((rd x788001_2 x100_2) - 1))))) ?hg ?ho ?hn ?hr ?_; (case ho => rfl); (case hg => rfl); (case hn => rfl); (case hr => first | (go_simp; done) | (go_simp; rfl)); intro w207 hw; have hg : wr.grownBy w207 (some go197) := (by rw [hw]; exact HP206.2); have hp_ : Kd.R (Kd.int .i64) 3 w207 w.heap.size (fun k_ => some k_ ≠ (.slice (some ad802) x788000_2.length co204 : Value).ownBlock) (.slice (some ⟨go197, 0, none⟩) x788001_2.length co205) y804 := (by rw [hw, Ny804.out]; exact HP206.1); clear HP206; replace HO_788000 := Aside0.mk (Kd.R_after (v := (.slice (some ⟨go197, 0, none⟩) x788001_2.length co205)) (v1 := (.slice (some ⟨go197, 0, none⟩) x788001_2.length co205)) (ok := (fun _ => True)) (rm_ HO_788000 (fun _ hk => ⟨trivial, hk⟩)).out hg (.inl rfl)); replace HO_788002 := Aside0.mk (Kd.R_over' (v := (.slice (some ⟨go197, 0, none⟩) x788001_2.length co205)) (ra HO_788002.out) (Kd.R_typed HO_788001.out) (by decide) hg); replace BK774 := Aside0.mk (blk_grown (g := gb774) (o := .cells #[.slice A0_0 l0_0.length c0_0, .slice A0_1 l0_1.length c0_1, .slice A0_2 l0_2.length c0_2] 35 (0, 0)) (ba BK774.out) hg (Kd.R_ne HO_788001.out BK774.out (by decide))); replace BK775 := Aside0.mk (blk_grown (g := gb775) (o := .cells #[.int .i64 a1_0, .int .i64 a1_1] 37 (0, 0)) (ba BK775.out) hg (Kd.R_ne HO_788001.out BK775.out (by decide))); replace BK776 := Aside0.mk (blk_grown (g := gb776) (o := .cells #[.slice none 0 0, .slice none 0 0, .slice none 0 0] 35 (0, 0)) (ba BK776.out) hg (Kd.R_ne HO_788001.out BK776.out (by decide))); replace BK787 := Aside0.mk (blk_grown (g := gb787) (o := .cells #[.slice (some ad802) x788000_2.length co204, .slice (some ⟨go197, 0, none⟩) x788001_2.length co205, .slice Ao98 t784.length co98] 35 (0, 0)) (ba BK787.out) hg (Kd.R_ne HO_788001.out BK787.out (by decide))); replace HO_788001 := Aside0.mk (hp_); replace HB := Aside0.mk ((by rw [hw]; exact below_set (HB.out) GB197.out : Below w.heap.size w w207)); clear hg hw hp_; have hcz208_0 : w207.cell? ⟨gb787, 0, none⟩ = some (.slice (some ad802) x788000_2.length co204) := bc_ BK787 0; have hcz208_1 : w207.cell? ⟨gb787, 1, none⟩ = some (.slice (some ⟨go197, 0, none⟩) x788001_2.length co205) := bc_ BK787 1; have hcz208_2 : w207.cell? ⟨gb787, 2, none⟩ = some (.slice Ao98 t784.length co98) := bc_ BK787 2; have hfz208_0 := blk_frozen BK787.out 0; have hfz208_1 := blk_frozen BK787.out 1; have hfz208_2 := blk_frozen BK787.out 2; have p805 : 0 ≤ (x100_2 : Int) := of_decide_eq_true (by first | (with_reducible assumption) | assumption); have q805 : x100_2 < (y804.length : Int) := (by have h_ : (x100_2 : Int) < ((x788001_2.length : Int) : Int) := of_decide_eq_true (by first | (with_reducible assumption) | assumption); first | (have e_ := (Kd.R_reads' HO_788001.out).1; omega) | simpa only [Ny804.out, List.length_set] using h_); have ql805 : ((x100_2 : Int) < ((x788001_2.length : Int) : Int)) = True := eq_true (of_decide_eq_true (by first | (with_reducible assumption) | assumption)); obtain ⟨ad805, e805, hx805_0⟩ := Kd.at_int (Kd.R_reads' HO_788001.out).2.2 x100_2 p805 q805; obtain rfl : (⟨go197, 0, none⟩ : Addr) = ad805 := (by injection e805); (first | simp only [add_plain] at hx805_0 | simp only [add_at] at hx805_0 | simp only [Addr.add, Nat.zero_add] at hx805_0 | skip); replace p805 := eq_true p805; replace q805 := eq_true q805; have p199 : 0 ≤ (x100_2 : Int) := of_decide_eq_true (by first | (with_reducible assumption) | assumption); have q199 : (x100_2 : Int) < ((x788000_2.length : Int) : Int) := of_decide_eq_true (by first | (with_reducible assumption) | assumption); obtain ⟨go199, co199, eo199, gb199, gl199, cl199, HG199⟩ := Kd.R_form HO_788000.out (by omega); (first | cases eo199 | (injection eo199 with ea_ en_ ec_; (first | subst ea_ | (injection ea_ with ea_; subst ea_)); subst ec_; clear en_)); have GB199 := Aside0.mk gb199; have GG199 := Aside0.mk HG199; clear gb199 gl199 HG199; (first | simp only [add_plain] at hx802_0 | skip); obtain ⟨hx199_0, hf199_0⟩ := Kd.R_celln 0 HO_788000.out (x100_2 : Int) p199 q199; replace p199 := eq_true p199; replace q199 := eq_true q199; have n_ := Aside0.mk (Kd.R_mono (ok' := (fun k_ => some k_ ≠ (.slice (some ⟨go197, 0, none⟩) x788001_2.length co205 : Value).ownBlock)) HO_788000.out (fun k_ hk => hk.2)); clear HO_788000; have HO_788000 := n_; clear n_; obtain ⟨hy209_, hz209_⟩ := Kd.R_celln 0 HO_788000.out (x100_2 : Int) (of_decide_eq_true (by first | (with_reducible assumption) | assumption)) (of_decide_eq_true (by first | (with_reducible assumption) | assumption)); have HP209 := Kd.R_putg HO_788000.out (x100_2 : Int) 0) | ((with_reducible refine gate_store (t := 3) (p := 125) rfl ?_); refine store_event (t := 3) (p := 125) (v := ?vo_w210) (w1 := (w207.setCell ⟨go199, (x100_2 : Int).toNat, none⟩ (.int .i64 0))) ?hg ?ho ?hn ?hr ?_; (case ho => rfl); (case hg => rfl); (case hn => rfl); (case hr => first | (go_simp; done) | (go_simp; rfl)); intro w210 hw; have hg : w207.grownBy w210 (some go199) := (by rw [hw]; exact HP209.2); have hp_ : Kd.R (Kd.int .i64) 3 w210 w.heap.size (fun k_ => some k_ ≠ (.slice (some ⟨go197, 0, none⟩) x788001_2.length co205 : Value).ownBlock) (.slice (some ⟨go199, 0, none⟩) x788000_2.length co204) y806 := (by rw [hw, Ny806.out]; exact HP209.1); clear HP209; replace HO_788001 := Aside0.mk (Kd.R_after (v := (.slice (some ⟨go199, 0, none⟩) x788000_2.length co204)) (v1 := (.slice (some ⟨go199, 0, none⟩) x788000_2.length co204)) (ok := (fun _ => True)) (rm_ HO_788001 (fun _ hk => ⟨trivial, hk⟩)).out hg (.inl rfl)); replace HO_788002 := Aside0.mk (Kd.R_over' (v := (.slice (some ⟨go199, 0, none⟩) x788000_2.length co204)) (ra HO_788002.out) (Kd.R_typed HO_788000.out) (by decide) hg); replace BK774 := Aside0.mk (blk_grown (g := gb774) (o := .cells #[.slice A0_0 l0_0.length c0_0, .slice A0_1 l0_1.length c0_1, .slice A0_2 l0_2.length c0_2] 35 (0, 0)) (ba BK774.out) hg (Kd.R_ne HO_788000.out BK774.out (by decide))); replace BK775 := Aside0.mk (blk_grown (g := gb775) (o := .cells #[.int .i64 a1_0, .int .i64 a1_1] 37 (0, 0)) (ba BK775.out) hg (Kd.R_ne HO_788000.out BK775.out (by decide))); replace BK776 := Aside0.mk (blk_grown (g := gb776) (o := .cells #[.slice none 0 0, .slice none 0 0, .slice none 0 0] 35 (0, 0)) (ba BK776.out) hg (Kd.R_ne HO_788000.out BK776.out (by decide))); replace BK787 := Aside0.mk (blk_grown (g := gb787) (o := .cells #[.slice (some ⟨go199, 0, none⟩) x788000_2.length co204, .slice (some ⟨go197, 0, none⟩) x788001_2.length co205, .slice Ao98 t784.length co98] 35 (0, 0)) (ba BK787.out) hg (Kd.R_ne HO_788000.out BK787.out (by decide))); replace HO_788000 := Aside0.mk (hp_); replace HB := Aside0.mk ((by rw [hw]; exact below_set (HB.out) GB199.out : Below w.heap.size w w210)); clear hg hw hp_))
      go_roundg k2
      case measure => have := HJ80.out; have := HK2.out; omega
      case rel => exact ⟨(wrap64 (x100_2 + 1)), (y806), (y804), (.slice (some ⟨go199, 0, none⟩) x788000_2.length co204), (.slice (some ⟨go197, 0, none⟩) x788001_2.length co205), (by first | rfl | (simp; done) | (simp [*]; done)), H', ⟨by have := HJ80.out; have := HK2.out; omega⟩, ⟨ra HO_788000.out⟩, rm_ HO_788001 (fun _ hk => hk.2), ⟨ra HO_788002.out⟩, ⟨by (with_reducible repeat (first | refine blk_drewN ?_ _ | refine blk_drew ?_ | refine blk_alloc ?_ _)); exact BK774.out⟩, ⟨by (with_reducible repeat (first | refine blk_drewN ?_ _ | refine blk_drew ?_ | refine blk_alloc ?_ _)); exact BK775.out⟩, ⟨by (with_reducible repeat (first | refine blk_drewN ?_ _ | refine blk_drew ?_ | refine blk_alloc ?_ _)); exact BK776.out⟩, ⟨by (with_reducible repeat (first | refine blk_drewN ?_ _ | refine blk_drew ?_ | refine blk_alloc ?_ _)); exact BK787.out⟩, ⟨hB HB⟩⟩
   subst c102
   rw [if_pos rfl] at H
   replace H := Option.bind_eq_some_iff.mp H
   obtain ⟨t793, A1030, H⟩ := H
   replace H : (if t793 = true then (if 0 ≤ a1_1 then (if a1_1 < (l0_2.length : Int) then ((impl_Hello_85.f t784 a1_1 (wrap64 (a1_1 + 1))).bind fun t796 => (if a1_0 = 2 then ((impl_nextState.f ((rd_T45 l0_2 a1_1).f1)).bind fun t799 => (if 0 ≤ (wrap64 (1 - ((rd_T45 l0_2 a1_1).f0))) then (if (wrap64 (1 - ((rd_T45 l0_2 a1_1).f0))) < (t778.length : Int) then (if (wrap64 (1 - ((rd_T45 l0_2 a1_1).f0))) < (t781.length : Int) then (some ((t778.set ((wrap64 (1 - ((rd_T45 l0_2 a1_1).f0))) : Int).toNat t799), (t781.set ((wrap64 (1 - ((rd_T45 l0_2 a1_1).f0))) : Int).toNat 3), t796, true)) else (none)) else (none)) else (none))) else (some (t778, t781, t796, true)))) else (none)) else (none)) else (some (([] : List Int), ([] : List Int), ([] : List (S45)), false))) = some (r1, r2, r3, r4) := H
   have A103 := Aside0.mk A1030
   clear A1030
   by_cases c104 : t793 = true
   rotate_left
   ·replace c104 := Bool.eq_false_iff.mpr c104
    subst c104
    rw [if_neg (show ¬ (false = true) by decide)] at H
    simp only [Option.some.injEq, Prod.mk.injEq] at H
    obtain ⟨rfl, rfl, rfl, rfl⟩ := H
    have hnb169 := NB775_774.out
    have hnc169 := NB774_775.out
    have hnb170 := NB775_776.out
    have hnc170 := NB776_775.out
    have hnb171 := NB775_787.out
    have hnc171 := NB787_775.out
    have hcz172_0 : wc.cell? ⟨gb775, 0, none⟩ = some (.int .i64 a1_0) := bc_ BK775 0
    have hcz172_1 : wc.cell? ⟨gb775, 1, none⟩ = some (.int .i64 a1_1) := bc_ BK775 1
    have hfz172_0 := blk_frozen BK775.out 0
    have hfz172_1 := blk_frozen BK775.out 1
    have hnb173 := NB774_776.out
    have hnc173 := NB776_774.out
    have hnb174 := NB774_787.out
    have hnc174 := NB787_774.out
    have hcz175_0 : wc.cell? ⟨gb774, 0, none⟩ = some (.slice A0_0 l0_0.length c0_0) := bc_ BK774 0
    have hcz175_1 : wc.cell? ⟨gb774, 1, none⟩ = some (.slice A0_1 l0_1.length c0_1) := bc_ BK774 1
    have hcz175_2 : wc.cell? ⟨gb774, 2, none⟩ = some (.slice A0_2 l0_2.length c0_2) := bc_ BK774 2
    have hfz175_0 := blk_frozen BK774.out 0
    have hfz175_1 := blk_frozen BK774.out 1
    have hfz175_2 := blk_frozen BK774.out 2
    go_wp2_with (first | ((with_reducible refine gate_callee (f := 84) rfl ?_); refine goesL_ (some 55) rfl rfl Try.func84 (by kernel_rfl) rfl #[.int .i64 a1_1, .int .i64 0, .int .i64 (wrap64 ((l0_2.length : Int) - 1))] rfl tm_ ?_; (with_reducible refine (impl_in.calls a1_1 0 (wrap64 ((l0_2.length : Int) - 1)) false _ A103.out).mono ?_); rintro e w' ⟨rfl, ⟨nd, rfl⟩⟩; refine ⟨_, rfl, ?_⟩; (try (rw [drewN_self wc]; generalize hq_ : World.drewN wc _ = wc; have n0_ : Aside0 (Kd.R (Kd.int .i64) 3 wc w.heap.size (fun k_ => no_ (.slice Ao97 t781.length co97) k_) (.slice Ao92 t778.length co92) t778) := ⟨by rw [← hq_]; exact (ra HO_788000.out)⟩; have n1_ : Aside0 (Kd.R (Kd.int .i64) 3 wc w.heap.size (fun k_ => no_ (.slice Ao92 t778.length co92) k_) (.slice Ao97 t781.length co97) t781) := ⟨by rw [← hq_]; exact (ra HO_788001.out)⟩; have n2_ : Aside0 (Kd.R k45 45 wc w.heap.size (fun _ => True) (.slice Ao98 t784.length co98) t784) := ⟨by rw [← hq_]; exact (ra HO_788002.out)⟩; have n3_ : Aside0 (wc.heap[gb774]? = some (.cells #[.slice A0_0 l0_0.length c0_0, .slice A0_1 l0_1.length c0_1, .slice A0_2 l0_2.length c0_2] 35 (0, 0))) := ⟨by rw [← hq_]; exact (ba BK774.out)⟩; have n4_ : Aside0 (wc.heap[gb775]? = some (.cells #[.int .i64 a1_0, .int .i64 a1_1] 37 (0, 0))) := ⟨by rw [← hq_]; exact (ba BK775.out)⟩; have n5_ : Aside0 (wc.heap[gb776]? = some (.cells #[.slice none 0 0, .slice none 0 0, .slice none 0 0] 35 (0, 0))) := ⟨by rw [← hq_]; exact (ba BK776.out)⟩; have n6_ : Aside0 (wc.heap[gb787]? = some (.cells #[.slice Ao92 t778.length co92, .slice Ao97 t781.length co97, .slice Ao98 t784.length co98] 35 (0, 0))) := ⟨by rw [← hq_]; exact (ba BK787.out)⟩; have n7_ : Aside0 (Below w.heap.size w wc) := ⟨by rw [← hq_]; exact (hB HB)⟩; clear HO_788000 HO_788001 HO_788002 BK774 BK775 BK776 BK787 HB hq_; have HO_788000 := n0_; have HO_788001 := n1_; have HO_788002 := n2_; have BK774 := n3_; have BK775 := n4_; have BK776 := n5_; have BK787 := n6_; have HB := n7_; clear n0_ n1_ n2_ n3_ n4_ n5_ n6_ n7_)); have hcz172_0 : wc.cell? ⟨gb775, 0, none⟩ = some (.int .i64 a1_0) := bc_ BK775 0; have hcz172_1 : wc.cell? ⟨gb775, 1, none⟩ = some (.int .i64 a1_1) := bc_ BK775 1; have hfz172_0 := blk_frozen BK775.out 0; have hfz172_1 := blk_frozen BK775.out 1; have hcz175_0 : wc.cell? ⟨gb774, 0, none⟩ = some (.slice A0_0 l0_0.length c0_0) := bc_ BK774 0; have hcz175_1 : wc.cell? ⟨gb774, 1, none⟩ = some (.slice A0_1 l0_1.length c0_1) := bc_ BK774 1; have hcz175_2 : wc.cell? ⟨gb774, 2, none⟩ = some (.slice A0_2 l0_2.length c0_2) := bc_ BK774 2; have hfz175_0 := blk_frozen BK774.out 0; have hfz175_1 := blk_frozen BK774.out 1; have hfz175_2 := blk_frozen BK774.out 2; have hnb176 := NB776_787.out; have hnc176 := NB787_776.out; have hcz177_0 : wc.cell? ⟨gb776, 0, none⟩ = some (.slice none 0 0) := bc_ BK776 0; have hcz177_1 : wc.cell? ⟨gb776, 1, none⟩ = some (.slice none 0 0) := bc_ BK776 1; have hcz177_2 : wc.cell? ⟨gb776, 2, none⟩ = some (.slice none 0 0) := bc_ BK776 2; have hfz177_0 := blk_frozen BK776.out 0; have hfz177_1 := blk_frozen BK776.out 1; have hfz177_2 := blk_frozen BK776.out 2))
    refine bodyPost_ret (results_ct rfl _ _ gb776 35 #[.slice none 0 0, .slice none 0 0, .slice none 0 0] (0, 0) _ rfl (by (with_reducible repeat (first | refine blk_drewN ?_ _ | refine blk_drew ?_ | refine blk_alloc ?_ _)); refine blk_put (cs := #[.slice none 0 0, .slice none 0 0, .slice none 0 0]) ?_ 2 _ rfl; (with_reducible repeat (first | refine blk_drewN ?_ _ | refine blk_drew ?_ | refine blk_alloc ?_ _)); refine blk_put (cs := #[.slice none 0 0, .slice none 0 0, .slice none 0 0]) ?_ 1 _ rfl; (with_reducible repeat (first | refine blk_drewN ?_ _ | refine blk_drew ?_ | refine blk_alloc ?_ _)); refine blk_put (cs := #[.slice none 0 0, .slice none 0 0, .slice none 0 0]) ?_ 0 _ rfl; (with_reducible repeat (first | refine blk_drewN ?_ _ | refine blk_drew ?_ | refine blk_alloc ?_ _)); exact BK776.out) Try.underlying35 rfl (by kernel_rfl)) rfl ?_
    exact ⟨_, _, _, by first | rfl | (simp [errW_none, errW_some] <;> rfl) | (simp [*, errW_none, errW_some] <;> rfl), by first | exact Kd.R_nil _ _ _ _ _ | exact Kd.N_nil _ _ _ _ _ | exact Kd.V_nil _ _ _ _ _ | exact Kd.Q_nil _ _ _ _ _ | exact Kd.S_nil _ _ _ _ _, by first | exact Kd.R_nil _ _ _ _ _ | exact Kd.N_nil _ _ _ _ _ | exact Kd.V_nil _ _ _ _ _ | exact Kd.Q_nil _ _ _ _ _ | exact Kd.S_nil _ _ _ _ _, by first | exact Kd.R_nil _ _ _ _ _ | exact Kd.N_nil _ _ _ _ _ | exact Kd.V_nil _ _ _ _ _ | exact Kd.Q_nil _ _ _ _ _ | exact Kd.S_nil _ _ _ _ _, by repeat (first | (with_reducible first | exact HB.out | apply below_alloc | apply pw_below_drewN | apply below_drew1 | refine below_set ?_ GE774.out | refine below_set ?_ GE775.out | refine below_set ?_ GE776.out | refine below_set ?_ GE787.out) | exact HB.out)⟩
   subst c104
   rw [if_pos rfl] at H
   by_cases c105 : 0 ≤ a1_1
   rotate_left
   ·rw [if_neg c105] at H
    exact absurd H (by simp)
   rw [if_pos c105] at H
   have c105b0 : decide (0 ≤ a1_1) = true := decide_eq_true c105
   clear c105
   by_cases c106 : a1_1 < (l0_2.length : Int)
   rotate_left
   ·rw [if_neg c106] at H
    exact absurd H (by simp)
   rw [if_pos c106] at H
   have c106b0 : decide (a1_1 < (l0_2.length : Int)) = true := decide_eq_true c106
   clear c106
   replace H := Option.bind_eq_some_iff.mp H
   obtain ⟨t796, A1070, H⟩ := H
   replace H : (if a1_0 = 2 then ((impl_nextState.f ((rd_T45 l0_2 a1_1).f1)).bind fun t799 => (if 0 ≤ (wrap64 (1 - ((rd_T45 l0_2 a1_1).f0))) then (if (wrap64 (1 - ((rd_T45 l0_2 a1_1).f0))) < (t778.length : Int) then (if (wrap64 (1 - ((rd_T45 l0_2 a1_1).f0))) < (t781.length : Int) then (some ((t778.set ((wrap64 (1 - ((rd_T45 l0_2 a1_1).f0))) : Int).toNat t799), (t781.set ((wrap64 (1 - ((rd_T45 l0_2 a1_1).f0))) : Int).toNat 3), t796, true)) else (none)) else (none)) else (none))) else (some (t778, t781, t796, true))) = some (r1, r2, r3, r4) := H
   have A107 := Aside0.mk A1070
   clear A1070
   by_cases c108 : a1_0 = 2
   rotate_left
   ·rw [if_neg c108] at H
    have c108b0 : (a1_0 == 2) = false := beq_eq_false_iff_ne.mpr c108
    have c108b1 : (a1_0 != 2) = true := bne_iff_ne.mpr c108
    simp only [Option.some.injEq, Prod.mk.injEq] at H
    obtain ⟨rfl, rfl, rfl, rfl⟩ := H
    have hnb147 := NB775_774.out
    have hnc147 := NB774_775.out
    have hnb148 := NB775_776.out
    have hnc148 := NB776_775.out
    have hnb149 := NB775_787.out
    have hnc149 := NB787_775.out
    have hcz150_0 : wc.cell? ⟨gb775, 0, none⟩ = some (.int .i64 a1_0) := bc_ BK775 0
    have hcz150_1 : wc.cell? ⟨gb775, 1, none⟩ = some (.int .i64 a1_1) := bc_ BK775 1
    have hfz150_0 := blk_frozen BK775.out 0
    have hfz150_1 := blk_frozen BK775.out 1
    have hnb151 := NB774_776.out
    have hnc151 := NB776_774.out
    have hnb152 := NB774_787.out
    have hnc152 := NB787_774.out
    have hcz153_0 : wc.cell? ⟨gb774, 0, none⟩ = some (.slice A0_0 l0_0.length c0_0) := bc_ BK774 0
    have hcz153_1 : wc.cell? ⟨gb774, 1, none⟩ = some (.slice A0_1 l0_1.length c0_1) := bc_ BK774 1
    have hcz153_2 : wc.cell? ⟨gb774, 2, none⟩ = some (.slice A0_2 l0_2.length c0_2) := bc_ BK774 2
    have hfz153_0 := blk_frozen BK774.out 0
    have hfz153_1 := blk_frozen BK774.out 1
    have hfz153_2 := blk_frozen BK774.out 2
    go_wp2_with (first | ((with_reducible refine gate_callee (f := 84) rfl ?_); refine goesL_ (some 55) rfl rfl Try.func84 (by kernel_rfl) rfl #[.int .i64 a1_1, .int .i64 0, .int .i64 (wrap64 ((l0_2.length : Int) - 1))] rfl tm_ ?_; (with_reducible refine (impl_in.calls a1_1 0 (wrap64 ((l0_2.length : Int) - 1)) true _ A103.out).mono ?_); rintro e w' ⟨rfl, ⟨nd, rfl⟩⟩; refine ⟨_, rfl, ?_⟩; (try (rw [drewN_self wc]; generalize hq_ : World.drewN wc _ = wc; have n0_ : Aside0 (Kd.R (Kd.int .i64) 3 wc w.heap.size (fun k_ => no_ (.slice Ao97 t781.length co97) k_) (.slice Ao92 t778.length co92) t778) := ⟨by rw [← hq_]; exact (ra HO_788000.out)⟩; have n1_ : Aside0 (Kd.R (Kd.int .i64) 3 wc w.heap.size (fun k_ => no_ (.slice Ao92 t778.length co92) k_) (.slice Ao97 t781.length co97) t781) := ⟨by rw [← hq_]; exact (ra HO_788001.out)⟩; have n2_ : Aside0 (Kd.R k45 45 wc w.heap.size (fun _ => True) (.slice Ao98 t784.length co98) t784) := ⟨by rw [← hq_]; exact (ra HO_788002.out)⟩; have n3_ : Aside0 (wc.heap[gb774]? = some (.cells #[.slice A0_0 l0_0.length c0_0, .slice A0_1 l0_1.length c0_1, .slice A0_2 l0_2.length c0_2] 35 (0, 0))) := ⟨by rw [← hq_]; exact (ba BK774.out)⟩; have n4_ : Aside0 (wc.heap[gb775]? = some (.cells #[.int .i64 a1_0, .int .i64 a1_1] 37 (0, 0))) := ⟨by rw [← hq_]; exact (ba BK775.out)⟩; have n5_ : Aside0 (wc.heap[gb776]? = some (.cells #[.slice none 0 0, .slice none 0 0, .slice none 0 0] 35 (0, 0))) := ⟨by rw [← hq_]; exact (ba BK776.out)⟩; have n6_ : Aside0 (wc.heap[gb787]? = some (.cells #[.slice Ao92 t778.length co92, .slice Ao97 t781.length co97, .slice Ao98 t784.length co98] 35 (0, 0))) := ⟨by rw [← hq_]; exact (ba BK787.out)⟩; have n7_ : Aside0 (Below w.heap.size w wc) := ⟨by rw [← hq_]; exact (hB HB)⟩; clear HO_788000 HO_788001 HO_788002 BK774 BK775 BK776 BK787 HB hq_; have HO_788000 := n0_; have HO_788001 := n1_; have HO_788002 := n2_; have BK774 := n3_; have BK775 := n4_; have BK776 := n5_; have BK787 := n6_; have HB := n7_; clear n0_ n1_ n2_ n3_ n4_ n5_ n6_ n7_)); have hcz150_0 : wc.cell? ⟨gb775, 0, none⟩ = some (.int .i64 a1_0) := bc_ BK775 0; have hcz150_1 : wc.cell? ⟨gb775, 1, none⟩ = some (.int .i64 a1_1) := bc_ BK775 1; have hfz150_0 := blk_frozen BK775.out 0; have hfz150_1 := blk_frozen BK775.out 1; have hcz153_0 : wc.cell? ⟨gb774, 0, none⟩ = some (.slice A0_0 l0_0.length c0_0) := bc_ BK774 0; have hcz153_1 : wc.cell? ⟨gb774, 1, none⟩ = some (.slice A0_1 l0_1.length c0_1) := bc_ BK774 1; have hcz153_2 : wc.cell? ⟨gb774, 2, none⟩ = some (.slice A0_2 l0_2.length c0_2) := bc_ BK774 2; have hfz153_0 := blk_frozen BK774.out 0; have hfz153_1 := blk_frozen BK774.out 1; have hfz153_2 := blk_frozen BK774.out 2; have p794 : 0 ≤ (a1_1 : Int) := of_decide_eq_true (by first | (with_reducible assumption) | assumption); have q794 : a1_1 < (l0_2.length : Int) := of_decide_eq_true (by first | (with_reducible assumption) | assumption); obtain ⟨ad794, e794, hx794_0, hx794_1⟩ := at_T45 HR0_2.out a1_1 p794 q794; cases e794; replace hx794_0 := (HB.out.cell (World.block_lt_of_cell? w _ hx794_0)).trans hx794_0; replace hx794_1 := (HB.out.cell (World.block_lt_of_cell? w _ hx794_1)).trans hx794_1; replace p794 := eq_true p794; replace q794 := eq_true q794) | ((with_reducible refine gate_dst (N := 7) rfl ?_); (try (refine gate_guard (by rfl) ?_; dsimp only)); refine box_event ?hg (N := 7) ?hd (cs := #[.int .i64 0, .bool false]) (t := 45) ?hr ?_; (case hd => rfl); (case hg => rfl); (case hr => first | (go_simp; done) | (go_simp; rfl)); intro gb795 hg w154 hbox hb; have BK795 := Aside0.mk (hbox); have GW795 := gw_ hg HB; have GE795 := gw_ hg HB; have NB774_795 := nl_ hg BK774; have NB795_774 := ng_ hg BK774; have NB775_795 := nl_ hg BK775; have NB795_775 := ng_ hg BK775; have NB776_795 := nl_ hg BK776; have NB795_776 := ng_ hg BK776; have NB787_795 := nl_ hg BK787; have NB795_787 := ng_ hg BK787; replace HO_788000 := rb_ HO_788000 hb; replace HO_788001 := rb_ HO_788001 hb; replace HO_788002 := Aside0.mk (Kd.R_below (Kd.R_elderB (ra HO_788002.out) gb795 (Nat.le_of_eq hg.symm)) hb); replace BK774 := bb_ BK774 hb; replace BK775 := bb_ BK775 hb; replace BK776 := bb_ BK776 hb; replace BK787 := bb_ BK787 hb; replace HB := bst_ HB hb; clear hb hbox hg; have hnb155 := NB795_774.out; have hnc155 := NB774_795.out; have hnb156 := NB795_775.out; have hnc156 := NB775_795.out; have hnb157 := NB795_776.out; have hnc157 := NB776_795.out; have hnb158 := NB795_787.out; have hnc158 := NB787_795.out; have hcz159_0 : w154.cell? ⟨gb795, 0, none⟩ = some (.int .i64 0) := bc_ BK795 0; have hcz159_1 : w154.cell? ⟨gb795, 1, none⟩ = some (.bool false) := bc_ BK795 1; have hfz159_0 := blk_frozen BK795.out 0; have hfz159_1 := blk_frozen BK795.out 1) | ((with_reducible refine gate_store (t := 45) (p := 7) rfl ?_); refine store_event (t := 45) (p := 7) (v := ?vo_w160) (w1 := ((w154.setCell ⟨gb795, 0, none⟩ (.int .i64 ((rd_T45 l0_2 a1_1).f0))).setCell ⟨gb795, 1, none⟩ (.bool ((rd_T45 l0_2 a1_1).f1)))) ?hg ?ho ?hn ?hr ?_; (case ho => rfl); (case hg => rfl); (case hn => rfl); (case hr => first | (go_simp; done) | (go_simp; rfl)); intro w160 hw; have n0_ : Aside0 (Kd.R (Kd.int .i64) 3 w160 w.heap.size (fun k_ => no_ (.slice Ao97 t781.length co97) k_) (.slice Ao92 t778.length co92) t778) := ⟨(by rw [hw]; exact (ra (Kd.R_mono (Kd.R_far (p := ⟨gb795, 1, none⟩) (Kd.R_far (p := ⟨gb795, 0, none⟩) (Kd.R_types HO_788000.out BK795.out (by decide)) (fun _ hk => hk.2) (.int .i64 ((rd_T45 l0_2 a1_1).f0))) (fun _ hk => hk.2) (.bool ((rd_T45 l0_2 a1_1).f1))) (fun _ hk => hk.1))))⟩; have n1_ : Aside0 (Kd.R (Kd.int .i64) 3 w160 w.heap.size (fun k_ => no_ (.slice Ao92 t778.length co92) k_) (.slice Ao97 t781.length co97) t781) := ⟨(by rw [hw]; exact (ra (Kd.R_mono (Kd.R_far (p := ⟨gb795, 1, none⟩) (Kd.R_far (p := ⟨gb795, 0, none⟩) (Kd.R_types HO_788001.out BK795.out (by decide)) (fun _ hk => hk.2) (.int .i64 ((rd_T45 l0_2 a1_1).f0))) (fun _ hk => hk.2) (.bool ((rd_T45 l0_2 a1_1).f1))) (fun _ hk => hk.1))))⟩; have n2_ : Aside0 (Kd.R k45 45 w160 w.heap.size (fun k_ => k_ ≠ gb795) (.slice Ao98 t784.length co98) t784) := ⟨(by rw [hw]; exact (ra (Kd.R_mono (Kd.R_far (p := ⟨gb795, 1, none⟩) (Kd.R_far (p := ⟨gb795, 0, none⟩) (Kd.R_mono HO_788002.out (fun k_ hk => (⟨hk, hk.2⟩ : _ ∧ k_ ≠ gb795))) (fun _ hk => hk.2) (.int .i64 ((rd_T45 l0_2 a1_1).f0))) (fun _ hk => hk.2) (.bool ((rd_T45 l0_2 a1_1).f1))) (fun _ hk => hk.1.2))))⟩; have n3_ : Aside0 (w160.heap[gb774]? = some (.cells #[.slice A0_0 l0_0.length c0_0, .slice A0_1 l0_1.length c0_1, .slice (some ad794) l0_2.length c0_2] 35 (0, 0))) := ⟨(by rw [hw]; exact (bx BK774))⟩; have n4_ : Aside0 (w160.heap[gb775]? = some (.cells #[.int .i64 a1_0, .int .i64 a1_1] 37 (0, 0))) := ⟨(by rw [hw]; exact (bx BK775))⟩; have n5_ : Aside0 (w160.heap[gb776]? = some (.cells #[.slice none 0 0, .slice none 0 0, .slice none 0 0] 35 (0, 0))) := ⟨(by rw [hw]; exact (bx BK776))⟩; have n6_ : Aside0 (w160.heap[gb787]? = some (.cells #[.slice Ao92 t778.length co92, .slice Ao97 t781.length co97, .slice Ao98 t784.length co98] 35 (0, 0))) := ⟨(by rw [hw]; exact (bx BK787))⟩; have n7_ : Aside0 (w160.heap[gb795]? = some (.cells #[.int .i64 ((rd_T45 l0_2 a1_1).f0), .bool ((rd_T45 l0_2 a1_1).f1)] 45 (0, 0))) := ⟨(by rw [hw]; exact (by (with_reducible repeat (first | refine blk_drewN ?_ _ | refine blk_drew ?_ | refine blk_alloc ?_ _)); refine blk_put (cs := #[.int .i64 ((rd_T45 l0_2 a1_1).f0), .bool false]) ?_ 1 _ rfl; (with_reducible repeat (first | refine blk_drewN ?_ _ | refine blk_drew ?_ | refine blk_alloc ?_ _)); refine blk_put (cs := #[.int .i64 0, .bool false]) ?_ 0 _ rfl; (with_reducible repeat (first | refine blk_drewN ?_ _ | refine blk_drew ?_ | refine blk_alloc ?_ _)); exact BK795.out))⟩; have n8_ : Aside0 (Below w.heap.size w w160) := ⟨(by rw [hw]; exact (hB HB))⟩; clear hw; clear HO_788000; clear HO_788001; clear HO_788002; clear BK774; clear BK775; clear BK776; clear BK787; clear BK795; clear HB; have HO_788000 := n0_; have HO_788001 := n1_; have HO_788002 := n2_; have BK774 := n3_; have BK775 := n4_; have BK776 := n5_; have BK787 := n6_; have BK795 := n7_; have HB := n8_; clear n0_ n1_ n2_ n3_ n4_ n5_ n6_ n7_ n8_; have hnb161 := NB787_776.out; have hnc161 := NB776_787.out; have hcz162_0 : w160.cell? ⟨gb787, 0, none⟩ = some (.slice Ao92 t778.length co92) := bc_ BK787 0; have hcz162_1 : w160.cell? ⟨gb787, 1, none⟩ = some (.slice Ao97 t781.length co97) := bc_ BK787 1; have hcz162_2 : w160.cell? ⟨gb787, 2, none⟩ = some (.slice Ao98 t784.length co98) := bc_ BK787 2; have hfz162_0 := blk_frozen BK787.out 0; have hfz162_1 := blk_frozen BK787.out 1; have hfz162_2 := blk_frozen BK787.out 2; have hcz163_0 : w160.cell? ⟨gb775, 0, none⟩ = some (.int .i64 a1_0) := bc_ BK775 0; have hcz163_1 : w160.cell? ⟨gb775, 1, none⟩ = some (.int .i64 a1_1) := bc_ BK775 1; have hfz163_0 := blk_frozen BK775.out 0; have hfz163_1 := blk_frozen BK775.out 1) | ((with_reducible refine gate_callee (f := 85) rfl ?_); refine goesL_ (some 71) rfl rfl Try.func85 (by kernel_rfl) rfl #[.slice Ao98 t784.length co98, .int .i64 a1_1, .int .i64 (wrap64 (a1_1 + 1))] rfl tm_ ?_; (with_reducible refine (impl_Hello_85.calls (fun k_ => some k_ = (.slice Ao98 t784.length co98 : Value).ownBlock) (.slice Ao98 t784.length co98) t784 a1_1 (wrap64 (a1_1 + 1)) t796 w _ ?side1 ?side2 A107.out).mono ?_); (case side1 => repeat (first | (with_reducible first | exact HB.out | apply below_alloc | apply pw_below_drewN | apply below_drew1 | refine below_set ?_ GE774.out | refine below_set ?_ GE775.out | refine below_set ?_ GE776.out | refine below_set ?_ GE787.out | refine below_set ?_ GE795.out) | exact HB.out)); (case side2 => exact Kd.R_tight rfl HO_788002.out); rintro e w164 ⟨v797, rfl, ho0, hb, hkp⟩; refine ⟨_, rfl, ?_⟩; have HO798 := Aside0.mk (Kd.R_mono (ok' := fun k_ => k_ ≠ gb795) ho0 (fun k_ hk_ => Or.elim hk_ (fun hs_ => fun e_ => (Kd.R_away HO_788002.out (fun _ hk => hk)) (by rw [← e_]; exact hs_)) (fun hn_ => (Kd.freshB (g := gb795) (o := .cells #[.int .i64 ((rd_T45 l0_2 a1_1).f0), .bool ((rd_T45 l0_2 a1_1).f1)] 45 (0, 0)) (ba BK795.out) k_ hn_)))); replace HO_788000 := Aside0.mk (Kd.R_mono (ok' := fun k_ => no_ (.slice Ao97 t781.length co97) k_) (Kd.R_keptB ((Kd.R_apart' HO_788000.out (Kd.R_typed HO_788002.out) (by decide))) hkp (fun k_ hk_ hs_ => (hk_.2) hs_)) (fun k_ hk_ => hk_.1.1)); replace HO_788001 := Aside0.mk (Kd.R_mono (ok' := fun k_ => no_ (.slice Ao92 t778.length co92) k_) (Kd.R_keptB ((Kd.R_apart' HO_788001.out (Kd.R_typed HO_788002.out) (by decide))) hkp (fun k_ hk_ hs_ => (hk_.2) hs_)) (fun k_ hk_ => hk_.1.1)); replace BK774 := Aside0.mk (blk_kept (ba BK774.out) hkp (fun hs_ => (fun e_ => (Kd.R_ne HO_788002.out BK774.out (by decide)) e_) hs_)); replace BK775 := Aside0.mk (blk_kept (ba BK775.out) hkp (fun hs_ => (fun e_ => (Kd.R_ne HO_788002.out BK775.out (by decide)) e_) hs_)); replace BK776 := Aside0.mk (blk_kept (ba BK776.out) hkp (fun hs_ => (fun e_ => (Kd.R_ne HO_788002.out BK776.out (by decide)) e_) hs_)); replace BK787 := Aside0.mk (blk_kept (ba BK787.out) hkp (fun hs_ => (fun e_ => (Kd.R_ne HO_788002.out BK787.out (by decide)) e_) hs_)); replace BK795 := Aside0.mk (blk_kept (ba BK795.out) hkp (fun hs_ => (fun e_ => (Kd.R_away HO_788002.out (fun _ hk => hk)) e_) hs_)); replace HB := Aside0.mk (hb); clear HO_788002; clear hb ho0; obtain ⟨Ao165, co165, eo165⟩ := Kd.R_slice HO798.out; subst eo165; have hcz166_0 : w164.cell? ⟨gb787, 0, none⟩ = some (.slice Ao92 t778.length co92) := bc_ BK787 0; have hcz166_1 : w164.cell? ⟨gb787, 1, none⟩ = some (.slice Ao97 t781.length co97) := bc_ BK787 1; have hcz166_2 : w164.cell? ⟨gb787, 2, none⟩ = some (.slice Ao98 t784.length co98) := bc_ BK787 2; have hfz166_0 := blk_frozen BK787.out 0; have hfz166_1 := blk_frozen BK787.out 1; have hfz166_2 := blk_frozen BK787.out 2; have hcz167_0 : w164.cell? ⟨gb775, 0, none⟩ = some (.int .i64 a1_0) := bc_ BK775 0; have hcz167_1 : w164.cell? ⟨gb775, 1, none⟩ = some (.int .i64 a1_1) := bc_ BK775 1; have hfz167_0 := blk_frozen BK775.out 0; have hfz167_1 := blk_frozen BK775.out 1; have hcz168_0 : w164.cell? ⟨gb776, 0, none⟩ = some (.slice none 0 0) := bc_ BK776 0; have hcz168_1 : w164.cell? ⟨gb776, 1, none⟩ = some (.slice none 0 0) := bc_ BK776 1; have hcz168_2 : w164.cell? ⟨gb776, 2, none⟩ = some (.slice none 0 0) := bc_ BK776 2; have hfz168_0 := blk_frozen BK776.out 0; have hfz168_1 := blk_frozen BK776.out 1; have hfz168_2 := blk_frozen BK776.out 2))
    refine bodyPost_ret (results_ct rfl _ _ gb776 35 #[.slice Ao92 t778.length co92, .slice Ao97 t781.length co97, .slice Ao165 t796.length co165] (0, 0) _ rfl (by (with_reducible repeat (first | refine blk_drewN ?_ _ | refine blk_drew ?_ | refine blk_alloc ?_ _)); refine blk_put (cs := #[.slice Ao92 t778.length co92, .slice Ao97 t781.length co97, .slice none 0 0]) ?_ 2 _ rfl; (with_reducible repeat (first | refine blk_drewN ?_ _ | refine blk_drew ?_ | refine blk_alloc ?_ _)); refine blk_put (cs := #[.slice Ao92 t778.length co92, .slice none 0 0, .slice none 0 0]) ?_ 1 _ rfl; (with_reducible repeat (first | refine blk_drewN ?_ _ | refine blk_drew ?_ | refine blk_alloc ?_ _)); refine blk_put (cs := #[.slice none 0 0, .slice none 0 0, .slice none 0 0]) ?_ 0 _ rfl; (with_reducible repeat (first | refine blk_drewN ?_ _ | refine blk_drew ?_ | refine blk_alloc ?_ _)); refine blk_far ?_ NB776_787.out _; (with_reducible repeat (first | refine blk_drewN ?_ _ | refine blk_drew ?_ | refine blk_alloc ?_ _)); exact BK776.out) Try.underlying35 rfl (by kernel_rfl)) rfl ?_
    exact ⟨_, _, _, by first | rfl | (simp [errW_none, errW_some] <;> rfl) | (simp [*, errW_none, errW_some] <;> rfl), by (with_reducible repeat (first | apply Kd.R_alloc | apply Kd.R_drewN | apply Kd.R_drew)); exact Kd.R_mono (Kd.R_far (p := ⟨gb776, 2, none⟩) (Kd.R_far (p := ⟨gb776, 1, none⟩) (Kd.R_far (p := ⟨gb776, 0, none⟩) (Kd.R_far (p := ⟨gb787, 2, none⟩) (Kd.R_types (Kd.R_types HO_788000.out BK787.out (by decide)) BK776.out (by decide)) (fun _ hk => hk.1.2) (.slice Ao165 t796.length co165)) (fun _ hk => hk.2) (.slice Ao92 t778.length co92)) (fun _ hk => hk.2) (.slice Ao97 t781.length co97)) (fun _ hk => hk.2) (.slice Ao165 t796.length co165)) (fun _ hk => hk.1.1), by (with_reducible repeat (first | apply Kd.R_alloc | apply Kd.R_drewN | apply Kd.R_drew)); exact Kd.R_mono (Kd.R_far (p := ⟨gb776, 2, none⟩) (Kd.R_far (p := ⟨gb776, 1, none⟩) (Kd.R_far (p := ⟨gb776, 0, none⟩) (Kd.R_far (p := ⟨gb787, 2, none⟩) (Kd.R_types (Kd.R_types HO_788001.out BK787.out (by decide)) BK776.out (by decide)) (fun _ hk => hk.1.2) (.slice Ao165 t796.length co165)) (fun _ hk => hk.2) (.slice Ao92 t778.length co92)) (fun _ hk => hk.2) (.slice Ao97 t781.length co97)) (fun _ hk => hk.2) (.slice Ao165 t796.length co165)) (fun _ hk => hk.1.1), by (with_reducible repeat (first | apply Kd.R_alloc | apply Kd.R_drewN | apply Kd.R_drew)); exact Kd.R_mono (Kd.R_far (p := ⟨gb776, 2, none⟩) (Kd.R_far (p := ⟨gb776, 1, none⟩) (Kd.R_far (p := ⟨gb776, 0, none⟩) (Kd.R_far (p := ⟨gb787, 2, none⟩) (Kd.R_types (Kd.R_types HO798.out BK787.out (by decide)) BK776.out (by decide)) (fun _ hk => hk.1.2) (.slice Ao165 t796.length co165)) (fun _ hk => hk.2) (.slice Ao92 t778.length co92)) (fun _ hk => hk.2) (.slice Ao97 t781.length co97)) (fun _ hk => hk.2) (.slice Ao165 t796.length co165)) (fun _ hk => trivial), by repeat (first | (with_reducible first | exact HB.out | apply below_alloc | apply pw_below_drewN | apply below_drew1 | refine below_set ?_ GE774.out | refine below_set ?_ GE775.out | refine below_set ?_ GE776.out | refine below_set ?_ GE787.out | refine below_set ?_ GE795.out) | exact HB.out)⟩
   rw [if_pos c108] at H
   have c108b0 : (a1_0 == 2) = true := beq_iff_eq.mpr c108
   have c108b1 : (a1_0 != 2) = false := bne_eq_false_iff_eq.mpr c108
   clear c108
   replace H := Option.bind_eq_some_iff.mp H
   obtain ⟨t799, A1090, H⟩ := H
   replace H : (if 0 ≤ (wrap64 (1 - ((rd_T45 l0_2 a1_1).f0))) then (if (wrap64 (1 - ((rd_T45 l0_2 a1_1).f0))) < (t778.length : Int) then (if (wrap64 (1 - ((rd_T45 l0_2 a1_1).f0))) < (t781.length : Int) then (some ((t778.set ((wrap64 (1 - ((rd_T45 l0_2 a1_1).f0))) : Int).toNat t799), (t781.set ((wrap64 (1 - ((rd_T45 l0_2 a1_1).f0))) : Int).toNat 3), t796, true)) else (none)) else (none)) else (none)) = some (r1, r2, r3, r4) := H
   have A109 := Aside0.mk A1090
   clear A1090
   obtain ⟨ji110, hji110⟩ : ∃ j_ : Int, (wrap64 (1 - ((rd_T45 l0_2 a1_1).f0))) = j_ := ⟨_, rfl⟩
   replace H : (if 0 ≤ (ji110) then (if (ji110) < (t778.length : Int) then (if (ji110) < (t781.length : Int) then (some ((t778.set ((ji110) : Int).toNat t799), (t781.set ((ji110) : Int).toNat 3), t796, true)) else (none)) else (none)) else (none)) = some (r1, r2, r3, r4) := by first | (rw [hji110] at H; exact H) | (simp only [hji110] at H ⊢; exact H)
   (try rw [hji110] at A103)
   (try rw [hji110] at A107)
   (try rw [hji110] at A109)
   have hji110w : (IntKind.i64.wrap (1 - ((rd_T45 l0_2 a1_1).f0))) = ji110 := (i64_w _).trans hji110
   by_cases c111 : 0 ≤ (ji110)
   rotate_left
   ·rw [if_neg c111] at H
    exact absurd H (by simp)
   rw [if_pos c111] at H
   have c111b0 : decide (0 ≤ (ji110)) = true := decide_eq_true c111
   clear c111
   by_cases c112 : (ji110) < (t778.length : Int)
   rotate_left
   ·rw [if_neg c112] at H
    exact absurd H (by simp)
   rw [if_pos c112] at H
   have c112b0 : decide ((ji110) < (t778.length : Int)) = true := decide_eq_true c112
   clear c112
   obtain ⟨y800, hy800⟩ : ∃ y_ : List Int, y_ = (t778.set ((ji110) : Int).toNat t799) := ⟨_, rfl⟩
   replace H : (if (ji110) < (t781.length : Int) then (some (y800, (t781.set ((ji110) : Int).toNat 3), t796, true)) else (none)) = some (r1, r2, r3, r4) := by first | (rw [hy800]; with_reducible exact H) | (have H2_ := (Option.bind_some _ _).symm.trans H; rw [hy800]; with_reducible exact H2_) | (have H2_ := (Option.bind_some _ _).symm.trans H; with_reducible exact H2_) | with_reducible exact H | (rw [hy800]; exact H) | exact H
   have Ny800 := Aside0.mk hy800
   clear hy800
   by_cases c114 : (ji110) < (t781.length : Int)
   rotate_left
   ·rw [if_neg c114] at H
    exact absurd H (by simp)
   rw [if_pos c114] at H
   have c114b0 : decide ((ji110) < (t781.length : Int)) = true := decide_eq_true c114
   clear c114
   obtain ⟨y801, hy801⟩ : ∃ y_ : List Int, y_ = (t781.set ((ji110) : Int).toNat 3) := ⟨_, rfl⟩
   replace H : (some (y800, y801, t796, true)) = some (r1, r2, r3, r4) := by first | (rw [hy801]; with_reducible exact H) | (have H2_ := (Option.bind_some _ _).symm.trans H; rw [hy801]; with_reducible exact H2_) | (have H2_ := (Option.bind_some _ _).symm.trans H; with_reducible exact H2_) | with_reducible exact H | (rw [hy801]; exact H) | exact H
   have Ny801 := Aside0.mk hy801
   clear hy801
   simp only [Option.some.injEq, Prod.mk.injEq] at H
   obtain ⟨rfl, rfl, rfl, rfl⟩ := H
   have hnb116 := NB775_774.out
   have hnc116 := NB774_775.out
   have hnb117 := NB775_776.out
   have hnc117 := NB776_775.out
   have hnb118 := NB775_787.out
   have hnc118 := NB787_775.out
   have hcz119_0 : wc.cell? ⟨gb775, 0, none⟩ = some (.int .i64 a1_0) := bc_ BK775 0
   have hcz119_1 : wc.cell? ⟨gb775, 1, none⟩ = some (.int .i64 a1_1) := bc_ BK775 1
   have hfz119_0 := blk_frozen BK775.out 0
   have hfz119_1 := blk_frozen BK775.out 1
   have hnb120 := NB774_776.out
   have hnc120 := NB776_774.out
   have hnb121 := NB774_787.out
   have hnc121 := NB787_774.out
   have hcz122_0 : wc.cell? ⟨gb774, 0, none⟩ = some (.slice A0_0 l0_0.length c0_0) := bc_ BK774 0
   have hcz122_1 : wc.cell? ⟨gb774, 1, none⟩ = some (.slice A0_1 l0_1.length c0_1) := bc_ BK774 1
   have hcz122_2 : wc.cell? ⟨gb774, 2, none⟩ = some (.slice A0_2 l0_2.length c0_2) := bc_ BK774 2
   have hfz122_0 := blk_frozen BK774.out 0
   have hfz122_1 := blk_frozen BK774.out 1
   have hfz122_2 := blk_frozen BK774.out 2
   try go_wp2_with (first | ((with_reducible refine gate_callee (f := 84) rfl ?_); refine goesL_ (some 55) rfl rfl Try.func84 (by kernel_rfl) rfl #[.int .i64 a1_1, .int .i64 0, .int .i64 (wrap64 ((l0_2.length : Int) - 1))] rfl tm_ ?_; (with_reducible refine (impl_in.calls a1_1 0 (wrap64 ((l0_2.length : Int) - 1)) true _ A103.out).mono ?_); rintro e w' ⟨rfl, ⟨nd, rfl⟩⟩; refine ⟨_, rfl, ?_⟩; (try (rw [drewN_self wc]; generalize hq_ : World.drewN wc _ = wc; have n0_ : Aside0 (Kd.R (Kd.int .i64) 3 wc w.heap.size (fun k_ => no_ (.slice Ao97 t781.length co97) k_) (.slice Ao92 t778.length co92) t778) := ⟨by rw [← hq_]; exact (ra HO_788000.out)⟩; have n1_ : Aside0 (Kd.R (Kd.int .i64) 3 wc w.heap.size (fun k_ => no_ (.slice Ao92 t778.length co92) k_) (.slice Ao97 t781.length co97) t781) := ⟨by rw [← hq_]; exact (ra HO_788001.out)⟩; have n2_ : Aside0 (Kd.R k45 45 wc w.heap.size (fun _ => True) (.slice Ao98 t784.length co98) t784) := ⟨by rw [← hq_]; exact (ra HO_788002.out)⟩; have n3_ : Aside0 (wc.heap[gb774]? = some (.cells #[.slice A0_0 l0_0.length c0_0, .slice A0_1 l0_1.length c0_1, .slice A0_2 l0_2.length c0_2] 35 (0, 0))) := ⟨by rw [← hq_]; exact (ba BK774.out)⟩; have n4_ : Aside0 (wc.heap[gb775]? = some (.cells #[.int .i64 a1_0, .int .i64 a1_1] 37 (0, 0))) := ⟨by rw [← hq_]; exact (ba BK775.out)⟩; have n5_ : Aside0 (wc.heap[gb776]? = some (.cells #[.slice none 0 0, .slice none 0 0, .slice none 0 0] 35 (0, 0))) := ⟨by rw [← hq_]; exact (ba BK776.out)⟩; have n6_ : Aside0 (wc.heap[gb787]? = some (.cells #[.slice Ao92 t778.length co92, .slice Ao97 t781.length co97, .slice Ao98 t784.length co98] 35 (0, 0))) := ⟨by rw [← hq_]; exact (ba BK787.out)⟩; have n7_ : Aside0 (Below w.heap.size w wc) := ⟨by rw [← hq_]; exact (hB HB)⟩; clear HO_788000 HO_788001 HO_788002 BK774 BK775 BK776 BK787 HB hq_; have HO_788000 := n0_; have HO_788001 := n1_; have HO_788002 := n2_; have BK774 := n3_; have BK775 := n4_; have BK776 := n5_; have BK787 := n6_; have HB := n7_; clear n0_ n1_ n2_ n3_ n4_ n5_ n6_ n7_)); have hcz119_0 : wc.cell? ⟨gb775, 0, none⟩ = some (.int .i64 a1_0) := bc_ BK775 0; have hcz119_1 : wc.cell? ⟨gb775, 1, none⟩ = some (.int .i64 a1_1) := bc_ BK775 1; have hfz119_0 := blk_frozen BK775.out 0; have hfz119_1 := blk_frozen BK775.out 1; have hcz122_0 : wc.cell? ⟨gb774, 0, none⟩ = some (.slice A0_0 l0_0.length c0_0) := bc_ BK774 0; have hcz122_1 : wc.cell? ⟨gb774, 1, none⟩ = some (.slice A0_1 l0_1.length c0_1) := bc_ BK774 1; have hcz122_2 : wc.cell? ⟨gb774, 2, none⟩ = some (.slice A0_2 l0_2.length c0_2) := bc_ BK774 2; have hfz122_0 := blk_frozen BK774.out 0; have hfz122_1 := blk_frozen BK774.out 1; have hfz122_2 := blk_frozen BK774.out 2; have p794 : 0 ≤ (a1_1 : Int) := of_decide_eq_true (by first | (with_reducible assumption) | assumption); have q794 : a1_1 < (l0_2.length : Int) := of_decide_eq_true (by first | (with_reducible assumption) | assumption); obtain ⟨ad794, e794, hx794_0, hx794_1⟩ := at_T45 HR0_2.out a1_1 p794 q794; cases e794; replace hx794_0 := (HB.out.cell (World.block_lt_of_cell? w _ hx794_0)).trans hx794_0; replace hx794_1 := (HB.out.cell (World.block_lt_of_cell? w _ hx794_1)).trans hx794_1; replace p794 := eq_true p794; replace q794 := eq_true q794) | ((with_reducible refine gate_dst (N := 7) rfl ?_); (try (refine gate_guard (by rfl) ?_; dsimp only)); refine box_event ?hg (N := 7) ?hd (cs := #[.int .i64 0, .bool false]) (t := 45) ?hr ?_; (case hd => rfl); (case hg => rfl); (case hr => first | (go_simp; done) | (go_simp; rfl)); intro gb795 hg w123 hbox hb; have BK795 := Aside0.mk (hbox); have GW795 := gw_ hg HB; have GE795 := gw_ hg HB; have NB774_795 := nl_ hg BK774; have NB795_774 := ng_ hg BK774; have NB775_795 := nl_ hg BK775; have NB795_775 := ng_ hg BK775; have NB776_795 := nl_ hg BK776; have NB795_776 := ng_ hg BK776; have NB787_795 := nl_ hg BK787; have NB795_787 := ng_ hg BK787; replace HO_788000 := rb_ HO_788000 hb; replace HO_788001 := rb_ HO_788001 hb; replace HO_788002 := Aside0.mk (Kd.R_below (Kd.R_elderB (ra HO_788002.out) gb795 (Nat.le_of_eq hg.symm)) hb); replace BK774 := bb_ BK774 hb; replace BK775 := bb_ BK775 hb; replace BK776 := bb_ BK776 hb; replace BK787 := bb_ BK787 hb; replace HB := bst_ HB hb; clear hb hbox hg; have hnb124 := NB795_774.out; have hnc124 := NB774_795.out; have hnb125 := NB795_775.out; have hnc125 := NB775_795.out; have hnb126 := NB795_776.out; have hnc126 := NB776_795.out; have hnb127 := NB795_787.out; have hnc127 := NB787_795.out; have hcz128_0 : w123.cell? ⟨gb795, 0, none⟩ = some (.int .i64 0) := bc_ BK795 0; have hcz128_1 : w123.cell? ⟨gb795, 1, none⟩ = some (.bool false) := bc_ BK795 1; have hfz128_0 := blk_frozen BK795.out 0; have hfz128_1 := blk_frozen BK795.out 1) | ((with_reducible refine gate_store (t := 45) (p := 7) rfl ?_); refine store_event (t := 45) (p := 7) (v := ?vo_w129) (w1 := ((w123.setCell ⟨gb795, 0, none⟩ (.int .i64 ((rd_T45 l0_2 a1_1).f0))).setCell ⟨gb795, 1, none⟩ (.bool ((rd_T45 l0_2 a1_1).f1)))) ?hg ?ho ?hn ?hr ?_; (case ho => rfl); (case hg => rfl); (case hn => rfl); (case hr => first | (go_simp; done) | (go_simp; rfl)); intro w129 hw; have n0_ : Aside0 (Kd.R (Kd.int .i64) 3 w129 w.heap.size (fun k_ => no_ (.slice Ao97 t781.length co97) k_) (.slice Ao92 t778.length co92) t778) := ⟨(by rw [hw]; exact (ra (Kd.R_mono (Kd.R_far (p := ⟨gb795, 1, none⟩) (Kd.R_far (p := ⟨gb795, 0, none⟩) (Kd.R_types HO_788000.out BK795.out (by decide)) (fun _ hk => hk.2) (.int .i64 ((rd_T45 l0_2 a1_1).f0))) (fun _ hk => hk.2) (.bool ((rd_T45 l0_2 a1_1).f1))) (fun _ hk => hk.1))))⟩; have n1_ : Aside0 (Kd.R (Kd.int .i64) 3 w129 w.heap.size (fun k_ => no_ (.slice Ao92 t778.length co92) k_) (.slice Ao97 t781.length co97) t781) := ⟨(by rw [hw]; exact (ra (Kd.R_mono (Kd.R_far (p := ⟨gb795, 1, none⟩) (Kd.R_far (p := ⟨gb795, 0, none⟩) (Kd.R_types HO_788001.out BK795.out (by decide)) (fun _ hk => hk.2) (.int .i64 ((rd_T45 l0_2 a1_1).f0))) (fun _ hk => hk.2) (.bool ((rd_T45 l0_2 a1_1).f1))) (fun _ hk => hk.1))))⟩; have n2_ : Aside0 (Kd.R k45 45 w129 w.heap.size (fun k_ => k_ ≠ gb795) (.slice Ao98 t784.length co98) t784) := ⟨(by rw [hw]; exact (ra (Kd.R_mono (Kd.R_far (p := ⟨gb795, 1, none⟩) (Kd.R_far (p := ⟨gb795, 0, none⟩) (Kd.R_mono HO_788002.out (fun k_ hk => (⟨hk, hk.2⟩ : _ ∧ k_ ≠ gb795))) (fun _ hk => hk.2) (.int .i64 ((rd_T45 l0_2 a1_1).f0))) (fun _ hk => hk.2) (.bool ((rd_T45 l0_2 a1_1).f1))) (fun _ hk => hk.1.2))))⟩; have n3_ : Aside0 (w129.heap[gb774]? = some (.cells #[.slice A0_0 l0_0.length c0_0, .slice A0_1 l0_1.length c0_1, .slice (some ad794) l0_2.length c0_2] 35 (0, 0))) := ⟨(by rw [hw]; exact (bx BK774))⟩; have n4_ : Aside0 (w129.heap[gb775]? = some (.cells #[.int .i64 a1_0, .int .i64 a1_1] 37 (0, 0))) := ⟨(by rw [hw]; exact (bx BK775))⟩; have n5_ : Aside0 (w129.heap[gb776]? = some (.cells #[.slice none 0 0, .slice none 0 0, .slice none 0 0] 35 (0, 0))) := ⟨(by rw [hw]; exact (bx BK776))⟩; have n6_ : Aside0 (w129.heap[gb787]? = some (.cells #[.slice Ao92 t778.length co92, .slice Ao97 t781.length co97, .slice Ao98 t784.length co98] 35 (0, 0))) := ⟨(by rw [hw]; exact (bx BK787))⟩; have n7_ : Aside0 (w129.heap[gb795]? = some (.cells #[.int .i64 ((rd_T45 l0_2 a1_1).f0), .bool ((rd_T45 l0_2 a1_1).f1)] 45 (0, 0))) := ⟨(by rw [hw]; exact (by (with_reducible repeat (first | refine blk_drewN ?_ _ | refine blk_drew ?_ | refine blk_alloc ?_ _)); refine blk_put (cs := #[.int .i64 ((rd_T45 l0_2 a1_1).f0), .bool false]) ?_ 1 _ rfl; (with_reducible repeat (first | refine blk_drewN ?_ _ | refine blk_drew ?_ | refine blk_alloc ?_ _)); refine blk_put (cs := #[.int .i64 0, .bool false]) ?_ 0 _ rfl; (with_reducible repeat (first | refine blk_drewN ?_ _ | refine blk_drew ?_ | refine blk_alloc ?_ _)); exact BK795.out))⟩; have n8_ : Aside0 (Below w.heap.size w w129) := ⟨(by rw [hw]; exact (hB HB))⟩; clear hw; clear HO_788000; clear HO_788001; clear HO_788002; clear BK774; clear BK775; clear BK776; clear BK787; clear BK795; clear HB; have HO_788000 := n0_; have HO_788001 := n1_; have HO_788002 := n2_; have BK774 := n3_; have BK775 := n4_; have BK776 := n5_; have BK787 := n6_; have BK795 := n7_; have HB := n8_; clear n0_ n1_ n2_ n3_ n4_ n5_ n6_ n7_ n8_; have hnb130 := NB787_776.out; have hnc130 := NB776_787.out; have hcz131_0 : w129.cell? ⟨gb787, 0, none⟩ = some (.slice Ao92 t778.length co92) := bc_ BK787 0; have hcz131_1 : w129.cell? ⟨gb787, 1, none⟩ = some (.slice Ao97 t781.length co97) := bc_ BK787 1; have hcz131_2 : w129.cell? ⟨gb787, 2, none⟩ = some (.slice Ao98 t784.length co98) := bc_ BK787 2; have hfz131_0 := blk_frozen BK787.out 0; have hfz131_1 := blk_frozen BK787.out 1; have hfz131_2 := blk_frozen BK787.out 2; have hcz132_0 : w129.cell? ⟨gb775, 0, none⟩ = some (.int .i64 a1_0) := bc_ BK775 0; have hcz132_1 : w129.cell? ⟨gb775, 1, none⟩ = some (.int .i64 a1_1) := bc_ BK775 1; have hfz132_0 := blk_frozen BK775.out 0; have hfz132_1 := blk_frozen BK775.out 1) | ((with_reducible refine gate_callee (f := 85) rfl ?_); refine goesL_ (some 71) rfl rfl Try.func85 (by kernel_rfl) rfl #[.slice Ao98 t784.length co98, .int .i64 a1_1, .int .i64 (wrap64 (a1_1 + 1))] rfl tm_ ?_; (with_reducible refine (impl_Hello_85.calls (fun k_ => some k_ = (.slice Ao98 t784.length co98 : Value).ownBlock) (.slice Ao98 t784.length co98) t784 a1_1 (wrap64 (a1_1 + 1)) t796 w _ ?side1 ?side2 A107.out).mono ?_); (case side1 => repeat (first | (with_reducible first | exact HB.out | apply below_alloc | apply pw_below_drewN | apply below_drew1 | refine below_set ?_ GE774.out | refine below_set ?_ GE775.out | refine below_set ?_ GE776.out | refine below_set ?_ GE787.out | refine below_set ?_ GE795.out) | exact HB.out)); (case side2 => exact Kd.R_tight rfl HO_788002.out); rintro e w133 ⟨v797, rfl, ho0, hb, hkp⟩; refine ⟨_, rfl, ?_⟩; have HO798 := Aside0.mk (Kd.R_mono (ok' := fun k_ => k_ ≠ gb795) ho0 (fun k_ hk_ => Or.elim hk_ (fun hs_ => fun e_ => (Kd.R_away HO_788002.out (fun _ hk => hk)) (by rw [← e_]; exact hs_)) (fun hn_ => (Kd.freshB (g := gb795) (o := .cells #[.int .i64 ((rd_T45 l0_2 a1_1).f0), .bool ((rd_T45 l0_2 a1_1).f1)] 45 (0, 0)) (ba BK795.out) k_ hn_)))); replace HO_788000 := Aside0.mk (Kd.R_mono (ok' := fun k_ => no_ (.slice Ao97 t781.length co97) k_) (Kd.R_keptB ((Kd.R_apart' HO_788000.out (Kd.R_typed HO_788002.out) (by decide))) hkp (fun k_ hk_ hs_ => (hk_.2) hs_)) (fun k_ hk_ => hk_.1.1)); replace HO_788001 := Aside0.mk (Kd.R_mono (ok' := fun k_ => no_ (.slice Ao92 t778.length co92) k_) (Kd.R_keptB ((Kd.R_apart' HO_788001.out (Kd.R_typed HO_788002.out) (by decide))) hkp (fun k_ hk_ hs_ => (hk_.2) hs_)) (fun k_ hk_ => hk_.1.1)); replace BK774 := Aside0.mk (blk_kept (ba BK774.out) hkp (fun hs_ => (fun e_ => (Kd.R_ne HO_788002.out BK774.out (by decide)) e_) hs_)); replace BK775 := Aside0.mk (blk_kept (ba BK775.out) hkp (fun hs_ => (fun e_ => (Kd.R_ne HO_788002.out BK775.out (by decide)) e_) hs_)); replace BK776 := Aside0.mk (blk_kept (ba BK776.out) hkp (fun hs_ => (fun e_ => (Kd.R_ne HO_788002.out BK776.out (by decide)) e_) hs_)); replace BK787 := Aside0.mk (blk_kept (ba BK787.out) hkp (fun hs_ => (fun e_ => (Kd.R_ne HO_788002.out BK787.out (by decide)) e_) hs_)); replace BK795 := Aside0.mk (blk_kept (ba BK795.out) hkp (fun hs_ => (fun e_ => (Kd.R_away HO_788002.out (fun _ hk => hk)) e_) hs_)); replace HB := Aside0.mk (hb); clear HO_788002; clear hb ho0; obtain ⟨Ao134, co134, eo134⟩ := Kd.R_slice HO798.out; subst eo134; have hcz135_0 : w133.cell? ⟨gb787, 0, none⟩ = some (.slice Ao92 t778.length co92) := bc_ BK787 0; have hcz135_1 : w133.cell? ⟨gb787, 1, none⟩ = some (.slice Ao97 t781.length co97) := bc_ BK787 1; have hcz135_2 : w133.cell? ⟨gb787, 2, none⟩ = some (.slice Ao98 t784.length co98) := bc_ BK787 2; have hfz135_0 := blk_frozen BK787.out 0; have hfz135_1 := blk_frozen BK787.out 1; have hfz135_2 := blk_frozen BK787.out 2; have hcz136_0 : w133.cell? ⟨gb775, 0, none⟩ = some (.int .i64 a1_0) := bc_ BK775 0; have hcz136_1 : w133.cell? ⟨gb775, 1, none⟩ = some (.int .i64 a1_1) := bc_ BK775 1; have hfz136_0 := blk_frozen BK775.out 0; have hfz136_1 := blk_frozen BK775.out 1))
   have n0_ : Aside0 (Kd.R (Kd.int .i64) 3 (w133.setCell ⟨gb787, 2, none⟩ (.slice Ao134 t796.length co134)) w.heap.size (fun k_ => no_ (.slice Ao97 t781.length co97) k_) (.slice Ao92 t778.length co92) t778) := ⟨by (with_reducible repeat (first | apply Kd.R_alloc | apply Kd.R_drewN | apply Kd.R_drew)); exact Kd.R_mono (Kd.R_far (p := ⟨gb787, 2, none⟩) (Kd.R_types HO_788000.out BK787.out (by decide)) (fun _ hk => hk.2) (.slice Ao134 t796.length co134)) (fun _ hk => hk.1)⟩
   have n1_ : Aside0 (Kd.R (Kd.int .i64) 3 (w133.setCell ⟨gb787, 2, none⟩ (.slice Ao134 t796.length co134)) w.heap.size (fun k_ => no_ (.slice Ao92 t778.length co92) k_) (.slice Ao97 t781.length co97) t781) := ⟨by (with_reducible repeat (first | apply Kd.R_alloc | apply Kd.R_drewN | apply Kd.R_drew)); exact Kd.R_mono (Kd.R_far (p := ⟨gb787, 2, none⟩) (Kd.R_types HO_788001.out BK787.out (by decide)) (fun _ hk => hk.2) (.slice Ao134 t796.length co134)) (fun _ hk => hk.1)⟩
   have n2_ : Aside0 (Kd.R k45 45 (w133.setCell ⟨gb787, 2, none⟩ (.slice Ao134 t796.length co134)) w.heap.size (fun k_ => k_ ≠ gb795) (.slice Ao134 t796.length co134) t796) := ⟨by (with_reducible repeat (first | apply Kd.R_alloc | apply Kd.R_drewN | apply Kd.R_drew)); exact Kd.R_mono (Kd.R_far (p := ⟨gb787, 2, none⟩) (Kd.R_types HO798.out BK787.out (by decide)) (fun _ hk => hk.2) (.slice Ao134 t796.length co134)) (fun _ hk => hk.1)⟩
   have n3_ : Aside0 ((w133.setCell ⟨gb787, 2, none⟩ (.slice Ao134 t796.length co134)).heap[gb774]? = some (.cells #[.slice A0_0 l0_0.length c0_0, .slice A0_1 l0_1.length c0_1, .slice (some ad794) l0_2.length c0_2] 35 (0, 0))) := ⟨by (with_reducible repeat (first | refine blk_drewN ?_ _ | refine blk_drew ?_ | refine blk_alloc ?_ _)); refine blk_far ?_ NB774_787.out _; (with_reducible repeat (first | refine blk_drewN ?_ _ | refine blk_drew ?_ | refine blk_alloc ?_ _)); exact BK774.out⟩
   have n4_ : Aside0 ((w133.setCell ⟨gb787, 2, none⟩ (.slice Ao134 t796.length co134)).heap[gb775]? = some (.cells #[.int .i64 a1_0, .int .i64 a1_1] 37 (0, 0))) := ⟨by (with_reducible repeat (first | refine blk_drewN ?_ _ | refine blk_drew ?_ | refine blk_alloc ?_ _)); refine blk_far ?_ NB775_787.out _; (with_reducible repeat (first | refine blk_drewN ?_ _ | refine blk_drew ?_ | refine blk_alloc ?_ _)); exact BK775.out⟩
   have n5_ : Aside0 ((w133.setCell ⟨gb787, 2, none⟩ (.slice Ao134 t796.length co134)).heap[gb776]? = some (.cells #[.slice none 0 0, .slice none 0 0, .slice none 0 0] 35 (0, 0))) := ⟨by (with_reducible repeat (first | refine blk_drewN ?_ _ | refine blk_drew ?_ | refine blk_alloc ?_ _)); refine blk_far ?_ NB776_787.out _; (with_reducible repeat (first | refine blk_drewN ?_ _ | refine blk_drew ?_ | refine blk_alloc ?_ _)); exact BK776.out⟩
   have n6_ : Aside0 ((w133.setCell ⟨gb787, 2, none⟩ (.slice Ao134 t796.length co134)).heap[gb787]? = some (.cells #[.slice Ao92 t778.length co92, .slice Ao97 t781.length co97, .slice Ao134 t796.length co134] 35 (0, 0))) := ⟨by (with_reducible repeat (first | refine blk_drewN ?_ _ | refine blk_drew ?_ | refine blk_alloc ?_ _)); refine blk_put (cs := #[.slice Ao92 t778.length co92, .slice Ao97 t781.length co97, .slice Ao98 t784.length co98]) ?_ 2 _ rfl; (with_reducible repeat (first | refine blk_drewN ?_ _ | refine blk_drew ?_ | refine blk_alloc ?_ _)); exact BK787.out⟩
   have n7_ : Aside0 ((w133.setCell ⟨gb787, 2, none⟩ (.slice Ao134 t796.length co134)).heap[gb795]? = some (.cells #[.int .i64 ((rd_T45 l0_2 a1_1).f0), .bool ((rd_T45 l0_2 a1_1).f1)] 45 (0, 0))) := ⟨by (with_reducible repeat (first | refine blk_drewN ?_ _ | refine blk_drew ?_ | refine blk_alloc ?_ _)); refine blk_far ?_ NB795_787.out _; (with_reducible repeat (first | refine blk_drewN ?_ _ | refine blk_drew ?_ | refine blk_alloc ?_ _)); exact BK795.out⟩
   have n8_ : Aside0 (Below w.heap.size w (w133.setCell ⟨gb787, 2, none⟩ (.slice Ao134 t796.length co134))) := ⟨hB HB⟩
   (try clear HO_788000)
   (try clear HO_788001)
   (try clear HO798)
   (try clear BK774)
   (try clear BK775)
   (try clear BK776)
   (try clear BK787)
   (try clear BK795)
   (try clear HB)
   generalize (w133.setCell ⟨gb787, 2, none⟩ (.slice Ao134 t796.length co134)) = w137 at n0_ n1_ n2_ n3_ n4_ n5_ n6_ n7_ n8_ ⊢
   have HO_788000 := n0_
   have HO_788001 := n1_
   have HO798 := n2_
   have BK774 := n3_
   have BK775 := n4_
   have BK776 := n5_
   have BK787 := n6_
   have BK795 := n7_
   have HB := n8_
   clear n0_ n1_ n2_ n3_ n4_ n5_ n6_ n7_ n8_
   replace HO_788000 := rd_ HO_788000
   replace HO_788001 := rd_ HO_788001
   replace HO798 := rd_ HO798
   replace BK774 := bd_ BK774
   replace BK775 := bd_ BK775
   replace BK776 := bd_ BK776
   replace BK787 := bd_ BK787
   replace BK795 := bd_ BK795
   replace HB := Aside0.mk (below_drew1 HB.out)
   refine start_ (n := 10) (S := fun w' => w'.cell? ⟨gb787, 0, none⟩ = some (.slice Ao92 t778.length co92) ∧ w'.cell? ⟨gb787, 1, none⟩ = some (.slice Ao97 t781.length co97) ∧ w'.cell? ⟨gb787, 2, none⟩ = some (.slice Ao134 t796.length co134) ∧ w'.cell? ⟨gb795, 0, none⟩ = some (.int .i64 ((rd_T45 l0_2 a1_1).f0)) ∧ w'.cell? ⟨gb795, 1, none⟩ = some (.bool ((rd_T45 l0_2 a1_1).f1))) (ds := [9]) (bs 10 0) (by kernel_rfl) rfl rfl ⟨bc_ BK787 0, bc_ BK787 1, bc_ BK787 2, bc_ BK795 0, bc_ BK795 1⟩ (fun hHeld => ?_); refine with_tabW impl_StepPair.tab17 impl_StepPair.bits17 (fun HT_ HW_ => ?_)
   generalize w137.drew = w138 at HO_788000 HO_788001 HO798 BK774 BK775 BK776 BK787 BK795 HB hHeld ⊢
   refine pu_ 0 76 (bs 10 1) HT_ ?_
   refine pu_ 2 78 (bs 10 5) HT_ ?_
   refine pu_ 5 81 (bs 10 37) HT_ ?_
   refine tk_ 1 77 (bs 10 39) HT_ HW_ hHeld ?_
   refine tk_ 3 79 (bs 10 47) HT_ HW_ hHeld ?_
   refine pu_ 4 80 (bs 10 63) HT_ ?_
   refine tk_ 6 82 (bs 10 127) HT_ HW_ hHeld ?_
   refine one_ (i := 7) (N := some 83) (bs 10 255) rfl rfl (one_of HT_.out (by kernel_rfl)) (by decide) (fun K hK => ?_)
   refine goes_ Try.func86 (by kernel_rfl) rfl #[.bool ((rd_T45 l0_2 a1_1).f1)] (by rfl) rfl rfl tm_ ?_
   with_reducible refine (impl_nextState.calls ((rd_T45 l0_2 a1_1).f1) t799 _ A109.out).mono ?_
   rintro e w' ⟨rfl, ⟨nd, rfl⟩⟩
   refine ⟨_, rfl, ?_⟩
   generalize hq_ : World.drewN w138 nd = w138
   replace HO_788000 := Aside0.mk (Kd.R_at hq_ HO_788000.out)
   replace HO_788001 := Aside0.mk (Kd.R_at hq_ HO_788001.out)
   replace HO798 := Aside0.mk (Kd.R_at hq_ HO798.out)
   replace BK774 := Aside0.mk (blk_at hq_ BK774.out)
   replace BK775 := Aside0.mk (blk_at hq_ BK775.out)
   replace BK776 := Aside0.mk (blk_at hq_ BK776.out)
   replace BK787 := Aside0.mk (blk_at hq_ BK787.out)
   replace BK795 := Aside0.mk (blk_at hq_ BK795.out)
   replace HB := Aside0.mk (below_at hq_ HB.out)
   have HQ_ := Aside0.mk hq_
   clear hq_
   have p113 : 0 ≤ ((ji110) : Int) := of_decide_eq_true (by first | (with_reducible assumption) | assumption)
   have q113 : ((ji110) : Int) < ((t778.length : Int) : Int) := of_decide_eq_true (by first | (with_reducible assumption) | assumption)
   obtain ⟨go113, co113, eo113, gb113, gl113, cl113, HG113⟩ := Kd.R_form HO_788000.out (by omega)
   (first | cases eo113 | (injection eo113 with ea_ en_ ec_; (first | subst ea_ | (injection ea_ with ea_; subst ea_)); subst ec_; clear en_))
   have GB113 := Aside0.mk gb113
   have GG113 := Aside0.mk HG113
   clear gb113 gl113 HG113
   obtain ⟨hx113_0, hf113_0⟩ := Kd.R_celln 0 HO_788000.out ((ji110) : Int) p113 q113
   replace p113 := eq_true p113
   replace q113 := eq_true q113
   have HP139 := Kd.R_putn HO_788000.out ((ji110) : Int) t799
   rw [← Ny800.out] at HP139
   have HQ139 := Aside0.mk HP139
   clear HP139
   refine hK.out _ _ ⟨bc_ BK787 0, bc_ BK787 1, bc_ BK787 2, bc_ BK795 0, bc_ BK795 1⟩ (fun hHeld => ?_)
   clear hK K
   refine nm_ 83 ?_
   refine pu_ 8 84 (bs 10 511) HT_ ?_
   refine last_ (i := 9) (N := none) (bs 10 1023) rfl rfl (one_of HT_.out (by kernel_rfl)) (by decide) (fun K hK => ?_)
   refine skip_ (w1 := ?_) (by rfl) rfl ?_ ?_
   rotate_left
   ·go_simp
    rfl
   refine hK.out _ _ ?_
   clear hK K
   refine done_ (done_of HT_.out (by kernel_rfl)) ?_
   have n0_ : Aside0 (Kd.R (Kd.int .i64) 3 (w138.setCell ⟨go113, ((ji110) : Int).toNat, none⟩ (.int .i64 t799)) w.heap.size (fun k_ => no_ (.slice Ao97 t781.length co97) k_) (.slice (some ⟨go113, 0, none⟩) t778.length co92) y800) := ⟨ra HQ139.out⟩
   have n1_ : Aside0 (Kd.R (Kd.int .i64) 3 (w138.setCell ⟨go113, ((ji110) : Int).toNat, none⟩ (.int .i64 t799)) w.heap.size (fun k_ => some k_ ≠ (.slice (some ⟨go113, 0, none⟩) t778.length co92 : Value).ownBlock) (.slice Ao97 t781.length co97) t781) := ⟨by (with_reducible repeat (first | apply Kd.R_alloc | apply Kd.R_drewN | apply Kd.R_drew)); exact Kd.R_mono (Kd.R_far (p := ⟨go113, ((ji110) : Int).toNat, none⟩) (Kd.R_mono HO_788001.out (fun k_ hk => (⟨hk, fun e_ => hk (by rw [e_]; rfl)⟩ : _ ∧ k_ ≠ go113))) (fun _ hk => hk.2) (.int .i64 t799)) (fun _ hk => hk.1)⟩
   have n2_ : Aside0 (Kd.R k45 45 (w138.setCell ⟨go113, ((ji110) : Int).toNat, none⟩ (.int .i64 t799)) w.heap.size (fun k_ => k_ ≠ gb795) (.slice Ao134 t796.length co134) t796) := ⟨by (with_reducible repeat (first | apply Kd.R_alloc | apply Kd.R_drewN | apply Kd.R_drew)); exact Kd.R_mono (Kd.R_far (p := ⟨go113, ((ji110) : Int).toNat, none⟩) (Kd.R_types HO798.out GG113.out (by decide)) (fun _ hk => hk.2) (.int .i64 t799)) (fun _ hk => hk.1)⟩
   have n3_ : Aside0 ((w138.setCell ⟨go113, ((ji110) : Int).toNat, none⟩ (.int .i64 t799)).heap[gb774]? = some (.cells #[.slice A0_0 l0_0.length c0_0, .slice A0_1 l0_1.length c0_1, .slice (some ad794) l0_2.length c0_2] 35 (0, 0))) := ⟨by (with_reducible repeat (first | refine blk_drewN ?_ _ | refine blk_drew ?_ | refine blk_alloc ?_ _)); refine blk_far ?_ (by have h_ := Kd.R_ne HO_788000.out BK774.out (by decide); intro e_; exact h_ (by rw [e_]; rfl)) _; (with_reducible repeat (first | refine blk_drewN ?_ _ | refine blk_drew ?_ | refine blk_alloc ?_ _)); exact BK774.out⟩
   have n4_ : Aside0 ((w138.setCell ⟨go113, ((ji110) : Int).toNat, none⟩ (.int .i64 t799)).heap[gb775]? = some (.cells #[.int .i64 a1_0, .int .i64 a1_1] 37 (0, 0))) := ⟨by (with_reducible repeat (first | refine blk_drewN ?_ _ | refine blk_drew ?_ | refine blk_alloc ?_ _)); refine blk_far ?_ (by have h_ := Kd.R_ne HO_788000.out BK775.out (by decide); intro e_; exact h_ (by rw [e_]; rfl)) _; (with_reducible repeat (first | refine blk_drewN ?_ _ | refine blk_drew ?_ | refine blk_alloc ?_ _)); exact BK775.out⟩
   have n5_ : Aside0 ((w138.setCell ⟨go113, ((ji110) : Int).toNat, none⟩ (.int .i64 t799)).heap[gb776]? = some (.cells #[.slice none 0 0, .slice none 0 0, .slice none 0 0] 35 (0, 0))) := ⟨by (with_reducible repeat (first | refine blk_drewN ?_ _ | refine blk_drew ?_ | refine blk_alloc ?_ _)); refine blk_far ?_ (by have h_ := Kd.R_ne HO_788000.out BK776.out (by decide); intro e_; exact h_ (by rw [e_]; rfl)) _; (with_reducible repeat (first | refine blk_drewN ?_ _ | refine blk_drew ?_ | refine blk_alloc ?_ _)); exact BK776.out⟩
   have n6_ : Aside0 ((w138.setCell ⟨go113, ((ji110) : Int).toNat, none⟩ (.int .i64 t799)).heap[gb787]? = some (.cells #[.slice (some ⟨go113, 0, none⟩) t778.length co92, .slice Ao97 t781.length co97, .slice Ao134 t796.length co134] 35 (0, 0))) := ⟨by (with_reducible repeat (first | refine blk_drewN ?_ _ | refine blk_drew ?_ | refine blk_alloc ?_ _)); refine blk_far ?_ (by have h_ := Kd.R_ne HO_788000.out BK787.out (by decide); intro e_; exact h_ (by rw [e_]; rfl)) _; (with_reducible repeat (first | refine blk_drewN ?_ _ | refine blk_drew ?_ | refine blk_alloc ?_ _)); exact BK787.out⟩
   have n7_ : Aside0 ((w138.setCell ⟨go113, ((ji110) : Int).toNat, none⟩ (.int .i64 t799)).heap[gb795]? = some (.cells #[.int .i64 ((rd_T45 l0_2 a1_1).f0), .bool ((rd_T45 l0_2 a1_1).f1)] 45 (0, 0))) := ⟨by (with_reducible repeat (first | refine blk_drewN ?_ _ | refine blk_drew ?_ | refine blk_alloc ?_ _)); refine blk_far ?_ (by have h_ := Kd.R_ne HO_788000.out BK795.out (by decide); intro e_; exact h_ (by rw [e_]; rfl)) _; (with_reducible repeat (first | refine blk_drewN ?_ _ | refine blk_drew ?_ | refine blk_alloc ?_ _)); exact BK795.out⟩
   have n8_ : Aside0 (Below w.heap.size w (w138.setCell ⟨go113, ((ji110) : Int).toNat, none⟩ (.int .i64 t799))) := ⟨hB HB⟩
   (try clear HO_788000)
   (try clear HO_788001)
   (try clear HO798)
   (try clear BK774)
   (try clear BK775)
   (try clear BK776)
   (try clear BK787)
   (try clear BK795)
   (try clear HB)
   generalize (w138.setCell ⟨go113, ((ji110) : Int).toNat, none⟩ (.int .i64 t799)) = w140 at n0_ n1_ n2_ n3_ n4_ n5_ n6_ n7_ n8_ ⊢
   have HO_788000 := n0_
   have HO_788001 := n1_
   have HO798 := n2_
   have BK774 := n3_
   have BK775 := n4_
   have BK776 := n5_
   have BK787 := n6_
   have BK795 := n7_
   have HB := n8_
   clear n0_ n1_ n2_ n3_ n4_ n5_ n6_ n7_ n8_
   have hcz141_0 : w140.cell? ⟨gb787, 0, none⟩ = some (.slice (some ⟨go113, 0, none⟩) t778.length co92) := bc_ BK787 0
   have hcz141_1 : w140.cell? ⟨gb787, 1, none⟩ = some (.slice Ao97 t781.length co97) := bc_ BK787 1
   have hcz141_2 : w140.cell? ⟨gb787, 2, none⟩ = some (.slice Ao134 t796.length co134) := bc_ BK787 2
   have hfz141_0 := blk_frozen BK787.out 0
   have hfz141_1 := blk_frozen BK787.out 1
   have hfz141_2 := blk_frozen BK787.out 2
   have hcz142_0 : w140.cell? ⟨gb795, 0, none⟩ = some (.int .i64 ((rd_T45 l0_2 a1_1).f0)) := bc_ BK795 0
   have hcz142_1 : w140.cell? ⟨gb795, 1, none⟩ = some (.bool ((rd_T45 l0_2 a1_1).f1)) := bc_ BK795 1
   have hfz142_0 := blk_frozen BK795.out 0
   have hfz142_1 := blk_frozen BK795.out 1
   have p115 : 0 ≤ ((ji110) : Int) := of_decide_eq_true (by first | (with_reducible assumption) | assumption)
   have q115 : ((ji110) : Int) < ((t781.length : Int) : Int) := of_decide_eq_true (by first | (with_reducible assumption) | assumption)
   obtain ⟨go115, co115, eo115, gb115, gl115, cl115, HG115⟩ := Kd.R_form HO_788001.out (by omega)
   (first | cases eo115 | (injection eo115 with ea_ en_ ec_; (first | subst ea_ | (injection ea_ with ea_; subst ea_)); subst ec_; clear en_))
   have GB115 := Aside0.mk gb115
   have GG115 := Aside0.mk HG115
   clear gb115 gl115 HG115
   obtain ⟨hx115_0, hf115_0⟩ := Kd.R_celln 0 HO_788001.out ((ji110) : Int) p115 q115
   replace p115 := eq_true p115
   replace q115 := eq_true q115
   obtain ⟨hy143_, hz143_⟩ := Kd.R_celln 0 HO_788001.out ((ji110) : Int) (of_decide_eq_true (by first | (with_reducible assumption) | assumption)) (of_decide_eq_true (by first | (with_reducible assumption) | assumption))
   have HP143 := Kd.R_putg HO_788001.out ((ji110) : Int) 3
   try go_wp2_with (first | ((with_reducible refine gate_store (t := 3) (p := 90) rfl ?_); refine store_event (t := 3) (p := 90) (v := ?vo_w144) (w1 := (w140.setCell ⟨go115, ((ji110) : Int).toNat, none⟩ (.int .i64 3))) ?hg ?ho ?hn ?hr ?_; (case ho => rfl); (case hg => rfl); (case hn => rfl); (case hr => first | (go_simp; done) | (go_simp; rfl)); intro w144 hw; have hg : w140.grownBy w144 (some go115) := (by rw [hw]; exact HP143.2); have hp_ : Kd.R (Kd.int .i64) 3 w144 w.heap.size (fun k_ => some k_ ≠ (.slice (some ⟨go113, 0, none⟩) t778.length co92 : Value).ownBlock) (.slice (some ⟨go115, 0, none⟩) t781.length co97) y801 := (by rw [hw, Ny801.out]; exact HP143.1); clear HP143; replace HO_788000 := Aside0.mk (Kd.R_after (v := (.slice (some ⟨go115, 0, none⟩) t781.length co97)) (v1 := (.slice (some ⟨go115, 0, none⟩) t781.length co97)) (ok := (fun _ => True)) (rm_ HO_788000 (fun _ hk => ⟨trivial, hk⟩)).out hg (.inl rfl)); replace BK774 := Aside0.mk (blk_grown (g := gb774) (o := .cells #[.slice A0_0 l0_0.length c0_0, .slice A0_1 l0_1.length c0_1, .slice (some ad794) l0_2.length c0_2] 35 (0, 0)) (ba BK774.out) hg (Kd.R_ne HO_788001.out BK774.out (by decide))); replace BK775 := Aside0.mk (blk_grown (g := gb775) (o := .cells #[.int .i64 a1_0, .int .i64 a1_1] 37 (0, 0)) (ba BK775.out) hg (Kd.R_ne HO_788001.out BK775.out (by decide))); replace BK776 := Aside0.mk (blk_grown (g := gb776) (o := .cells #[.slice none 0 0, .slice none 0 0, .slice none 0 0] 35 (0, 0)) (ba BK776.out) hg (Kd.R_ne HO_788001.out BK776.out (by decide))); replace BK787 := Aside0.mk (blk_grown (g := gb787) (o := .cells #[.slice (some ⟨go113, 0, none⟩) t778.length co92, .slice (some ⟨go115, 0, none⟩) t781.length co97, .slice Ao134 t796.length co134] 35 (0, 0)) (ba BK787.out) hg (Kd.R_ne HO_788001.out BK787.out (by decide))); replace BK795 := Aside0.mk (blk_grown (g := gb795) (o := .cells #[.int .i64 ((rd_T45 l0_2 a1_1).f0), .bool ((rd_T45 l0_2 a1_1).f1)] 45 (0, 0)) (ba BK795.out) hg (Kd.R_ne HO_788001.out BK795.out (by decide))); replace HO798 := Aside0.mk (Kd.R_over' (v := (.slice (some ⟨go115, 0, none⟩) t781.length co97)) (ra HO798.out) (Kd.R_typed HO_788001.out) (by decide) hg); replace HO_788001 := Aside0.mk (hp_); replace HB := Aside0.mk ((by rw [hw]; exact below_set (HB.out) GB115.out : Below w.heap.size w w144)); clear hg hw hp_; have hcz145_0 : w144.cell? ⟨gb787, 0, none⟩ = some (.slice (some ⟨go113, 0, none⟩) t778.length co92) := bc_ BK787 0; have hcz145_1 : w144.cell? ⟨gb787, 1, none⟩ = some (.slice (some ⟨go115, 0, none⟩) t781.length co97) := bc_ BK787 1; have hcz145_2 : w144.cell? ⟨gb787, 2, none⟩ = some (.slice Ao134 t796.length co134) := bc_ BK787 2; have hfz145_0 := blk_frozen BK787.out 0; have hfz145_1 := blk_frozen BK787.out 1; have hfz145_2 := blk_frozen BK787.out 2; have hcz146_0 : w144.cell? ⟨gb776, 0, none⟩ = some (.slice none 0 0) := bc_ BK776 0; have hcz146_1 : w144.cell? ⟨gb776, 1, none⟩ = some (.slice none 0 0) := bc_ BK776 1; have hcz146_2 : w144.cell? ⟨gb776, 2, none⟩ = some (.slice none 0 0) := bc_ BK776 2; have hfz146_0 := blk_frozen BK776.out 0; have hfz146_1 := blk_frozen BK776.out 1; have hfz146_2 := blk_frozen BK776.out 2))
   refine bodyPost_ret (results_ct rfl _ _ gb776 35 #[.slice (some ⟨go113, 0, none⟩) t778.length co92, .slice (some ⟨go115, 0, none⟩) t781.length co97, .slice Ao134 t796.length co134] (0, 0) _ rfl (by (with_reducible repeat (first | refine blk_drewN ?_ _ | refine blk_drew ?_ | refine blk_alloc ?_ _)); refine blk_put (cs := #[.slice (some ⟨go113, 0, none⟩) t778.length co92, .slice (some ⟨go115, 0, none⟩) t781.length co97, .slice none 0 0]) ?_ 2 _ rfl; (with_reducible repeat (first | refine blk_drewN ?_ _ | refine blk_drew ?_ | refine blk_alloc ?_ _)); refine blk_put (cs := #[.slice (some ⟨go113, 0, none⟩) t778.length co92, .slice none 0 0, .slice none 0 0]) ?_ 1 _ rfl; (with_reducible repeat (first | refine blk_drewN ?_ _ | refine blk_drew ?_ | refine blk_alloc ?_ _)); refine blk_put (cs := #[.slice none 0 0, .slice none 0 0, .slice none 0 0]) ?_ 0 _ rfl; (with_reducible repeat (first | refine blk_drewN ?_ _ | refine blk_drew ?_ | refine blk_alloc ?_ _)); exact BK776.out) Try.underlying35 rfl (by kernel_rfl)) rfl ?_
   exact ⟨_, _, _, by first | rfl | (simp [errW_none, errW_some] <;> rfl) | (simp only [← hji110]; first | rfl | (simp [errW_none, errW_some] <;> rfl)) | (simp [*, errW_none, errW_some] <;> rfl), by (with_reducible repeat (first | apply Kd.R_alloc | apply Kd.R_drewN | apply Kd.R_drew)); exact Kd.R_mono (fs3_ HO_788000.out BK776.out) (fun _ hk => hk.1.2), by (with_reducible repeat (first | apply Kd.R_alloc | apply Kd.R_drewN | apply Kd.R_drew)); exact Kd.R_mono (fs3_ HO_788001.out BK776.out) (fun _ hk => hk.1), by (with_reducible repeat (first | apply Kd.R_alloc | apply Kd.R_drewN | apply Kd.R_drew)); exact Kd.R_mono (fs3_ HO798.out BK776.out) (fun _ hk => trivial), by repeat (first | (with_reducible first | exact HB.out | apply below_alloc | apply pw_below_drewN | apply below_drew1 | refine below_set ?_ GE774.out | refine below_set ?_ GE775.out | refine below_set ?_ GE776.out | refine below_set ?_ GE787.out | refine below_set ?_ GE795.out) | exact HB.out)⟩

end Go.Proofs.Ytfkjnpgpofcinaa.P
