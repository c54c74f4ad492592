import Derived.Test.YtfkjnpgpofcinaaF0
import Derived.Test.YtfkjnpgpofcinaaF1
namespace Go.Proofs.Ytfkjnpgpofcinaa.P
open Go.RowKit Go.Proofs.YtfkjnpgpofcinaaW.PrintWords Go.Proofs.YtfkjnpgpofcinaaW.PrintLast Go.Proofs.YtfkjnpgpofcinaaW.PrintMore
attribute [local go_sem] max2_int min2_int max_two min_two max_three min_three max_four min_four   -- for this text's walks alone
set_option linter.unusedVariables false
set_option linter.unusedSimpArgs false
attribute [local go_sem high] eqA45 eqA76 eqA83

def spec_NewPair.f (a0 : Int) : Option (List Int × List Int × (List (S45)) × Bool) := (spec_l1In.f a0 0 3).bind fun t477 => (if t477 = true then (if a0 > 0 then (some ((([1, 1] : List Int)), (([a0, a0] : List Int)), ([] : List (S45)), true)) else (some ((([0, 0] : List Int)), (([a0, a0] : List Int)), ([] : List (S45)), true))) else (some (([] : List Int), ([] : List Int), ([] : List (S45)), false)))
set_option maxHeartbeats 8000000 in
set_option maxRecDepth 100000 in
theorem spec_NewPair.calls (a0 : Int) (r1 : List Int) (r2 : List Int) (r3 : List (S45)) (r4 : Bool) (w : World) (h : spec_NewPair.f a0 = some (r1, r2, r3, r4)) :
  Calls Try.prog 30 #[.int .i64 a0] w fun e w' => ∃ v0_ v1_ v2_ : Value, e = .returned (.tuple #[.agg #[v0_, v1_, v2_], .bool r4]) ∧ Kd.R (Kd.int .i64) 3 w' w.heap.size (fun k_ => no_ v1_ k_) v0_ r1 ∧ Kd.R (Kd.int .i64) 3 w' w.heap.size (fun k_ => no_ v0_ k_) v1_ r2 ∧ Kd.R k45 45 w' w.heap.size (fun _ => True) v2_ r3 ∧ Below w.heap.size w w' := by
 have hu35 := Try.underlying35
 have HB := Aside0.mk (Below.refl w.heap.size w)
 have H : ((spec_l1In.f a0 0 3).bind fun t477 => (if t477 = true then (if a0 > 0 then (some ((([1, 1] : List Int)), (([a0, a0] : List Int)), ([] : List (S45)), true)) else (some ((([0, 0] : List Int)), (([a0, a0] : List Int)), ([] : List (S45)), true))) else (some (([] : List Int), ([] : List Int), ([] : List (S45)), false)))) = some (r1, r2, r3, r4) := h
 clear h
 replace H := Option.bind_eq_some_iff.mp H
 obtain ⟨t477, A20, H⟩ := H
 replace H : (if t477 = true then (if a0 > 0 then (some ((([1, 1] : List Int)), (([a0, a0] : List Int)), ([] : List (S45)), true)) else (some ((([0, 0] : List Int)), (([a0, a0] : List Int)), ([] : List (S45)), true))) else (some (([] : List Int), ([] : List Int), ([] : List (S45)), false))) = some (r1, r2, r3, r4) := H
 have A2 := Aside0.mk A20
 clear A20
 by_cases c3 : t477 = true
 rotate_left
 ·replace c3 := Bool.eq_false_iff.mpr c3
  subst c3
  rw [if_neg (show ¬ (false = true) by decide)] at H
  simp only [Option.some.injEq, Prod.mk.injEq] at H
  obtain ⟨rfl, rfl, rfl, rfl⟩ := H
  go_enter Try.func30, Try.ntmps30
  go_wp2_with (first | ((with_reducible refine gate_dst (N := 2) rfl ?_); refine box_event ?hg (N := 2) ?hd (cs := #[.slice none 0 0, .slice none 0 0, .slice none 0 0]) (t := 35) ?hr ?_; (case hd => rfl); (case hg => rfl); (case hr => first | (go_simp; done) | (go_simp; rfl)); intro gb476 hg w21 hbox hb; have BK476 := Aside0.mk (hbox); have GW476 := gw_ hg HB; have GE476 := gw_ hg HB; replace HB := bst_ HB hb; clear hb hbox hg) | ((with_reducible refine gate_callee (f := 90) rfl ?_); refine goesL_ (some 6) rfl rfl Try.func90 (by kernel_rfl) rfl #[.int .i64 a0, .int .i64 0, .int .i64 3] rfl tm_ ?_; (with_reducible refine (spec_l1In.calls a0 0 3 false _ A2.out).mono ?_); rintro e w' ⟨rfl, ⟨nd, rfl⟩⟩; refine ⟨_, rfl, ?_⟩; (try (rw [drewN_self w21]; generalize hq_ : World.drewN w21 _ = w21; have n0_ : Aside0 (w21.heap[gb476]? = some (.cells #[.slice none 0 0, .slice none 0 0, .slice none 0 0] 35 (0, 0))) := ⟨by rw [← hq_]; exact (ba BK476.out)⟩; have n1_ : Aside0 (Below w.heap.size w w21) := ⟨by rw [← hq_]; exact (hB HB)⟩; clear BK476 HB hq_; have BK476 := n0_; have HB := n1_; clear n0_ n1_)); have hcz22_0 : w21.cell? ⟨gb476, 0, none⟩ = some (.slice none 0 0) := bc_ BK476 0; have hcz22_1 : w21.cell? ⟨gb476, 1, none⟩ = some (.slice none 0 0) := bc_ BK476 1; have hcz22_2 : w21.cell? ⟨gb476, 2, none⟩ = some (.slice none 0 0) := bc_ BK476 2; have hfz22_0 := blk_frozen BK476.out 0; have hfz22_1 := blk_frozen BK476.out 1; have hfz22_2 := blk_frozen BK476.out 2))
  refine bodyPost_ret (results_ct rfl _ _ gb476 35 #[.slice none 0 0, .slice none 0 0, .slice none 0 0] (0, 0) _ rfl (by (with_reducible repeat (first | refine blk_drewN ?_ _ | refine blk_drew ?_ | refine blk_alloc ?_ _)); refine blk_put (cs := #[.slice none 0 0, .slice none 0 0, .slice none 0 0]) ?_ 2 _ rfl; (with_reducible repeat (first | refine blk_drewN ?_ _ | refine blk_drew ?_ | refine blk_alloc ?_ _)); refine blk_put (cs := #[.slice none 0 0, .slice none 0 0, .slice none 0 0]) ?_ 1 _ rfl; (with_reducible repeat (first | refine blk_drewN ?_ _ | refine blk_drew ?_ | refine blk_alloc ?_ _)); refine blk_put (cs := #[.slice none 0 0, .slice none 0 0, .slice none 0 0]) ?_ 0 _ rfl; (with_reducible repeat (first | refine blk_drewN ?_ _ | refine blk_drew ?_ | refine blk_alloc ?_ _)); exact BK476.out) Try.underlying35 rfl (by kernel_rfl)) rfl ?_
  exact ⟨_, _, _, by first | rfl | (simp [errW_none, errW_some] <;> rfl) | (simp [*, errW_none, errW_some] <;> rfl), by first | exact Kd.R_nil _ _ _ _ _ | exact Kd.N_nil _ _ _ _ _ | exact Kd.V_nil _ _ _ _ _ | exact Kd.Q_nil _ _ _ _ _ | exact Kd.S_nil _ _ _ _ _, by first | exact Kd.R_nil _ _ _ _ _ | exact Kd.N_nil _ _ _ _ _ | exact Kd.V_nil _ _ _ _ _ | exact Kd.Q_nil _ _ _ _ _ | exact Kd.S_nil _ _ _ _ _, by first | exact Kd.R_nil _ _ _ _ _ | exact Kd.N_nil _ _ _ _ _ | exact Kd.V_nil _ _ _ _ _ | exact Kd.Q_nil _ _ _ _ _ | exact Kd.S_nil _ _ _ _ _, by repeat (first | (with_reducible first | exact HB.out | apply below_alloc | apply pw_below_drewN | apply below_drew1 | refine below_set ?_ GE476.out) | exact HB.out)⟩
 subst c3
 rw [if_pos rfl] at H
 by_cases c4 : a0 > 0
 ·rw [if_pos c4] at H
  have c4b0 : decide (0 < a0) = true := decide_eq_true c4
  clear c4
  obtain ⟨y478, hy478⟩ : ∃ y_ : List Int, y_ = (([1, 1] : List Int)) := ⟨_, rfl⟩
  replace H : (some (y478, (([a0, a0] : List Int)), ([] : List (S45)), true)) = some (r1, r2, r3, r4) := by first | (rw [hy478]; with_reducible exact H) | (have H2_ := (Option.bind_some _ _).symm.trans H; rw [hy478]; with_reducible exact H2_) | (have H2_ := (Option.bind_some _ _).symm.trans H; with_reducible exact H2_) | with_reducible exact H | (rw [hy478]; exact H) | exact H
  have Ny478 := Aside0.mk hy478
  clear hy478
  obtain ⟨y481, hy481⟩ : ∃ y_ : List Int, y_ = (([a0, a0] : List Int)) := ⟨_, rfl⟩
  replace H : (some (y478, y481, ([] : List (S45)), true)) = some (r1, r2, r3, r4) := by first | (rw [hy481]; with_reducible exact H) | (have H2_ := (Option.bind_some _ _).symm.trans H; rw [hy481]; with_reducible exact H2_) | (have H2_ := (Option.bind_some _ _).symm.trans H; with_reducible exact H2_) | with_reducible exact H | (rw [hy481]; exact H) | exact H
  have Ny481 := Aside0.mk hy481
  clear hy481
  simp only [Option.some.injEq, Prod.mk.injEq] at H
  obtain ⟨rfl, rfl, rfl, rfl⟩ := H
  go_enter Try.func30, Try.ntmps30
  go_wp2_with (first | ((with_reducible refine gate_dst (N := 2) rfl ?_); refine box_event ?hg (N := 2) ?hd (cs := #[.slice none 0 0, .slice none 0 0, .slice none 0 0]) (t := 35) ?hr ?_; (case hd => rfl); (case hg => rfl); (case hr => first | (go_simp; done) | (go_simp; rfl)); intro gb476 hg w5 hbox hb; have BK476 := Aside0.mk (hbox); have GW476 := gw_ hg HB; have GE476 := gw_ hg HB; replace HB := bst_ HB hb; clear hb hbox hg) | ((with_reducible refine gate_callee (f := 90) rfl ?_); refine goesL_ (some 6) rfl rfl Try.func90 (by kernel_rfl) rfl #[.int .i64 a0, .int .i64 0, .int .i64 3] rfl tm_ ?_; (with_reducible refine (spec_l1In.calls a0 0 3 true _ A2.out).mono ?_); rintro e w' ⟨rfl, ⟨nd, rfl⟩⟩; refine ⟨_, rfl, ?_⟩; (try (rw [drewN_self w5]; generalize hq_ : World.drewN w5 _ = w5; have n0_ : Aside0 (w5.heap[gb476]? = some (.cells #[.slice none 0 0, .slice none 0 0, .slice none 0 0] 35 (0, 0))) := ⟨by rw [← hq_]; exact (ba BK476.out)⟩; have n1_ : Aside0 (Below w.heap.size w w5) := ⟨by rw [← hq_]; exact (hB HB)⟩; clear BK476 HB hq_; have BK476 := n0_; have HB := n1_; clear n0_ n1_))) | ((with_reducible refine gate_dst (N := 13) rfl ?_); refine Kd.R_lit (Kd.int .i64) _ 3 ?hg (N := 13) ?hd (xs := ([1, 1] : List Int)) (inner := [.int .i64 1, .int .i64 1]) (ok := fun _ => True) (okp := fun _ => True) ?hr ?hp (fun _ hk => hk) trivial (Below.refl _ _) (Nat.le_refl _) (by simp) ?_; (case hd => rfl); (case hg => rfl); (case hr => first | (go_simp; done) | (go_simp; rfl)); (case hp => exact (Reps.one (show Kd.M (Kd.int .i64) _ _ _ 1 [.int .i64 1] from rfl) (Reps.one (show Kd.M (Kd.int .i64) _ _ _ 1 [.int .i64 1] from rfl) (Reps.none _ _)))); intro v479 w6 ho7 hb hg_ hnew_; clear hg_ hnew_; (first | rw [← Ny478.out] at ho7 | (simp only [Int.reduceToNat] at ho7; rw [← Ny478.out] at ho7)); have HO480 := Aside0.mk (Kd.R_lower ho7 (below_size (hB HB))); replace BK476 := bb_ BK476 hb; replace HB := bst_ HB hb; clear hb ho7) | ((with_reducible refine gate_dst (N := 16) rfl ?_); refine Kd.R_lit (Kd.int .i64) _ 3 ?hg (N := 16) ?hd (xs := ([a0, a0] : List Int)) (inner := [.int .i64 a0, .int .i64 a0]) (ok := fun _ => True) (okp := fun _ => True) ?hr ?hp (fun _ hk => hk) trivial (Below.refl _ _) (Nat.le_refl _) (by simp) ?_; (case hd => rfl); (case hg => rfl); (case hr => first | (go_simp; done) | (go_simp; rfl)); (case hp => exact (Reps.one (show Kd.M (Kd.int .i64) _ _ _ a0 [.int .i64 a0] from rfl) (Reps.one (show Kd.M (Kd.int .i64) _ _ _ a0 [.int .i64 a0] from rfl) (Reps.none _ _)))); intro v482 w8 ho9 hb hg_ hnew_; clear hg_ hnew_; (first | rw [← Ny481.out] at ho9 | (simp only [Int.reduceToNat] at ho9; rw [← Ny481.out] at ho9)); have HO483 := Aside0.mk (Kd.R_lower (Kd.R_new' ho9 (rl_ HO480)) (below_size (hB HB))); replace HO480 := re_ HO480 ho9 hb; replace BK476 := bb_ BK476 hb; replace HB := bst_ HB hb; clear hb ho9; obtain ⟨Ao10, co10, eo10⟩ := Kd.R_slice HO483.out; subst eo10; obtain ⟨Ao11, co11, eo11⟩ := Kd.R_slice HO480.out; subst eo11; have hcz12_0 : w8.cell? ⟨gb476, 0, none⟩ = some (.slice none 0 0) := bc_ BK476 0; have hcz12_1 : w8.cell? ⟨gb476, 1, none⟩ = some (.slice none 0 0) := bc_ BK476 1; have hcz12_2 : w8.cell? ⟨gb476, 2, none⟩ = some (.slice none 0 0) := bc_ BK476 2; have hfz12_0 := blk_frozen BK476.out 0; have hfz12_1 := blk_frozen BK476.out 1; have hfz12_2 := blk_frozen BK476.out 2))
  refine bodyPost_ret (results_ct rfl _ _ gb476 35 #[.slice Ao11 y478.length co11, .slice Ao10 y481.length co10, .slice none 0 0] (0, 0) _ rfl (by (with_reducible repeat (first | refine blk_drewN ?_ _ | refine blk_drew ?_ | refine blk_alloc ?_ _)); refine blk_put (cs := #[.slice Ao11 y478.length co11, .slice Ao10 y481.length co10, .slice none 0 0]) ?_ 2 _ rfl; (with_reducible repeat (first | refine blk_drewN ?_ _ | refine blk_drew ?_ | refine blk_alloc ?_ _)); refine blk_put (cs := #[.slice Ao11 y478.length co11, .slice none 0 0, .slice none 0 0]) ?_ 1 _ rfl; (with_reducible repeat (first | refine blk_drewN ?_ _ | refine blk_drew ?_ | refine blk_alloc ?_ _)); refine blk_put (cs := #[.slice none 0 0, .slice none 0 0, .slice none 0 0]) ?_ 0 _ rfl; (with_reducible repeat (first | refine blk_drewN ?_ _ | refine blk_drew ?_ | refine blk_alloc ?_ _)); exact BK476.out) Try.underlying35 rfl (by kernel_rfl)) rfl ?_
  exact ⟨_, _, _, by first | rfl | (simp [errW_none, errW_some] <;> rfl) | (simp [*, errW_none, errW_some] <;> rfl), by (with_reducible repeat (first | apply Kd.R_alloc | apply Kd.R_drewN | apply Kd.R_drew)); exact Kd.R_mono (fs3_ HO480.out BK476.out) (fun _ hk => hk.1.2), by (with_reducible repeat (first | apply Kd.R_alloc | apply Kd.R_drewN | apply Kd.R_drew)); exact Kd.R_mono (fs3_ HO483.out BK476.out) (fun _ hk => hk.1.2), by first | exact Kd.R_nil _ _ _ _ _ | exact Kd.N_nil _ _ _ _ _ | exact Kd.V_nil _ _ _ _ _ | exact Kd.Q_nil _ _ _ _ _ | exact Kd.S_nil _ _ _ _ _, by repeat (first | (with_reducible first | exact HB.out | apply below_alloc | apply pw_below_drewN | apply below_drew1 | refine below_set ?_ GE476.out) | exact HB.out)⟩
 rw [if_neg c4] at H
 have c4b0 : decide (0 < a0) = false := decide_eq_false c4
 clear c4
 obtain ⟨y484, hy484⟩ : ∃ y_ : List Int, y_ = (([0, 0] : List Int)) := ⟨_, rfl⟩
 replace H : (some (y484, (([a0, a0] : List Int)), ([] : List (S45)), true)) = some (r1, r2, r3, r4) := by first | (rw [hy484]; with_reducible exact H) | (have H2_ := (Option.bind_some _ _).symm.trans H; rw [hy484]; with_reducible exact H2_) | (have H2_ := (Option.bind_some _ _).symm.trans H; with_reducible exact H2_) | with_reducible exact H | (rw [hy484]; exact H) | exact H
 have Ny484 := Aside0.mk hy484
 clear hy484
 obtain ⟨y487, hy487⟩ : ∃ y_ : List Int, y_ = (([a0, a0] : List Int)) := ⟨_, rfl⟩
 replace H : (some (y484, y487, ([] : List (S45)), true)) = some (r1, r2, r3, r4) := by first | (rw [hy487]; with_reducible exact H) | (have H2_ := (Option.bind_some _ _).symm.trans H; rw [hy487]; with_reducible exact H2_) | (have H2_ := (Option.bind_some _ _).symm.trans H; with_reducible exact H2_) | with_reducible exact H | (rw [hy487]; exact H) | exact H
 have Ny487 := Aside0.mk hy487
 clear hy487
 simp only [Option.some.injEq, Prod.mk.injEq] at H
 obtain ⟨rfl, rfl, rfl, rfl⟩ := H
 go_enter Try.func30, Try.ntmps30
 go_wp2_with (first | ((with_reducible refine gate_dst (N := 2) rfl ?_); refine box_event ?hg (N := 2) ?hd (cs := #[.slice none 0 0, .slice none 0 0, .slice none 0 0]) (t := 35) ?hr ?_; (case hd => rfl); (case hg => rfl); (case hr => first | (go_simp; done) | (go_simp; rfl)); intro gb476 hg w13 hbox hb; have BK476 := Aside0.mk (hbox); have GW476 := gw_ hg HB; have GE476 := gw_ hg HB; replace HB := bst_ HB hb; clear hb hbox hg) | ((with_reducible refine gate_callee (f := 90) rfl ?_); refine goesL_ (some 6) rfl rfl Try.func90 (by kernel_rfl) rfl #[.int .i64 a0, .int .i64 0, .int .i64 3] rfl tm_ ?_; (with_reducible refine (spec_l1In.calls a0 0 3 true _ A2.out).mono ?_); rintro e w' ⟨rfl, ⟨nd, rfl⟩⟩; refine ⟨_, rfl, ?_⟩; (try (rw [drewN_self w13]; generalize hq_ : World.drewN w13 _ = w13; have n0_ : Aside0 (w13.heap[gb476]? = some (.cells #[.slice none 0 0, .slice none 0 0, .slice none 0 0] 35 (0, 0))) := ⟨by rw [← hq_]; exact (ba BK476.out)⟩; have n1_ : Aside0 (Below w.heap.size w w13) := ⟨by rw [← hq_]; exact (hB HB)⟩; clear BK476 HB hq_; have BK476 := n0_; have HB := n1_; clear n0_ n1_))) | ((with_reducible refine gate_dst (N := 13) rfl ?_); refine Kd.R_lit (Kd.int .i64) _ 3 ?hg (N := 13) ?hd (xs := ([0, 0] : List Int)) (inner := [.int .i64 0, .int .i64 0]) (ok := fun _ => True) (okp := fun _ => True) ?hr ?hp (fun _ hk => hk) trivial (Below.refl _ _) (Nat.le_refl _) (by simp) ?_; (case hd => rfl); (case hg => rfl); (case hr => first | (go_simp; done) | (go_simp; rfl)); (case hp => exact (Reps.one (show Kd.M (Kd.int .i64) _ _ _ 0 [.int .i64 0] from rfl) (Reps.one (show Kd.M (Kd.int .i64) _ _ _ 0 [.int .i64 0] from rfl) (Reps.none _ _)))); intro v485 w14 ho15 hb hg_ hnew_; clear hg_ hnew_; (first | rw [← Ny484.out] at ho15 | (simp only [Int.reduceToNat] at ho15; rw [← Ny484.out] at ho15)); have HO486 := Aside0.mk (Kd.R_lower ho15 (below_size (hB HB))); replace BK476 := bb_ BK476 hb; replace HB := bst_ HB hb; clear hb ho15) | ((with_reducible refine gate_dst (N := 16) rfl ?_); refine Kd.R_lit (Kd.int .i64) _ 3 ?hg (N := 16) ?hd (xs := ([a0, a0] : List Int)) (inner := [.int .i64 a0, .int .i64 a0]) (ok := fun _ => True) (okp := fun _ => True) ?hr ?hp (fun _ hk => hk) trivial (Below.refl _ _) (Nat.le_refl _) (by simp) ?_; (case hd => rfl); (case hg => rfl); (case hr => first | (go_simp; done) | (go_simp; rfl)); (case hp => exact (Reps.one (show Kd.M (Kd.int .i64) _ _ _ a0 [.int .i64 a0] from rfl) (Reps.one (show Kd.M (Kd.int .i64) _ _ _ a0 [.int .i64 a0] from rfl) (Reps.none _ _)))); intro v488 w16 ho17 hb hg_ hnew_; clear hg_ hnew_; (first | rw [← Ny487.out] at ho17 | (simp only [Int.reduceToNat] at ho17; rw [← Ny487.out] at ho17)); have HO489 := Aside0.mk (Kd.R_lower (Kd.R_new' ho17 (rl_ HO486)) (below_size (hB HB))); replace HO486 := re_ HO486 ho17 hb; replace BK476 := bb_ BK476 hb; replace HB := bst_ HB hb; clear hb ho17; obtain ⟨Ao18, co18, eo18⟩ := Kd.R_slice HO489.out; subst eo18; obtain ⟨Ao19, co19, eo19⟩ := Kd.R_slice HO486.out; subst eo19; have hcz20_0 : w16.cell? ⟨gb476, 0, none⟩ = some (.slice none 0 0) := bc_ BK476 0; have hcz20_1 : w16.cell? ⟨gb476, 1, none⟩ = some (.slice none 0 0) := bc_ BK476 1; have hcz20_2 : w16.cell? ⟨gb476, 2, none⟩ = some (.slice none 0 0) := bc_ BK476 2; have hfz20_0 := blk_frozen BK476.out 0; have hfz20_1 := blk_frozen BK476.out 1; have hfz20_2 := blk_frozen BK476.out 2))
 refine bodyPost_ret (results_ct rfl _ _ gb476 35 #[.slice Ao19 y484.length co19, .slice Ao18 y487.length co18, .slice none 0 0] (0, 0) _ rfl (by (with_reducible repeat (first | refine blk_drewN ?_ _ | refine blk_drew ?_ | refine blk_alloc ?_ _)); refine blk_put (cs := #[.slice Ao19 y484.length co19, .slice Ao18 y487.length co18, .slice none 0 0]) ?_ 2 _ rfl; (with_reducible repeat (first | refine blk_drewN ?_ _ | refine blk_drew ?_ | refine blk_alloc ?_ _)); refine blk_put (cs := #[.slice Ao19 y484.length co19, .slice none 0 0, .slice none 0 0]) ?_ 1 _ rfl; (with_reducible repeat (first | refine blk_drewN ?_ _ | refine blk_drew ?_ | refine blk_alloc ?_ _)); refine blk_put (cs := #[.slice none 0 0, .slice none 0 0, .slice none 0 0]) ?_ 0 _ rfl; (with_reducible repeat (first | refine blk_drewN ?_ _ | refine blk_drew ?_ | refine blk_alloc ?_ _)); exact BK476.out) Try.underlying35 rfl (by kernel_rfl)) rfl ?_
 exact ⟨_, _, _, by first | rfl | (simp [errW_none, errW_some] <;> rfl) | (simp [*, errW_none, errW_some] <;> rfl), by (with_reducible repeat (first | apply Kd.R_alloc | apply Kd.R_drewN | apply Kd.R_drew)); exact Kd.R_mono (fs3_ HO486.out BK476.out) (fun _ hk => hk.1.2), by (with_reducible repeat (first | apply Kd.R_alloc | apply Kd.R_drewN | apply Kd.R_drew)); exact Kd.R_mono (fs3_ HO489.out BK476.out) (fun _ hk => hk.1.2), by first | exact Kd.R_nil _ _ _ _ _ | exact Kd.N_nil _ _ _ _ _ | exact Kd.V_nil _ _ _ _ _ | exact Kd.Q_nil _ _ _ _ _ | exact Kd.S_nil _ _ _ _ _, by repeat (first | (with_reducible first | exact HB.out | apply below_alloc | apply pw_below_drewN | apply below_drew1 | refine below_set ?_ GE476.out) | exact HB.out)⟩

def spec_NextState.f (a0 : Int) (a1 : Bool) : Option (Int × Bool) := (spec_l1In.f a0 0 2).bind fun t490 => (if t490 = true then (if a1 = true then (some (2, true)) else (some (1, true))) else (some (0, false)))
set_option maxHeartbeats 8000000 in
set_option maxRecDepth 100000 in
theorem spec_NextState.calls (a0 : Int) (a1 : Bool) (r1 : Int) (r2 : Bool) (w : World) (h : spec_NextState.f a0 a1 = some (r1, r2)) :
  Calls Try.prog 38 #[.int .i64 a0, .bool a1] w fun e w' => e = .returned (.tuple #[.int .i64 r1, .bool r2]) ∧ Drawn0 w w' := by
 have H : ((spec_l1In.f a0 0 2).bind fun t490 => (if t490 = true then (if a1 = true then (some (2, true)) else (some (1, true))) else (some (0, false)))) = some (r1, r2) := h
 clear h
 replace H := Option.bind_eq_some_iff.mp H
 obtain ⟨t490, A30, H⟩ := H
 replace H : (if t490 = true then (if a1 = true then (some (2, true)) else (some (1, true))) else (some (0, false))) = some (r1, r2) := H
 have A3 := Aside0.mk A30
 clear A30
 by_cases c4 : t490 = true
 rotate_left
 ·replace c4 := Bool.eq_false_iff.mpr c4
  subst c4
  rw [if_neg (show ¬ (false = true) by decide)] at H
  simp only [Option.some.injEq, Prod.mk.injEq] at H
  obtain ⟨rfl, rfl⟩ := H
  go_enter Try.func38, Try.ntmps38
  go_wp2_with (first | ((with_reducible refine gate_callee (f := 90) rfl ?_); refine goesL_ (some 7) rfl rfl Try.func90 (by kernel_rfl) rfl #[.int .i64 a0, .int .i64 0, .int .i64 2] rfl tm_ ?_; (with_reducible refine (spec_l1In.calls a0 0 2 false _ A3.out).mono ?_); rintro e w' ⟨rfl, ⟨nd, rfl⟩⟩; refine ⟨_, rfl, ?_⟩))
  go_ret2
  exact ⟨by first | rfl | (simp; done) | (simp [*]; done), by repeat (first | exact Drawn0.refl _ | apply Drawn0.step)⟩
 subst c4
 rw [if_pos rfl] at H
 by_cases c5 : a1 = true
 ·subst c5
  rw [if_pos rfl] at H
  simp only [Option.some.injEq, Prod.mk.injEq] at H
  obtain ⟨rfl, rfl⟩ := H
  go_enter Try.func38, Try.ntmps38
  go_wp2_with (first | ((with_reducible refine gate_callee (f := 90) rfl ?_); refine goesL_ (some 7) rfl rfl Try.func90 (by kernel_rfl) rfl #[.int .i64 a0, .int .i64 0, .int .i64 2] rfl tm_ ?_; (with_reducible refine (spec_l1In.calls a0 0 2 true _ A3.out).mono ?_); rintro e w' ⟨rfl, ⟨nd, rfl⟩⟩; refine ⟨_, rfl, ?_⟩))
  go_ret2
  exact ⟨by first | rfl | (simp; done) | (simp [*]; done), by repeat (first | exact Drawn0.refl _ | apply Drawn0.step)⟩
 replace c5 := Bool.eq_false_iff.mpr c5
 subst c5
 rw [if_neg (show ¬ (false = true) by decide)] at H
 simp only [Option.some.injEq, Prod.mk.injEq] at H
 obtain ⟨rfl, rfl⟩ := H
 go_enter Try.func38, Try.ntmps38
 go_wp2_with (first | ((with_reducible refine gate_callee (f := 90) rfl ?_); refine goesL_ (some 7) rfl rfl Try.func90 (by kernel_rfl) rfl #[.int .i64 a0, .int .i64 0, .int .i64 2] rfl tm_ ?_; (with_reducible refine (spec_l1In.calls a0 0 2 true _ A3.out).mono ?_); rintro e w' ⟨rfl, ⟨nd, rfl⟩⟩; refine ⟨_, rfl, ?_⟩))
 go_ret2
 exact ⟨by first | rfl | (simp; done) | (simp [*]; done), by repeat (first | exact Drawn0.refl _ | apply Drawn0.step)⟩

def spec_l3Side.f (a0 : Int) : Option (Bool) := (spec_l1In.f a0 0 1).bind fun t491 => (some t491)
set_option maxHeartbeats 8000000 in
set_option maxRecDepth 100000 in
theorem spec_l3Side.calls (a0 : Int) (r : Bool) (w : World) (h : spec_l3Side.f a0 = some r) :
  Calls Try.prog 91 #[.int .i64 a0] w fun e w' => e = .returned (.bool r) ∧ Drawn0 w w' := by
 have H : ((spec_l1In.f a0 0 1).bind fun t491 => (some t491)) = some r := h
 clear h
 replace H := Option.bind_eq_some_iff.mp H
 obtain ⟨t491, A20, H⟩ := H
 replace H : (some t491) = some r := H
 have A2 := Aside0.mk A20
 clear A20
 obtain rfl := Option.some.inj H
 go_enter Try.func91, Try.ntmps91
 go_wp2_with (first | ((with_reducible refine gate_callee (f := 90) rfl ?_); refine goesL_ (some 4) rfl rfl Try.func90 (by kernel_rfl) rfl #[.int .i64 a0, .int .i64 0, .int .i64 1] rfl tm_ ?_; (with_reducible refine (spec_l1In.calls a0 0 1 t491 _ A2.out).mono ?_); rintro e w' ⟨rfl, ⟨nd, rfl⟩⟩; refine ⟨_, rfl, ?_⟩))
 go_ret
 exact ⟨by first | rfl | (simp; done) | (simp [*]; done), by repeat (first | exact Drawn0.refl _ | apply Drawn0.step)⟩

def spec_l3Tick.l0 : Nat → Int → Int → List Int → List Int → List (S45) → Option (List Int × List Int × (List (S45)))
 | 0, _, _, _, _, _ => none
 | k + 1, x6, x7, x493000, x493001, x493002 => if x7 < x6 then (if 0 ≤ x7 then (if x7 < (x493000.length : Int) then (if (rd x493000 x7) = 0 then (spec_l3Tick.l0 k x6 (wrap64 (x7 + 1)) x493000 x493001 x493002) else (if x7 < (x493001.length : Int) then ((some (x493001.set (x7 : Int).toNat (wrap64 ((rd x493001 x7) - 1)) : List Int)).bind fun y496 => (if (rd y496 x7) = 0 then (spec_l3Tick.l0 k x6 (wrap64 (x7 + 1)) (x493000.set (x7 : Int).toNat 0) y496 x493002) else (spec_l3Tick.l0 k x6 (wrap64 (x7 + 1)) x493000 y496 x493002))) else (none))) else (none)) else (none)) else (some (x493000, x493001, x493002))
def spec_l3Tick.f (k : Nat) (l0_0 : List Int) (l0_1 : List Int) (l0_2 : List (S45)) : Option (List Int × List Int × (List (S45))) := spec_l3Tick.l0 k (l0_0.length : Int) 0 l0_0 l0_1 l0_2
theorem spec_l3Tick.mono_l : ∀ k, (∀ y0 y1 y2 y3 y4, LeO (spec_l3Tick.l0 k y0 y1 y2 y3 y4) (spec_l3Tick.l0 (k + 1) y0 y1 y2 y3 y4))
 | 0 => fun _ _ _ _ _ r h => by simp [spec_l3Tick.l0] at h
 | k + 1 => by
  have ih0 := spec_l3Tick.mono_l k
  ·intro y0 y1 y2 y3 y4
   unfold spec_l3Tick.l0
   repeat' first
   | (with_reducible exact ih0 _ _ _ _ _)
   | (with_reducible exact LeO.refl _)
   | (with_reducible exact LeO.none _)
   | (with_reducible refine LeO.ite ?_ ?_)
   | (with_reducible refine LeO.bind ?_ (fun _ => ?_))
theorem spec_l3Tick.mono : ∀ a0 a1 a2 k, LeO (spec_l3Tick.f k a0 a1 a2) (spec_l3Tick.f (k + 1) a0 a1 a2) := by
 intro a0 a1 a2 k
 have ih0 := spec_l3Tick.mono_l k
 unfold spec_l3Tick.f
 repeat' first
   | (with_reducible exact ih0 _ _ _ _ _)
   | (with_reducible exact LeO.refl _)
   | (with_reducible exact LeO.none _)
   | (with_reducible refine LeO.ite ?_ ?_)
   | (with_reducible refine LeO.bind ?_ (fun _ => ?_))
set_option maxHeartbeats 8000000 in
set_option maxRecDepth 100000 in
theorem spec_l3Tick.calls (k : Nat) (P0_0_ : Nat → Prop) (u9000_ : Value) (l0_0 : List Int) (P0_1_ : Nat → Prop) (u9001_ : Value) (l0_1 : List Int) (P0_2_ : Nat → Prop) (u9002_ : Value) (l0_2 : List (S45)) (r1 : List Int) (r2 : List Int) (r3 : List (S45)) (w0 w : World) (hB : Below w0.heap.size w0 w) (ho0_0 : Kd.R (Kd.int .i64) 3 w w0.heap.size P0_0_ u9000_ l0_0) (hp0_0_0_1 : ∀ k_, P0_0_ k_ → ¬ P0_1_ k_) (ho0_1 : Kd.R (Kd.int .i64) 3 w w0.heap.size P0_1_ u9001_ l0_1) (hp0_1_0_0 : ∀ k_, P0_1_ k_ → ¬ P0_0_ k_) (ho0_2 : Kd.R k45 45 w w0.heap.size P0_2_ u9002_ l0_2) (h : spec_l3Tick.f k l0_0 l0_1 l0_2 = some (r1, r2, r3)) :
  Calls Try.prog 131 #[.agg #[u9000_, u9001_, u9002_]] w fun e w' => ∃ v0_ v1_ v2_ : Value, e = .returned (.agg #[v0_, v1_, v2_]) ∧ Kd.R (Kd.int .i64) 3 w' w0.heap.size (fun k_ => ((P0_0_ k_ ∨ P0_1_ k_ ∨ P0_2_ k_) ∨ w.heap.size ≤ k_) ∧ no_ v1_ k_) v0_ r1 ∧ Kd.R (Kd.int .i64) 3 w' w0.heap.size (fun k_ => ((P0_0_ k_ ∨ P0_1_ k_ ∨ P0_2_ k_) ∨ w.heap.size ≤ k_) ∧ no_ v0_ k_) v1_ r2 ∧ Kd.R k45 45 w' w0.heap.size (fun k_ => ((P0_0_ k_ ∨ P0_1_ k_ ∨ P0_2_ k_) ∨ w.heap.size ≤ k_)) v2_ r3 ∧ Below w0.heap.size w0 w' ∧ Kept w w' (fun k_ => P0_0_ k_ ∨ P0_1_ k_ ∨ P0_2_ k_) := by
 have hu35 := Try.underlying35
 have HO0_0 := Aside0.mk (show Kd.R (Kd.int .i64) 3 w w0.heap.size (fun k_ => ((P0_0_ k_ ∨ P0_1_ k_ ∨ P0_2_ k_) ∨ w.heap.size ≤ k_) ∧ some k_ ≠ (u9001_ : Value).ownBlock) u9000_ l0_0 from Kd.R_mono ho0_0 (fun k_ hk => ⟨(.inl (.inl hk)), fun e_ => hp0_0_0_1 k_ hk (ho0_1.1 k_ e_.symm)⟩))
 have HO0_1 := Aside0.mk (show Kd.R (Kd.int .i64) 3 w w0.heap.size (fun k_ => ((P0_0_ k_ ∨ P0_1_ k_ ∨ P0_2_ k_) ∨ w.heap.size ≤ k_) ∧ some k_ ≠ (u9000_ : Value).ownBlock) u9001_ l0_1 from Kd.R_mono ho0_1 (fun k_ hk => ⟨(.inl (.inr (.inl hk))), fun e_ => hp0_1_0_0 k_ hk (ho0_0.1 k_ e_.symm)⟩))
 have HO0_2 := Aside0.mk (show Kd.R k45 45 w w0.heap.size (fun k_ => ((P0_0_ k_ ∨ P0_1_ k_ ∨ P0_2_ k_) ∨ w.heap.size ≤ k_)) u9002_ l0_2 from Kd.R_mono ho0_2 (fun k_ hk => (.inl (.inr (.inr hk)))))
 have HK := Aside0.mk (Kept.refl w (fun k_ => P0_0_ k_ ∨ P0_1_ k_ ∨ P0_2_ k_))
 have HW0 := Aside0.mk hB.size
 have HB := Aside0.mk hB
 clear hB
 have H : (spec_l3Tick.l0 k (l0_0.length : Int) 0 l0_0 l0_1 l0_2) = some (r1, r2, r3) := h
 clear h
 have H' := Aside0.mk H
 clear H
 obtain ⟨Ao2, co2, eo2⟩ := Kd.R_slice HO0_0.out
 subst eo2
 obtain ⟨Ao3, co3, eo3⟩ := Kd.R_slice HO0_1.out
 subst eo3
 obtain ⟨Ao4, co4, eo4⟩ := Kd.R_slice HO0_2.out
 subst eo4
 go_enter Try.func131, Try.ntmps131
 go_wp2_with (first | ((with_reducible refine gate_dst (N := 1) rfl ?_); refine box_event ?hg (N := 1) ?hd (cs := #[.slice Ao2 l0_0.length co2, .slice Ao3 l0_1.length co3, .slice Ao4 l0_2.length co4]) (t := 35) ?hr ?_; (case hd => rfl); (case hg => rfl); (case hr => first | (go_simp; done) | (go_simp; rfl)); intro gb492 hg w5 hbox hb; have BK492 := Aside0.mk (hbox); have GW492 := Aside0.mk ((by rw [hg]; exact (by first | exact HK.out.1 | exact (show Kept w _ (fun k_ => P0_0_ k_ ∨ P0_1_ k_ ∨ P0_2_ k_) from by repeat (first | (with_reducible first | exact HK.out | apply Kept.alloc | apply Kept.drewN | apply Kept.drew) | exact HK.out)).1) : w.heap.size ≤ gb492)); have GE492 := gw_ hg HB; replace HO0_0 := rb_ HO0_0 hb; replace HO0_1 := rb_ HO0_1 hb; replace HO0_2 := rb_ HO0_2 hb; replace HK := Aside0.mk (Kept.below (S := (fun k_ => P0_0_ k_ ∨ P0_1_ k_ ∨ P0_2_ k_)) (by repeat (first | (with_reducible first | exact HK.out | apply Kept.alloc | apply Kept.drewN | apply Kept.drew) | exact HK.out)) hb); replace HB := bst_ HB hb; clear hb hbox hg) | ((with_reducible refine gate_dst (N := 2) rfl ?_); refine box_event ?hg (N := 2) ?hd (cs := #[.slice none 0 0, .slice none 0 0, .slice none 0 0]) (t := 35) ?hr ?_; (case hd => rfl); (case hg => rfl); (case hr => first | (go_simp; done) | (go_simp; rfl)); intro gb493 hg w6 hbox hb; have BK493 := Aside0.mk (hbox); have GW493 := Aside0.mk ((by rw [hg]; exact (by first | exact HK.out.1 | exact (show Kept w _ (fun k_ => P0_0_ k_ ∨ P0_1_ k_ ∨ P0_2_ k_) from by repeat (first | (with_reducible first | exact HK.out | apply Kept.alloc | apply Kept.drewN | apply Kept.drew | refine Kept.setCell ?_ (.inr GW492.out) _) | exact HK.out)).1) : w.heap.size ≤ gb493)); have GE493 := gw_ hg HB; have NB492_493 := nl_ hg BK492; have NB493_492 := ng_ hg BK492; replace HO0_0 := rb_ HO0_0 hb; replace HO0_1 := rb_ HO0_1 hb; replace HO0_2 := rb_ HO0_2 hb; replace BK492 := bb_ BK492 hb; replace HK := Aside0.mk (Kept.below (S := (fun k_ => P0_0_ k_ ∨ P0_1_ k_ ∨ P0_2_ k_)) (by repeat (first | (with_reducible first | exact HK.out | apply Kept.alloc | apply Kept.drewN | apply Kept.drew | refine Kept.setCell ?_ (.inr GW492.out) _) | exact HK.out)) hb); replace HB := bst_ HB hb; clear hb hbox hg; have hnb7 := NB492_493.out; have hnc7 := NB493_492.out; have hcz8_0 : w6.cell? ⟨gb492, 0, none⟩ = some (.slice Ao2 l0_0.length co2) := bc_ BK492 0; have hcz8_1 : w6.cell? ⟨gb492, 1, none⟩ = some (.slice Ao3 l0_1.length co3) := bc_ BK492 1; have hcz8_2 : w6.cell? ⟨gb492, 2, none⟩ = some (.slice Ao4 l0_2.length co4) := bc_ BK492 2; have hfz8_0 := blk_frozen BK492.out 0; have hfz8_1 := blk_frozen BK492.out 1; have hfz8_2 := blk_frozen BK492.out 2))
 go_loopg [7] k (fun kq v7 w' => ∃ (x7_1 : Int) (x493000_1 : List Int) (x493001_1 : List Int) (u493000 : Value) (u493001 : Value), v7 = .int .i64 x7_1 ∧ Aside0 (spec_l3Tick.l0 kq (l0_0.length : Int) x7_1 x493000_1 x493001_1 l0_2 = some (r1, r2, r3)) ∧ Aside0 (kq ≤ k) ∧ Aside0 (Kd.R (Kd.int .i64) 3 w' w0.heap.size (fun k_ => ((P0_0_ k_ ∨ P0_1_ k_ ∨ P0_2_ k_) ∨ w.heap.size ≤ k_) ∧ some k_ ≠ (u493001 : Value).ownBlock) u493000 x493000_1) ∧ Aside0 (Kd.R (Kd.int .i64) 3 w' w0.heap.size (fun k_ => ((P0_0_ k_ ∨ P0_1_ k_ ∨ P0_2_ k_) ∨ w.heap.size ≤ k_) ∧ some k_ ≠ (u493000 : Value).ownBlock) u493001 x493001_1) ∧ Aside0 (Kd.R k45 45 w' w0.heap.size (fun k_ => ((P0_0_ k_ ∨ P0_1_ k_ ∨ P0_2_ k_) ∨ w.heap.size ≤ k_)) (.slice Ao4 l0_2.length co4) l0_2) ∧ Aside0 (w'.heap[gb492]? = some (.cells #[u493000, u493001, (.slice Ao4 l0_2.length co4)] 35 (0, 0))) ∧ Aside0 (w'.heap[gb493]? = some (.cells #[(.slice none 0 0), (.slice none 0 0), (.slice none 0 0)] 35 (0, 0))) ∧ Aside0 (Kept w w' (fun k_ => P0_0_ k_ ∨ P0_1_ k_ ∨ P0_2_ k_)) ∧ Aside0 (Below w0.heap.size w0 w'))
 case atStart => exact ⟨(0), (l0_0), (l0_1), (.slice Ao2 l0_0.length co2), (.slice Ao3 l0_1.length co3), (by first | rfl | (simp; done) | (simp [*]; done)), H', ⟨Nat.le_refl _⟩, ⟨ra HO0_0.out⟩, ⟨ra HO0_1.out⟩, ⟨ra HO0_2.out⟩, ⟨by (with_reducible repeat (first | refine blk_drewN ?_ _ | refine blk_drew ?_ | refine blk_alloc ?_ _)); exact BK492.out⟩, ⟨by (with_reducible repeat (first | refine blk_drewN ?_ _ | refine blk_drew ?_ | refine blk_alloc ?_ _)); exact BK493.out⟩, ⟨by repeat (first | (with_reducible first | exact HK.out | apply Kept.alloc | apply Kept.drewN | apply Kept.drew | refine Kept.setCell ?_ (.inr GW492.out) _ | refine Kept.setCell ?_ (.inr GW493.out) _) | exact HK.out)⟩, ⟨hB HB⟩⟩
 case round =>
  clear H'
  try clear hcz8_0
  try clear hcz8_1
  try clear hcz8_2
  try clear hfz8_0
  try clear hfz8_1
  try clear hfz8_2
  obtain ⟨x7_1, x493000_1, x493001_1, u493000, u493001, rfl, HA, HK1, HO_493000, HO_493001, HO_493002, BK492, BK493, HK, HB⟩ := hrel
  cases gk with
  | zero => exact absurd HA.out (by simp [spec_l3Tick.l0])
  | succ k1 =>
   have H := HA.out
   clear HA
   simp only [spec_l3Tick.l0] at H
   by_cases c9 : x7_1 < (l0_0.length : Int)
   rotate_left
   ·rw [if_neg c9] at H
    have c9b0 : decide (x7_1 < (l0_0.length : Int)) = false := decide_eq_false c9
    clear c9
    simp only [Option.some.injEq, Prod.mk.injEq] at H
    obtain ⟨rfl, rfl, rfl⟩ := H
    have hnb36 := NB492_493.out
    have hnc36 := NB493_492.out
    have hcz37_0 : wr.cell? ⟨gb492, 0, none⟩ = some (u493000) := bc_ BK492 0
    have hcz37_1 : wr.cell? ⟨gb492, 1, none⟩ = some (u493001) := bc_ BK492 1
    have hcz37_2 : wr.cell? ⟨gb492, 2, none⟩ = some (.slice Ao4 l0_2.length co4) := bc_ BK492 2
    have hfz37_0 := blk_frozen BK492.out 0
    have hfz37_1 := blk_frozen BK492.out 1
    have hfz37_2 := blk_frozen BK492.out 2
    obtain ⟨Ao38, co38, eo38⟩ := Kd.R_slice HO_493000.out
    subst eo38
    have hcz39_0 : wr.cell? ⟨gb493, 0, none⟩ = some (.slice none 0 0) := bc_ BK493 0
    have hcz39_1 : wr.cell? ⟨gb493, 1, none⟩ = some (.slice none 0 0) := bc_ BK493 1
    have hcz39_2 : wr.cell? ⟨gb493, 2, none⟩ = some (.slice none 0 0) := bc_ BK493 2
    have hfz39_0 := blk_frozen BK493.out 0
    have hfz39_1 := blk_frozen BK493.out 1
    have hfz39_2 := blk_frozen BK493.out 2
    obtain ⟨Ao40, co40, eo40⟩ := Kd.R_slice HO_493001.out
    subst eo40
    go_wp2
    refine bodyPost_ret (results_cell_row rfl _ _ gb493 35 #[.slice Ao38 x493000_1.length co38, .slice Ao40 x493001_1.length co40, .slice Ao4 l0_2.length co4] (0, 0) _ rfl (by (with_reducible repeat (first | refine blk_drewN ?_ _ | refine blk_drew ?_ | refine blk_alloc ?_ _)); refine blk_put (cs := #[.slice Ao38 x493000_1.length co38, .slice Ao40 x493001_1.length co40, .slice none 0 0]) ?_ 2 _ rfl; (with_reducible repeat (first | refine blk_drewN ?_ _ | refine blk_drew ?_ | refine blk_alloc ?_ _)); refine blk_put (cs := #[.slice Ao38 x493000_1.length co38, .slice none 0 0, .slice none 0 0]) ?_ 1 _ rfl; (with_reducible repeat (first | refine blk_drewN ?_ _ | refine blk_drew ?_ | refine blk_alloc ?_ _)); refine blk_put (cs := #[.slice none 0 0, .slice none 0 0, .slice none 0 0]) ?_ 0 _ rfl; (with_reducible repeat (first | refine blk_drewN ?_ _ | refine blk_drew ?_ | refine blk_alloc ?_ _)); exact BK493.out) Try.underlying35 rfl (by kernel_rfl)) rfl ?_
    exact ⟨_, _, _, by first | rfl | (simp [errW_none, errW_some] <;> rfl) | (simp [*, errW_none, errW_some] <;> rfl), by (with_reducible repeat (first | apply Kd.R_alloc | apply Kd.R_drewN | apply Kd.R_drew)); exact Kd.R_mono (fs3_ HO_493000.out BK493.out) (fun _ hk => hk.1), by (with_reducible repeat (first | apply Kd.R_alloc | apply Kd.R_drewN | apply Kd.R_drew)); exact Kd.R_mono (fs3_ HO_493001.out BK493.out) (fun _ hk => hk.1), by (with_reducible repeat (first | apply Kd.R_alloc | apply Kd.R_drewN | apply Kd.R_drew)); exact Kd.R_mono (fs3_ HO_493002.out BK493.out) (fun _ hk => hk.1), by repeat (first | (with_reducible first | exact HB.out | apply below_alloc | apply pw_below_drewN | apply below_drew1 | refine below_set ?_ GE492.out | refine below_set ?_ GE493.out) | exact HB.out), by repeat (first | (with_reducible first | exact HK.out | apply Kept.alloc | apply Kept.drewN | apply Kept.drew | refine Kept.setCell ?_ (.inr GW492.out) _ | refine Kept.setCell ?_ (.inr GW493.out) _) | exact HK.out)⟩
   rw [if_pos c9] at H
   have c9b0 : decide (x7_1 < (l0_0.length : Int)) = true := decide_eq_true c9
   clear c9
   by_cases c10 : 0 ≤ x7_1
   rotate_left
   ·rw [if_neg c10] at H
    exact absurd H (by simp)
   rw [if_pos c10] at H
   have c10b0 : decide (0 ≤ x7_1) = true := decide_eq_true c10
   clear c10
   by_cases c11 : x7_1 < (x493000_1.length : Int)
   rotate_left
   ·rw [if_neg c11] at H
    exact absurd H (by simp)
   rw [if_pos c11] at H
   have c11b0 : decide (x7_1 < (x493000_1.length : Int)) = true := decide_eq_true c11
   clear c11
   by_cases c12 : (rd x493000_1 x7_1) = 0
   ·rw [if_pos c12] at H
    have c12b0 : ((rd x493000_1 x7_1) == 0) = true := beq_iff_eq.mpr c12
    have c12b1 : ((rd x493000_1 x7_1) != 0) = false := bne_eq_false_iff_eq.mpr c12
    clear c12
    have H' := Aside0.mk H
    clear H
    have hnb13 := NB492_493.out
    have hnc13 := NB493_492.out
    have hcz14_0 : wr.cell? ⟨gb492, 0, none⟩ = some (u493000) := bc_ BK492 0
    have hcz14_1 : wr.cell? ⟨gb492, 1, none⟩ = some (u493001) := bc_ BK492 1
    have hcz14_2 : wr.cell? ⟨gb492, 2, none⟩ = some (.slice Ao4 l0_2.length co4) := bc_ BK492 2
    have hfz14_0 := blk_frozen BK492.out 0
    have hfz14_1 := blk_frozen BK492.out 1
    have hfz14_2 := blk_frozen BK492.out 2
    obtain ⟨Ao15, co15, eo15⟩ := Kd.R_slice HO_493000.out
    subst eo15
    have p494 : 0 ≤ (x7_1 : Int) := of_decide_eq_true (by first | (with_reducible assumption) | assumption)
    have q494 : x7_1 < (x493000_1.length : Int) := of_decide_eq_true (by first | (with_reducible assumption) | assumption)
    obtain ⟨ad494, e494, hx494_0⟩ := Kd.at_int (Kd.R_reads' HO_493000.out).2.2 x7_1 p494 q494
    cases e494
    replace p494 := eq_true p494
    replace q494 := eq_true q494
    go_wp2
    go_roundg k1
    case measure => have := HK1.out; omega
    case rel => exact ⟨(wrap64 (x7_1 + 1)), (x493000_1), (x493001_1), (.slice (some ad494) x493000_1.length co15), (u493001), (by first | rfl | (simp; done) | (simp [*]; done)), H', ⟨by have := HK1.out; omega⟩, ⟨ra HO_493000.out⟩, ⟨ra HO_493001.out⟩, ⟨ra HO_493002.out⟩, ⟨by (with_reducible repeat (first | refine blk_drewN ?_ _ | refine blk_drew ?_ | refine blk_alloc ?_ _)); exact BK492.out⟩, ⟨by (with_reducible repeat (first | refine blk_drewN ?_ _ | refine blk_drew ?_ | refine blk_alloc ?_ _)); exact BK493.out⟩, ⟨by repeat (first | (with_reducible first | exact HK.out | apply Kept.alloc | apply Kept.drewN | apply Kept.drew | refine Kept.setCell ?_ (.inr GW492.out) _ | refine Kept.setCell ?_ (.inr GW493.out) _) | exact HK.out)⟩, ⟨hB HB⟩⟩
   rw [if_neg c12] at H
   have c12b0 : ((rd x493000_1 x7_1) == 0) = false := beq_eq_false_iff_ne.mpr c12
   have c12b1 : ((rd x493000_1 x7_1) != 0) = true := bne_iff_ne.mpr c12
   by_cases c16 : x7_1 < (x493001_1.length : Int)
   rotate_left
   ·rw [if_neg c16] at H
    exact absurd H (by simp)
   rw [if_pos c16] at H
   have c16b0 : decide (x7_1 < (x493001_1.length : Int)) = true := decide_eq_true c16
   clear c16
   obtain ⟨y496, hy496⟩ : ∃ y_ : List Int, y_ = (x493001_1.set (x7_1 : Int).toNat (wrap64 ((rd x493001_1 x7_1) - 1))) := ⟨_, rfl⟩
   replace H : (if (rd y496 x7_1) = 0 then (spec_l3Tick.l0 k1 (l0_0.length : Int) (wrap64 (x7_1 + 1)) (x493000_1.set (x7_1 : Int).toNat 0) y496 l0_2) else (spec_l3Tick.l0 k1 (l0_0.length : Int) (wrap64 (x7_1 + 1)) x493000_1 y496 l0_2)) = some (r1, r2, r3) := by first | (rw [hy496]; with_reducible exact H) | (have H2_ := (Option.bind_some _ _).symm.trans H; rw [hy496]; with_reducible exact H2_) | (have H2_ := (Option.bind_some _ _).symm.trans H; with_reducible exact H2_) | with_reducible exact H | (rw [hy496]; exact H) | exact H
   have Ny496 := Aside0.mk hy496
   clear hy496
   by_cases c18 : (rd y496 x7_1) = 0
   rotate_left
   ·rw [if_neg c18] at H
    have c18b0 : ((rd y496 x7_1) == 0) = false := beq_eq_false_iff_ne.mpr c18
    have c18b1 : ((rd y496 x7_1) != 0) = true := bne_iff_ne.mpr c18
    have H' := Aside0.mk H
    clear H
    have hnb29 := NB492_493.out
    have hnc29 := NB493_492.out
    have hcz30_0 : wr.cell? ⟨gb492, 0, none⟩ = some (u493000) := bc_ BK492 0
    have hcz30_1 : wr.cell? ⟨gb492, 1, none⟩ = some (u493001) := bc_ BK492 1
    have hcz30_2 : wr.cell? ⟨gb492, 2, none⟩ = some (.slice Ao4 l0_2.length co4) := bc_ BK492 2
    have hfz30_0 := blk_frozen BK492.out 0
    have hfz30_1 := blk_frozen BK492.out 1
    have hfz30_2 := blk_frozen BK492.out 2
    obtain ⟨Ao31, co31, eo31⟩ := Kd.R_slice HO_493000.out
    subst eo31
    have p494 : 0 ≤ (x7_1 : Int) := of_decide_eq_true (by first | (with_reducible assumption) | assumption)
    have q494 : x7_1 < (x493000_1.length : Int) := of_decide_eq_true (by first | (with_reducible assumption) | assumption)
    obtain ⟨ad494, e494, hx494_0⟩ := Kd.at_int (Kd.R_reads' HO_493000.out).2.2 x7_1 p494 q494
    cases e494
    replace p494 := eq_true p494
    replace q494 := eq_true q494
    obtain ⟨Ao32, co32, eo32⟩ := Kd.R_slice HO_493001.out
    subst eo32
    have p495 : 0 ≤ (x7_1 : Int) := of_decide_eq_true (by first | (with_reducible assumption) | assumption)
    have q495 : x7_1 < (x493001_1.length : Int) := of_decide_eq_true (by first | (with_reducible assumption) | assumption)
    obtain ⟨ad495, e495, hx495_0⟩ := Kd.at_int (Kd.R_reads' HO_493001.out).2.2 x7_1 p495 q495
    cases e495
    replace p495 := eq_true p495
    replace q495 := eq_true q495
    have p17 : 0 ≤ (x7_1 : Int) := of_decide_eq_true (by first | (with_reducible assumption) | assumption)
    have q17 : (x7_1 : Int) < ((x493001_1.length : Int) : Int) := of_decide_eq_true (by first | (with_reducible assumption) | assumption)
    obtain ⟨go17, co17, eo17, gb17, gl17, cl17, HG17⟩ := Kd.R_form HO_493001.out (by omega)
    (first | cases eo17 | (injection eo17 with ea_ en_ ec_; (first | subst ea_ | (injection ea_ with ea_; subst ea_)); subst ec_; clear en_))
    have GB17 := Aside0.mk gb17
    have GG17 := Aside0.mk HG17
    clear gb17 gl17 HG17
    have HMgo17 := Aside0.mk (show ((P0_0_ go17 ∨ P0_1_ go17 ∨ P0_2_ go17) ∨ w.heap.size ≤ go17) from (HO_493001.out.1 _ rfl).1)
    (first | simp only [add_plain] at hx495_0 | skip)
    obtain ⟨hx17_0, hf17_0⟩ := Kd.R_celln 0 HO_493001.out (x7_1 : Int) p17 q17
    replace p17 := eq_true p17
    replace q17 := eq_true q17
    have HP33 := Kd.R_putg HO_493001.out (x7_1 : Int) (wrap64 ((rd x493001_1 x7_1) - 1))
    go_wp2_with (first | ((with_reducible refine gate_store (t := 3) (p := 22) rfl ?_); refine store_event (t := 3) (p := 22) (v := ?vo_w34) (w1 := (wr.setCell ⟨go17, (x7_1 : Int).toNat, none⟩ (.int .i64 (wrap64 ((rd x493001_1 x7_1) - 1))))) ?hg ?ho ?hn ?hr ?_; (case ho => rfl); (case hg => rfl); (case hn => rfl); (case hr => first | (go_simp; done) | (go_simp; rfl)); intro w34 hw; have hg : wr.grownBy w34 (some go17) := (by rw [hw]; exact HP33.2); have hp_ : Kd.R (Kd.int .i64) 3 w34 w0.heap.size (fun k_ => ((P0_0_ k_ ∨ P0_1_ k_ ∨ P0_2_ k_) ∨ w.heap.size ≤ k_) ∧ some k_ ≠ (.slice (some ad494) x493000_1.length co31 : Value).ownBlock) (.slice (some ⟨go17, 0, none⟩) x493001_1.length co32) y496 := (by rw [hw, Ny496.out]; exact HP33.1); clear HP33; replace HO_493000 := Aside0.mk (Kd.R_after (v := (.slice (some ⟨go17, 0, none⟩) x493001_1.length co32)) (v1 := (.slice (some ⟨go17, 0, none⟩) x493001_1.length co32)) (ok := (fun k_ => ((P0_0_ k_ ∨ P0_1_ k_ ∨ P0_2_ k_) ∨ w.heap.size ≤ k_))) (ra HO_493000.out) hg (.inl rfl)); replace HO_493002 := Aside0.mk (Kd.R_over' (v := (.slice (some ⟨go17, 0, none⟩) x493001_1.length co32)) (ra HO_493002.out) (Kd.R_typed HO_493001.out) (by decide) hg); replace BK492 := Aside0.mk (blk_grown (g := gb492) (o := .cells #[.slice (some ad494) x493000_1.length co31, .slice (some ⟨go17, 0, none⟩) x493001_1.length co32, .slice Ao4 l0_2.length co4] 35 (0, 0)) (ba BK492.out) hg (Kd.R_ne HO_493001.out BK492.out (by decide))); replace BK493 := Aside0.mk (blk_grown (g := gb493) (o := .cells #[.slice none 0 0, .slice none 0 0, .slice none 0 0] 35 (0, 0)) (ba BK493.out) hg (Kd.R_ne HO_493001.out BK493.out (by decide))); replace HB := Aside0.mk ((by rw [hw]; exact below_set (HB.out) GB17.out : Below w0.heap.size w0 w34)); replace HK := Aside0.mk (Kept.of_grown (S := (fun k_ => P0_0_ k_ ∨ P0_1_ k_ ∨ P0_2_ k_)) hg (by repeat (first | (with_reducible first | exact HK.out | apply Kept.alloc | apply Kept.drewN | apply Kept.drew | refine Kept.setCell ?_ (.inr GW492.out) _ | refine Kept.setCell ?_ (.inr GW493.out) _) | exact HK.out)) (fun k_ e_ => (HO_493001.out.1 k_ e_).1)); replace HO_493001 := Aside0.mk (hp_); clear hg hw hp_; have hcz35_0 : w34.cell? ⟨gb492, 0, none⟩ = some (.slice (some ad494) x493000_1.length co31) := bc_ BK492 0; have hcz35_1 : w34.cell? ⟨gb492, 1, none⟩ = some (.slice (some ⟨go17, 0, none⟩) x493001_1.length co32) := bc_ BK492 1; have hcz35_2 : w34.cell? ⟨gb492, 2, none⟩ = some (.slice Ao4 l0_2.length co4) := bc_ BK492 2; have hfz35_0 := blk_frozen BK492.out 0; have hfz35_1 := blk_frozen BK492.out 1; have hfz35_2 := blk_frozen BK492.out 2; have p497 : 0 ≤ (x7_1 : Int) := of_decide_eq_true (by first | (with_reducible assumption) | assumption); have q497 : x7_1 < (y496.length : Int) := (by have h_ : (x7_1 : Int) < ((x493001_1.length : Int) : Int) := of_decide_eq_true (by first | (with_reducible assumption) | assumption); first | (have e_ := (Kd.R_reads' HO_493001.out).1; omega) | simpa only [Ny496.out, List.length_set] using h_); have ql497 : ((x7_1 : Int) < ((x493001_1.length : Int) : Int)) = True := eq_true (of_decide_eq_true (by first | (with_reducible assumption) | assumption)); obtain ⟨ad497, e497, hx497_0⟩ := Kd.at_int (Kd.R_reads' HO_493001.out).2.2 x7_1 p497 q497; obtain rfl : (⟨go17, 0, none⟩ : Addr) = ad497 := (by injection e497); (first | simp only [add_plain] at hx497_0 | simp only [add_at] at hx497_0 | simp only [Addr.add, Nat.zero_add] at hx497_0 | skip); replace p497 := eq_true p497; replace q497 := eq_true q497))
    go_roundg k1
    case measure => have := HK1.out; omega
    case rel => exact ⟨(wrap64 (x7_1 + 1)), (x493000_1), (y496), (.slice (some ad494) x493000_1.length co31), (.slice (some ⟨go17, 0, none⟩) x493001_1.length co32), (by first | rfl | (simp; done) | (simp [*]; done)), H', ⟨by have := HK1.out; omega⟩, ⟨ra HO_493000.out⟩, ⟨ra HO_493001.out⟩, ⟨ra HO_493002.out⟩, ⟨by (with_reducible repeat (first | refine blk_drewN ?_ _ | refine blk_drew ?_ | refine blk_alloc ?_ _)); exact BK492.out⟩, ⟨by (with_reducible repeat (first | refine blk_drewN ?_ _ | refine blk_drew ?_ | refine blk_alloc ?_ _)); exact BK493.out⟩, ⟨by repeat (first | (with_reducible first | exact HK.out | apply Kept.alloc | apply Kept.drewN | apply Kept.drew | refine Kept.setCell ?_ (.inr GW492.out) _ | refine Kept.setCell ?_ (.inr GW493.out) _) | exact HK.out)⟩, ⟨hB HB⟩⟩
   rw [if_pos c18] at H
   have c18b0 : ((rd y496 x7_1) == 0) = true := beq_iff_eq.mpr c18
   have c18b1 : ((rd y496 x7_1) != 0) = false := bne_eq_false_iff_eq.mpr c18
   clear c18
   obtain ⟨y498, hy498⟩ : ∃ y_ : List Int, y_ = (x493000_1.set (x7_1 : Int).toNat 0) := ⟨_, rfl⟩
   replace H : (spec_l3Tick.l0 k1 (l0_0.length : Int) (wrap64 (x7_1 + 1)) y498 y496 l0_2) = some (r1, r2, r3) := by first | (rw [hy498]; with_reducible exact H) | (have H2_ := (Option.bind_some _ _).symm.trans H; rw [hy498]; with_reducible exact H2_) | (have H2_ := (Option.bind_some _ _).symm.trans H; with_reducible exact H2_) | with_reducible exact H | (rw [hy498]; exact H) | exact H
   have Ny498 := Aside0.mk hy498
   clear hy498
   have H' := Aside0.mk H
   clear H
   have hnb20 := NB492_493.out
   have hnc20 := NB493_492.out
   have hcz21_0 : wr.cell? ⟨gb492, 0, none⟩ = some (u493000) := bc_ BK492 0
   have hcz21_1 : wr.cell? ⟨gb492, 1, none⟩ = some (u493001) := bc_ BK492 1
   have hcz21_2 : wr.cell? ⟨gb492, 2, none⟩ = some (.slice Ao4 l0_2.length co4) := bc_ BK492 2
   have hfz21_0 := blk_frozen BK492.out 0
   have hfz21_1 := blk_frozen BK492.out 1
   have hfz21_2 := blk_frozen BK492.out 2
   obtain ⟨Ao22, co22, eo22⟩ := Kd.R_slice HO_493000.out
   subst eo22
   have p494 : 0 ≤ (x7_1 : Int) := of_decide_eq_true (by first | (with_reducible assumption) | assumption)
   have q494 : x7_1 < (x493000_1.length : Int) := of_decide_eq_true (by first | (with_reducible assumption) | assumption)
   obtain ⟨ad494, e494, hx494_0⟩ := Kd.at_int (Kd.R_reads' HO_493000.out).2.2 x7_1 p494 q494
   cases e494
   replace p494 := eq_true p494
   replace q494 := eq_true q494
   obtain ⟨Ao23, co23, eo23⟩ := Kd.R_slice HO_493001.out
   subst eo23
   have p495 : 0 ≤ (x7_1 : Int) := of_decide_eq_true (by first | (with_reducible assumption) | assumption)
   have q495 : x7_1 < (x493001_1.length : Int) := of_decide_eq_true (by first | (with_reducible assumption) | assumption)
   obtain ⟨ad495, e495, hx495_0⟩ := Kd.at_int (Kd.R_reads' HO_493001.out).2.2 x7_1 p495 q495
   cases e495
   replace p495 := eq_true p495
   replace q495 := eq_true q495
   have p17 : 0 ≤ (x7_1 : Int) := of_decide_eq_true (by first | (with_reducible assumption) | assumption)
   have q17 : (x7_1 : Int) < ((x493001_1.length : Int) : Int) := of_decide_eq_true (by first | (with_reducible assumption) | assumption)
   obtain ⟨go17, co17, eo17, gb17, gl17, cl17, HG17⟩ := Kd.R_form HO_493001.out (by omega)
   (first | cases eo17 | (injection eo17 with ea_ en_ ec_; (first | subst ea_ | (injection ea_ with ea_; subst ea_)); subst ec_; clear en_))
   have GB17 := Aside0.mk gb17
   have GG17 := Aside0.mk HG17
   clear gb17 gl17 HG17
   have HMgo17 := Aside0.mk (show ((P0_0_ go17 ∨ P0_1_ go17 ∨ P0_2_ go17) ∨ w.heap.size ≤ go17) from (HO_493001.out.1 _ rfl).1)
   (first | simp only [add_plain] at hx495_0 | skip)
   obtain ⟨hx17_0, hf17_0⟩ := Kd.R_celln 0 HO_493001.out (x7_1 : Int) p17 q17
   replace p17 := eq_true p17
   replace q17 := eq_true q17
   have HP24 := Kd.R_putg HO_493001.out (x7_1 : Int) (wrap64 ((rd x493001_1 x7_1) - 1))
   go_wp2_with (first | ((with_reducible refine gate_store (t := 3) (p := 22) rfl ?_); refine store_event (t := 3) (p := 22) (v := ?vo_w25) (w1 := (wr.setCell ⟨go17, (x7_1 : Int).toNat, none⟩ (.int .i64 (wrap64 ((rd x493001_1 x7_1) - 1))))) ?hg ?ho ?hn ?hr ?_; (case ho => rfl); (case hg => rfl); (case hn => rfl); (case hr => first | (go_simp; done) | (go_simp; rfl)); intro w25 hw; have hg : wr.grownBy w25 (some go17) := (by rw [hw]; exact HP24.2); have hp_ : Kd.R (Kd.int .i64) 3 w25 w0.heap.size (fun k_ => ((P0_0_ k_ ∨ P0_1_ k_ ∨ P0_2_ k_) ∨ w.heap.size ≤ k_) ∧ some k_ ≠ (.slice (some ad494) x493000_1.length co22 : Value).ownBlock) (.slice (some ⟨go17, 0, none⟩) x493001_1.length co23) y496 := (by rw [hw, Ny496.out]; exact HP24.1); clear HP24; replace HO_493000 := Aside0.mk (Kd.R_after (v := (.slice (some ⟨go17, 0, none⟩) x493001_1.length co23)) (v1 := (.slice (some ⟨go17, 0, none⟩) x493001_1.length co23)) (ok := (fun k_ => ((P0_0_ k_ ∨ P0_1_ k_ ∨ P0_2_ k_) ∨ w.heap.size ≤ k_))) (ra HO_493000.out) hg (.inl rfl)); replace HO_493002 := Aside0.mk (Kd.R_over' (v := (.slice (some ⟨go17, 0, none⟩) x493001_1.length co23)) (ra HO_493002.out) (Kd.R_typed HO_493001.out) (by decide) hg); replace BK492 := Aside0.mk (blk_grown (g := gb492) (o := .cells #[.slice (some ad494) x493000_1.length co22, .slice (some ⟨go17, 0, none⟩) x493001_1.length co23, .slice Ao4 l0_2.length co4] 35 (0, 0)) (ba BK492.out) hg (Kd.R_ne HO_493001.out BK492.out (by decide))); replace BK493 := Aside0.mk (blk_grown (g := gb493) (o := .cells #[.slice none 0 0, .slice none 0 0, .slice none 0 0] 35 (0, 0)) (ba BK493.out) hg (Kd.R_ne HO_493001.out BK493.out (by decide))); replace HB := Aside0.mk ((by rw [hw]; exact below_set (HB.out) GB17.out : Below w0.heap.size w0 w25)); replace HK := Aside0.mk (Kept.of_grown (S := (fun k_ => P0_0_ k_ ∨ P0_1_ k_ ∨ P0_2_ k_)) hg (by repeat (first | (with_reducible first | exact HK.out | apply Kept.alloc | apply Kept.drewN | apply Kept.drew | refine Kept.setCell ?_ (.inr GW492.out) _ | refine Kept.setCell ?_ (.inr GW493.out) _) | exact HK.out)) (fun k_ e_ => (HO_493001.out.1 k_ e_).1)); replace HO_493001 := Aside0.mk (hp_); clear hg hw hp_; have hcz26_0 : w25.cell? ⟨gb492, 0, none⟩ = some (.slice (some ad494) x493000_1.length co22) := bc_ BK492 0; have hcz26_1 : w25.cell? ⟨gb492, 1, none⟩ = some (.slice (some ⟨go17, 0, none⟩) x493001_1.length co23) := bc_ BK492 1; have hcz26_2 : w25.cell? ⟨gb492, 2, none⟩ = some (.slice Ao4 l0_2.length co4) := bc_ BK492 2; have hfz26_0 := blk_frozen BK492.out 0; have hfz26_1 := blk_frozen BK492.out 1; have hfz26_2 := blk_frozen BK492.out 2; have p497 : 0 ≤ (x7_1 : Int) := of_decide_eq_true (by first | (with_reducible assumption) | assumption); have q497 : x7_1 < (y496.length : Int) := (by have h_ : (x7_1 : Int) < ((x493001_1.length : Int) : Int) := of_decide_eq_true (by first | (with_reducible assumption) | assumption); first | (have e_ := (Kd.R_reads' HO_493001.out).1; omega) | simpa only [Ny496.out, List.length_set] using h_); have ql497 : ((x7_1 : Int) < ((x493001_1.length : Int) : Int)) = True := eq_true (of_decide_eq_true (by first | (with_reducible assumption) | assumption)); obtain ⟨ad497, e497, hx497_0⟩ := Kd.at_int (Kd.R_reads' HO_493001.out).2.2 x7_1 p497 q497; obtain rfl : (⟨go17, 0, none⟩ : Addr) = ad497 := (by injection e497); (first | simp only [add_plain] at hx497_0 | simp only [add_at] at hx497_0 | simp only [Addr.add, Nat.zero_add] at hx497_0 | skip); replace p497 := eq_true p497; replace q497 := eq_true q497; have p19 : 0 ≤ (x7_1 : Int) := of_decide_eq_true (by first | (with_reducible assumption) | assumption); have q19 : (x7_1 : Int) < ((x493000_1.length : Int) : Int) := of_decide_eq_true (by first | (with_reducible assumption) | assumption); obtain ⟨go19, co19, eo19, gb19, gl19, cl19, HG19⟩ := Kd.R_form HO_493000.out (by omega); (first | cases eo19 | (injection eo19 with ea_ en_ ec_; (first | subst ea_ | (injection ea_ with ea_; subst ea_)); subst ec_; clear en_)); have GB19 := Aside0.mk gb19; have GG19 := Aside0.mk HG19; clear gb19 gl19 HG19; have HMgo19 := Aside0.mk (show ((P0_0_ go19 ∨ P0_1_ go19 ∨ P0_2_ go19) ∨ w.heap.size ≤ go19) from (HO_493000.out.1 _ rfl).1); (first | simp only [add_plain] at hx494_0 | skip); obtain ⟨hx19_0, hf19_0⟩ := Kd.R_celln 0 HO_493000.out (x7_1 : Int) p19 q19; replace p19 := eq_true p19; replace q19 := eq_true q19; obtain ⟨hy27_, hz27_⟩ := Kd.R_celln 0 HO_493000.out (x7_1 : Int) (of_decide_eq_true (by first | (with_reducible assumption) | assumption)) (of_decide_eq_true (by first | (with_reducible assumption) | assumption)); have HP27 := Kd.R_putg HO_493000.out (x7_1 : Int) 0) | ((with_reducible refine gate_store (t := 3) (p := 32) rfl ?_); refine store_event (t := 3) (p := 32) (v := ?vo_w28) (w1 := (w25.setCell ⟨go19, (x7_1 : Int).toNat, none⟩ (.int .i64 0))) ?hg ?ho ?hn ?hr ?_; (case ho => rfl); (case hg => rfl); (case hn => rfl); (case hr => first | (go_simp; done) | (go_simp; rfl)); intro w28 hw; have hg : w25.grownBy w28 (some go19) := (by rw [hw]; exact HP27.2); have hp_ : Kd.R (Kd.int .i64) 3 w28 w0.heap.size (fun k_ => ((P0_0_ k_ ∨ P0_1_ k_ ∨ P0_2_ k_) ∨ w.heap.size ≤ k_) ∧ some k_ ≠ (.slice (some ⟨go17, 0, none⟩) x493001_1.length co23 : Value).ownBlock) (.slice (some ⟨go19, 0, none⟩) x493000_1.length co22) y498 := (by rw [hw, Ny498.out]; exact HP27.1); clear HP27; replace HO_493001 := Aside0.mk (Kd.R_after (v := (.slice (some ⟨go19, 0, none⟩) x493000_1.length co22)) (v1 := (.slice (some ⟨go19, 0, none⟩) x493000_1.length co22)) (ok := (fun k_ => ((P0_0_ k_ ∨ P0_1_ k_ ∨ P0_2_ k_) ∨ w.heap.size ≤ k_))) (ra HO_493001.out) hg (.inl rfl)); replace HO_493002 := Aside0.mk (Kd.R_over' (v := (.slice (some ⟨go19, 0, none⟩) x493000_1.length co22)) (ra HO_493002.out) (Kd.R_typed HO_493000.out) (by decide) hg); replace BK492 := Aside0.mk (blk_grown (g := gb492) (o := .cells #[.slice (some ⟨go19, 0, none⟩) x493000_1.length co22, .slice (some ⟨go17, 0, none⟩) x493001_1.length co23, .slice Ao4 l0_2.length co4] 35 (0, 0)) (ba BK492.out) hg (Kd.R_ne HO_493000.out BK492.out (by decide))); replace BK493 := Aside0.mk (blk_grown (g := gb493) (o := .cells #[.slice none 0 0, .slice none 0 0, .slice none 0 0] 35 (0, 0)) (ba BK493.out) hg (Kd.R_ne HO_493000.out BK493.out (by decide))); replace HB := Aside0.mk ((by rw [hw]; exact below_set (HB.out) GB19.out : Below w0.heap.size w0 w28)); replace HK := Aside0.mk (Kept.of_grown (S := (fun k_ => P0_0_ k_ ∨ P0_1_ k_ ∨ P0_2_ k_)) hg (by repeat (first | (with_reducible first | exact HK.out | apply Kept.alloc | apply Kept.drewN | apply Kept.drew | refine Kept.setCell ?_ (.inr GW492.out) _ | refine Kept.setCell ?_ (.inr GW493.out) _) | exact HK.out)) (fun k_ e_ => (HO_493000.out.1 k_ e_).1)); replace HO_493000 := Aside0.mk (hp_); clear hg hw hp_))
   go_roundg k1
   case measure => have := HK1.out; omega
   case rel => exact ⟨(wrap64 (x7_1 + 1)), (y498), (y496), (.slice (some ⟨go19, 0, none⟩) x493000_1.length co22), (.slice (some ⟨go17, 0, none⟩) x493001_1.length co23), (by first | rfl | (simp; done) | (simp [*]; done)), H', ⟨by have := HK1.out; omega⟩, ⟨ra HO_493000.out⟩, ⟨ra HO_493001.out⟩, ⟨ra HO_493002.out⟩, ⟨by (with_reducible repeat (first | refine blk_drewN ?_ _ | refine blk_drew ?_ | refine blk_alloc ?_ _)); exact BK492.out⟩, ⟨by (with_reducible repeat (first | refine blk_drewN ?_ _ | refine blk_drew ?_ | refine blk_alloc ?_ _)); exact BK493.out⟩, ⟨by repeat (first | (with_reducible first | exact HK.out | apply Kept.alloc | apply Kept.drewN | apply Kept.drew | refine Kept.setCell ?_ (.inr GW492.out) _ | refine Kept.setCell ?_ (.inr GW493.out) _) | exact HK.out)⟩, ⟨hB HB⟩⟩

end Go.Proofs.Ytfkjnpgpofcinaa.P
