import Derived.Test.YtenedmcobknefaaF0
import Derived.Test.YtenedmcobknefaaF1
import Derived.Test.YtenedmcobknefaaF2
import Derived.Test.YtenedmcobknefaaF3
import Derived.Test.YtenedmcobknefaaF4
import Derived.Test.YtenedmcobknefaaF5
import Derived.Test.YtenedmcobknefaaF8
namespace Go.Proofs.Ytenedmcobknefaa.P
open Go.RowKit Go.Proofs.YtenedmcobknefaaW.PrintWords Go.Proofs.YtenedmcobknefaaW.PrintLast Go.Proofs.YtenedmcobknefaaW.PrintMore
attribute [local go_sem] max2_int min2_int max_two min_two max_three min_three max_four min_four   -- for this text's walks alone
set_option linter.unusedVariables false
set_option linter.unusedSimpArgs false
attribute [local go_sem high] eqA27

def impl_DropOld.f (k : Nat) (a0_0 : Int) (l0_1 : List (S27)) (a1 : Int) (a2 : Int) : Option (Int × (List (S27)) × Bool) := (impl_GoodTable.f k a0_0 l0_1).bind fun t348 => (if t348 = true then ((impl_in.f a1 0 10000).bind fun t349 => (if t349 = true then ((impl_in.f a2 0 10000).bind fun t350 => (if t350 = true then ((impl_Table_kept.f k a0_0 l0_1 (fun _ _ z => some (decide (wrap64 (a1 - a2) ≤ z)))).bind fun bt351 => (some (bt351.1, bt351.2, true))) else (some (0, ([] : List (S27)), false)))) else (some (0, ([] : List (S27)), false)))) else (some (0, ([] : List (S27)), false)))
theorem impl_DropOld.mono : ∀ a0 a1 a2 a3 k, LeO (impl_DropOld.f k a0 a1 a2 a3) (impl_DropOld.f (k + 1) a0 a1 a2 a3) := by
 intro a0 a1 a2 a3 k
 unfold impl_DropOld.f
 repeat' first
   | (with_reducible exact impl_GoodTable.mono _ _ _)
   | (with_reducible exact impl_Table_kept.mono _ _ _ _)
   | with_reducible first | exact LeO.refl _ | exact LeO.none _ | refine LeO.ite ?_ ?_ | refine LeO.bind ?_ fun _ => ?_
set_option maxHeartbeats 2000000 in
theorem impl_DropOld.pred (gB0 gB1 : Nat) (a1 a2 : Int) (w : World) (hb0 : w.heap[gB0]? = some (.cells #[.int .i64 a1] 3 (0, 0))) (hb1 : w.heap[gB1]? = some (.cells #[.int .i64 a2] 3 (0, 0))) (W : World) (x y z : Int) (t : Bool) (hW : Below w.heap.size w W) (ht : (fun _ _ z => some (decide (wrap64 (a1 - a2) ≤ z))) x y z = some t) : Calls Try.prog 31 #[.agg #[.int .i64 x, .int .i64 y, .int .i64 z], .pointer (some ⟨gB0, 0, none⟩), .pointer (some ⟨gB1, 0, none⟩)] W fun e w' => e = .returned (.bool t) ∧ Below W.heap.size W w' := by
 have hu27 := Try.underlying27
 have BKB0 := Aside0.mk (blk_below hb0 hW)
 have BKB1 := Aside0.mk (blk_below hb1 hW)
 have HB := Aside0.mk (Below.refl W.heap.size W)
 obtain rfl := Option.some.inj ht
 clear hb0 hb1 hW ht
 go_enter Try.func31, Try.ntmps31
 go_wp2_with (first | ((with_reducible refine gate_dst (N := 3) rfl ?_); refine box_event ?hg (N := 3) ?hd (cs := #[.int .i64 x, .int .i64 y, .int .i64 z]) (t := 27) ?hr ?_; (case hd => rfl); (case hg => rfl); (case hr => first | (go_simp; done) | (go_simp; rfl)); intro gb1 hg w1 hbox hb; have BK1 := Aside0.mk (hbox); replace BKB0 := bb_ BKB0 hb; replace BKB1 := bb_ BKB1 hb; replace HB := bst_ HB hb; clear hb hbox hg; obtain ⟨hc0, hc1, hc2⟩ := bcs3_ BK1; have hcb0 : w1.cell? ⟨gB0, 0, none⟩ = some (.int .i64 a1) := bc_ BKB0 0; have hcb1 : w1.cell? ⟨gB1, 0, none⟩ = some (.int .i64 a2) := bc_ BKB1 0))
 go_ret
 exact ⟨by first | rfl | (simp [i64_w]; done) | (simp [i64_w] <;> rfl), hB HB⟩
set_option maxHeartbeats 8000000 in
set_option maxRecDepth 100000 in
theorem impl_DropOld.calls (k : Nat) (a0_0 : Int) (A0_1 : Option Addr) (c0_1 : Nat) (l0_1 : List (S27)) (a1 : Int) (a2 : Int) (r1 : Int) (r2 : List (S27)) (r3 : Bool) (w : World) (hr0_1 : Kd.C k27 w A0_1 l0_1.length l0_1) (hc0_1 : l0_1.length ≤ c0_1) (h : impl_DropOld.f k a0_0 l0_1 a1 a2 = some (r1, r2, r3)) :
  Calls Try.prog 12 #[.agg #[.int .i64 a0_0, .slice A0_1 l0_1.length c0_1], .int .i64 a1, .int .i64 a2] w fun e w' => ∃ v1_ : Value, e = .returned (.tuple #[.agg #[.int .i64 r1, v1_], .bool r3]) ∧ Kd.R k27 27 w' w.heap.size (fun _ => True) v1_ r2 ∧ Below w.heap.size w w' := by
 have hu25 := Try.underlying25
 have HR0_1 := Aside0.mk hr0_1
 have HC0_1 := Aside0.mk hc0_1
 clear hr0_1 hc0_1
 have HB := Aside0.mk (Below.refl w.heap.size w)
 have H : ((impl_GoodTable.f k a0_0 l0_1).bind fun t348 => (if t348 = true then ((impl_in.f a1 0 10000).bind fun t349 => (if t349 = true then ((impl_in.f a2 0 10000).bind fun t350 => (if t350 = true then ((impl_Table_kept.f k a0_0 l0_1 (fun _ _ z => some (decide (wrap64 (a1 - a2) ≤ z)))).bind fun bt351 => (some (bt351.1, bt351.2, true))) else (some (0, ([] : List (S27)), false)))) else (some (0, ([] : List (S27)), false)))) else (some (0, ([] : List (S27)), false)))) = some (r1, r2, r3) := h
 clear h
 replace H := Option.bind_eq_some_iff.mp H
 obtain ⟨t348, A40, H⟩ := H
 replace H : (if t348 = true then ((impl_in.f a1 0 10000).bind fun t349 => (if t349 = true then ((impl_in.f a2 0 10000).bind fun t350 => (if t350 = true then ((impl_Table_kept.f k a0_0 l0_1 (fun _ _ z => some (decide (wrap64 (a1 - a2) ≤ z)))).bind fun bt351 => (some (bt351.1, bt351.2, true))) else (some (0, ([] : List (S27)), false)))) else (some (0, ([] : List (S27)), false)))) else (some (0, ([] : List (S27)), false))) = some (r1, r2, r3) := H
 have A4 := Aside0.mk A40
 clear A40
 by_cases c5 : t348 = true
 rotate_left
 ·replace c5 := Bool.eq_false_iff.mpr c5
  subst c5
  rw [if_neg (show ¬ (false = true) by decide)] at H
  simp only [Option.some.injEq, Prod.mk.injEq] at H
  obtain ⟨rfl, rfl, rfl⟩ := H
  go_enter Try.func12, Try.ntmps12
  go_wp2_with (first | ((with_reducible refine gate_dst (N := 3) rfl ?_); refine box_event ?hg (N := 3) ?hd (cs := #[.int .i64 a0_0, .slice A0_1 l0_1.length c0_1]) (t := 25) ?hr ?_; (case hd => rfl); (case hg => rfl); (case hr => first | (go_simp; done) | (go_simp; rfl)); intro gb344 hg w58 hbox hb; have BK344 := Aside0.mk (hbox); have GW344 := gw_ hg HB; have GE344 := gw_ hg HB; replace HB := bst_ HB hb; clear hb hbox hg) | ((with_reducible refine gate_dst (N := 4) rfl ?_); refine box_event ?hg (N := 4) ?hd (cs := #[.int .i64 a1]) (t := 3) ?hr ?_; (case hd => rfl); (case hg => rfl); (case hr => first | (go_simp; done) | (go_simp; rfl)); intro gb345 hg w59 hbox hb; have BK345 := Aside0.mk (hbox); have GW345 := gw_ hg HB; have GE345 := gw_ hg HB; have NB344_345 := nl_ hg BK344; have NB345_344 := ng_ hg BK344; replace BK344 := bb_ BK344 hb; replace HB := bst_ HB hb; clear hb hbox hg) | ((with_reducible refine gate_dst (N := 5) rfl ?_); refine box_event ?hg (N := 5) ?hd (cs := #[.int .i64 a2]) (t := 3) ?hr ?_; (case hd => rfl); (case hg => rfl); (case hr => first | (go_simp; done) | (go_simp; rfl)); intro gb346 hg w60 hbox hb; have BK346 := Aside0.mk (hbox); have GW346 := gw_ hg HB; have GE346 := gw_ hg HB; have NB344_346 := nl_ hg BK344; have NB346_344 := ng_ hg BK344; have NB345_346 := nl_ hg BK345; have NB346_345 := ng_ hg BK345; replace BK344 := bb_ BK344 hb; replace BK345 := bb_ BK345 hb; replace HB := bst_ HB hb; clear hb hbox hg) | ((with_reducible refine gate_dst (N := 6) rfl ?_); refine box_event ?hg (N := 6) ?hd (cs := #[.int .i64 0, .slice none 0 0]) (t := 25) ?hr ?_; (case hd => rfl); (case hg => rfl); (case hr => first | (go_simp; done) | (go_simp; rfl)); intro gb347 hg w61 hbox hb; have BK347 := Aside0.mk (hbox); have GW347 := gw_ hg HB; have GE347 := gw_ hg HB; have NB344_347 := nl_ hg BK344; have NB347_344 := ng_ hg BK344; have NB345_347 := nl_ hg BK345; have NB347_345 := ng_ hg BK345; have NB346_347 := nl_ hg BK346; have NB347_346 := ng_ hg BK346; replace BK344 := bb_ BK344 hb; replace BK345 := bb_ BK345 hb; replace BK346 := bb_ BK346 hb; replace HB := bst_ HB hb; clear hb hbox hg; have hnb62 := NB344_345.out; have hnc62 := NB345_344.out; have hnb63 := NB344_346.out; have hnc63 := NB346_344.out; have hnb64 := NB344_347.out; have hnc64 := NB347_344.out; obtain ⟨hcz65_0, hcz65_1⟩ := bcs2_ BK344) | (refine goesL_ (some 9) rfl rfl Try.func8 (by kernel_rfl) rfl #[.agg #[.int .i64 a0_0, .slice A0_1 l0_1.length c0_1]] rfl tm_ ?_; (with_reducible refine (impl_GoodTable.calls k a0_0 _ _ l0_1 false _ ?side1 ?side2 A4.out).mono ?_); (case side1 => exact cb_ HR0_1 HB); (case side2 => exact HC0_1.out); rintro e w66 ⟨rfl, hb⟩; refine ⟨_, rfl, ?_⟩; replace BK344 := bb_ BK344 hb; replace BK345 := bb_ BK345 hb; replace BK346 := bb_ BK346 hb; replace BK347 := bb_ BK347 hb; replace HB := bst_ HB hb; clear hb; have hnb67 := NB347_345.out; have hnc67 := NB345_347.out; have hnb68 := NB347_346.out; have hnc68 := NB346_347.out; obtain ⟨hcz69_0, hcz69_1⟩ := bcs2_ BK347; have hfz69_0 := blk_frozen BK347.out 0; have hfz69_1 := blk_frozen BK347.out 1))
  refine bodyPost_ret (results_ct rfl _ _ gb347 25 #[.int .i64 0, .slice none 0 0] (0, 0) _ rfl (by (with_reducible repeat (first | refine blk_drewN ?_ _ | refine blk_drew ?_ | refine blk_alloc ?_ _)); refine blk_put (cs := #[.int .i64 0, .slice none 0 0]) ?_ 1 _ rfl; (with_reducible repeat (first | refine blk_drewN ?_ _ | refine blk_drew ?_ | refine blk_alloc ?_ _)); refine blk_put (cs := #[.int .i64 0, .slice none 0 0]) ?_ 0 _ rfl; (with_reducible repeat (first | refine blk_drewN ?_ _ | refine blk_drew ?_ | refine blk_alloc ?_ _)); exact BK347.out) Try.underlying25 rfl (by kernel_rfl)) rfl ?_
  exact ⟨_, rt_, by first | exact Kd.R_nil _ _ _ _ _ | exact Kd.N_nil _ _ _ _ _ | exact Kd.V_nil _ _ _ _ _ | exact Kd.Q_nil _ _ _ _ _ | exact Kd.S_nil _ _ _ _ _, hB HB⟩
 subst c5
 rw [if_pos rfl] at H
 replace H := Option.bind_eq_some_iff.mp H
 obtain ⟨t349, A60, H⟩ := H
 replace H : (if t349 = true then ((impl_in.f a2 0 10000).bind fun t350 => (if t350 = true then ((impl_Table_kept.f k a0_0 l0_1 (fun _ _ z => some (decide (wrap64 (a1 - a2) ≤ z)))).bind fun bt351 => (some (bt351.1, bt351.2, true))) else (some (0, ([] : List (S27)), false)))) else (some (0, ([] : List (S27)), false))) = some (r1, r2, r3) := H
 have A6 := Aside0.mk A60
 clear A60
 by_cases c7 : t349 = true
 rotate_left
 ·replace c7 := Bool.eq_false_iff.mpr c7
  subst c7
  rw [if_neg (show ¬ (false = true) by decide)] at H
  simp only [Option.some.injEq, Prod.mk.injEq] at H
  obtain ⟨rfl, rfl, rfl⟩ := H
  go_enter Try.func12, Try.ntmps12
  go_wp2_with (first | ((with_reducible refine gate_dst (N := 3) rfl ?_); refine box_event ?hg (N := 3) ?hd (cs := #[.int .i64 a0_0, .slice A0_1 l0_1.length c0_1]) (t := 25) ?hr ?_; (case hd => rfl); (case hg => rfl); (case hr => first | (go_simp; done) | (go_simp; rfl)); intro gb344 hg w44 hbox hb; have BK344 := Aside0.mk (hbox); have GW344 := gw_ hg HB; have GE344 := gw_ hg HB; replace HB := bst_ HB hb; clear hb hbox hg) | ((with_reducible refine gate_dst (N := 4) rfl ?_); refine box_event ?hg (N := 4) ?hd (cs := #[.int .i64 a1]) (t := 3) ?hr ?_; (case hd => rfl); (case hg => rfl); (case hr => first | (go_simp; done) | (go_simp; rfl)); intro gb345 hg w45 hbox hb; have BK345 := Aside0.mk (hbox); have GW345 := gw_ hg HB; have GE345 := gw_ hg HB; have NB344_345 := nl_ hg BK344; have NB345_344 := ng_ hg BK344; replace BK344 := bb_ BK344 hb; replace HB := bst_ HB hb; clear hb hbox hg) | ((with_reducible refine gate_dst (N := 5) rfl ?_); refine box_event ?hg (N := 5) ?hd (cs := #[.int .i64 a2]) (t := 3) ?hr ?_; (case hd => rfl); (case hg => rfl); (case hr => first | (go_simp; done) | (go_simp; rfl)); intro gb346 hg w46 hbox hb; have BK346 := Aside0.mk (hbox); have GW346 := gw_ hg HB; have GE346 := gw_ hg HB; have NB344_346 := nl_ hg BK344; have NB346_344 := ng_ hg BK344; have NB345_346 := nl_ hg BK345; have NB346_345 := ng_ hg BK345; replace BK344 := bb_ BK344 hb; replace BK345 := bb_ BK345 hb; replace HB := bst_ HB hb; clear hb hbox hg) | ((with_reducible refine gate_dst (N := 6) rfl ?_); refine box_event ?hg (N := 6) ?hd (cs := #[.int .i64 0, .slice none 0 0]) (t := 25) ?hr ?_; (case hd => rfl); (case hg => rfl); (case hr => first | (go_simp; done) | (go_simp; rfl)); intro gb347 hg w47 hbox hb; have BK347 := Aside0.mk (hbox); have GW347 := gw_ hg HB; have GE347 := gw_ hg HB; have NB344_347 := nl_ hg BK344; have NB347_344 := ng_ hg BK344; have NB345_347 := nl_ hg BK345; have NB347_345 := ng_ hg BK345; have NB346_347 := nl_ hg BK346; have NB347_346 := ng_ hg BK346; replace BK344 := bb_ BK344 hb; replace BK345 := bb_ BK345 hb; replace BK346 := bb_ BK346 hb; replace HB := bst_ HB hb; clear hb hbox hg; have hnb48 := NB344_345.out; have hnc48 := NB345_344.out; have hnb49 := NB344_346.out; have hnc49 := NB346_344.out; have hnb50 := NB344_347.out; have hnc50 := NB347_344.out; obtain ⟨hcz51_0, hcz51_1⟩ := bcs2_ BK344) | (refine goesL_ (some 9) rfl rfl Try.func8 (by kernel_rfl) rfl #[.agg #[.int .i64 a0_0, .slice A0_1 l0_1.length c0_1]] rfl tm_ ?_; (with_reducible refine (impl_GoodTable.calls k a0_0 _ _ l0_1 true _ ?side1 ?side2 A4.out).mono ?_); (case side1 => exact cb_ HR0_1 HB); (case side2 => exact HC0_1.out); rintro e w52 ⟨rfl, hb⟩; refine ⟨_, rfl, ?_⟩; replace BK344 := bb_ BK344 hb; replace BK345 := bb_ BK345 hb; replace BK346 := bb_ BK346 hb; replace BK347 := bb_ BK347 hb; replace HB := bst_ HB hb; clear hb; have hnb53 := NB345_346.out; have hnc53 := NB346_345.out; have hnb54 := NB345_347.out; have hnc54 := NB347_345.out; have hcz55_0 : w52.cell? ⟨gb345, 0, none⟩ = some (.int .i64 a1) := bc_ BK345 0) | (go_at_call 26; (with_reducible refine (impl_in.calls a1 0 10000 false _ A6.out).mono ?_); rintro e w' ⟨rfl, ⟨nd, rfl⟩⟩; (try (rw [drewN_self w52]; generalize hq_ : World.drewN w52 _ = w52; have n0_ : Aside0 (w52.heap[gb344]? = some (.cells #[.int .i64 a0_0, .slice A0_1 l0_1.length c0_1] 25 (0, 0))) := ⟨by rw [← hq_]; exact (ba BK344.out)⟩; have n1_ : Aside0 (w52.heap[gb345]? = some (.cells #[.int .i64 a1] 3 (0, 0))) := ⟨by rw [← hq_]; exact (ba BK345.out)⟩; have n2_ : Aside0 (w52.heap[gb346]? = some (.cells #[.int .i64 a2] 3 (0, 0))) := ⟨by rw [← hq_]; exact (ba BK346.out)⟩; have n3_ : Aside0 (w52.heap[gb347]? = some (.cells #[.int .i64 0, .slice none 0 0] 25 (0, 0))) := ⟨by rw [← hq_]; exact (ba BK347.out)⟩; have n4_ : Aside0 (Below w.heap.size w w52) := ⟨by rw [← hq_]; exact (hB HB)⟩; clear BK344 BK345 BK346 BK347 HB hq_; have BK344 := n0_; have BK345 := n1_; have BK346 := n2_; have BK347 := n3_; have HB := n4_; clear n0_ n1_ n2_ n3_ n4_)); have hnb56 := NB347_346.out; have hnc56 := NB346_347.out; obtain ⟨hcz57_0, hcz57_1⟩ := bcs2_ BK347; have hfz57_0 := blk_frozen BK347.out 0; have hfz57_1 := blk_frozen BK347.out 1))
  refine bodyPost_ret (results_ct rfl _ _ gb347 25 #[.int .i64 0, .slice none 0 0] (0, 0) _ rfl (by (with_reducible repeat (first | refine blk_drewN ?_ _ | refine blk_drew ?_ | refine blk_alloc ?_ _)); refine blk_put (cs := #[.int .i64 0, .slice none 0 0]) ?_ 1 _ rfl; (with_reducible repeat (first | refine blk_drewN ?_ _ | refine blk_drew ?_ | refine blk_alloc ?_ _)); refine blk_put (cs := #[.int .i64 0, .slice none 0 0]) ?_ 0 _ rfl; (with_reducible repeat (first | refine blk_drewN ?_ _ | refine blk_drew ?_ | refine blk_alloc ?_ _)); exact BK347.out) Try.underlying25 rfl (by kernel_rfl)) rfl ?_
  exact ⟨_, rt_, by first | exact Kd.R_nil _ _ _ _ _ | exact Kd.N_nil _ _ _ _ _ | exact Kd.V_nil _ _ _ _ _ | exact Kd.Q_nil _ _ _ _ _ | exact Kd.S_nil _ _ _ _ _, hB HB⟩
 subst c7
 rw [if_pos rfl] at H
 replace H := Option.bind_eq_some_iff.mp H
 obtain ⟨t350, A80, H⟩ := H
 replace H : (if t350 = true then ((impl_Table_kept.f k a0_0 l0_1 (fun _ _ z => some (decide (wrap64 (a1 - a2) ≤ z)))).bind fun bt351 => (some (bt351.1, bt351.2, true))) else (some (0, ([] : List (S27)), false))) = some (r1, r2, r3) := H
 have A8 := Aside0.mk A80
 clear A80
 by_cases c9 : t350 = true
 rotate_left
 ·replace c9 := Bool.eq_false_iff.mpr c9
  subst c9
  rw [if_neg (show ¬ (false = true) by decide)] at H
  simp only [Option.some.injEq, Prod.mk.injEq] at H
  obtain ⟨rfl, rfl, rfl⟩ := H
  go_enter Try.func12, Try.ntmps12
  go_wp2_with (first | ((with_reducible refine gate_dst (N := 3) rfl ?_); refine box_event ?hg (N := 3) ?hd (cs := #[.int .i64 a0_0, .slice A0_1 l0_1.length c0_1]) (t := 25) ?hr ?_; (case hd => rfl); (case hg => rfl); (case hr => first | (go_simp; done) | (go_simp; rfl)); intro gb344 hg w29 hbox hb; have BK344 := Aside0.mk (hbox); have GW344 := gw_ hg HB; have GE344 := gw_ hg HB; replace HB := bst_ HB hb; clear hb hbox hg) | ((with_reducible refine gate_dst (N := 4) rfl ?_); refine box_event ?hg (N := 4) ?hd (cs := #[.int .i64 a1]) (t := 3) ?hr ?_; (case hd => rfl); (case hg => rfl); (case hr => first | (go_simp; done) | (go_simp; rfl)); intro gb345 hg w30 hbox hb; have BK345 := Aside0.mk (hbox); have GW345 := gw_ hg HB; have GE345 := gw_ hg HB; have NB344_345 := nl_ hg BK344; have NB345_344 := ng_ hg BK344; replace BK344 := bb_ BK344 hb; replace HB := bst_ HB hb; clear hb hbox hg) | ((with_reducible refine gate_dst (N := 5) rfl ?_); refine box_event ?hg (N := 5) ?hd (cs := #[.int .i64 a2]) (t := 3) ?hr ?_; (case hd => rfl); (case hg => rfl); (case hr => first | (go_simp; done) | (go_simp; rfl)); intro gb346 hg w31 hbox hb; have BK346 := Aside0.mk (hbox); have GW346 := gw_ hg HB; have GE346 := gw_ hg HB; have NB344_346 := nl_ hg BK344; have NB346_344 := ng_ hg BK344; have NB345_346 := nl_ hg BK345; have NB346_345 := ng_ hg BK345; replace BK344 := bb_ BK344 hb; replace BK345 := bb_ BK345 hb; replace HB := bst_ HB hb; clear hb hbox hg) | ((with_reducible refine gate_dst (N := 6) rfl ?_); refine box_event ?hg (N := 6) ?hd (cs := #[.int .i64 0, .slice none 0 0]) (t := 25) ?hr ?_; (case hd => rfl); (case hg => rfl); (case hr => first | (go_simp; done) | (go_simp; rfl)); intro gb347 hg w32 hbox hb; have BK347 := Aside0.mk (hbox); have GW347 := gw_ hg HB; have GE347 := gw_ hg HB; have NB344_347 := nl_ hg BK344; have NB347_344 := ng_ hg BK344; have NB345_347 := nl_ hg BK345; have NB347_345 := ng_ hg BK345; have NB346_347 := nl_ hg BK346; have NB347_346 := ng_ hg BK346; replace BK344 := bb_ BK344 hb; replace BK345 := bb_ BK345 hb; replace BK346 := bb_ BK346 hb; replace HB := bst_ HB hb; clear hb hbox hg; have hnb33 := NB344_345.out; have hnc33 := NB345_344.out; have hnb34 := NB344_346.out; have hnc34 := NB346_344.out; have hnb35 := NB344_347.out; have hnc35 := NB347_344.out; obtain ⟨hcz36_0, hcz36_1⟩ := bcs2_ BK344) | (refine goesL_ (some 9) rfl rfl Try.func8 (by kernel_rfl) rfl #[.agg #[.int .i64 a0_0, .slice A0_1 l0_1.length c0_1]] rfl tm_ ?_; (with_reducible refine (impl_GoodTable.calls k a0_0 _ _ l0_1 true _ ?side1 ?side2 A4.out).mono ?_); (case side1 => exact cb_ HR0_1 HB); (case side2 => exact HC0_1.out); rintro e w37 ⟨rfl, hb⟩; refine ⟨_, rfl, ?_⟩; replace BK344 := bb_ BK344 hb; replace BK345 := bb_ BK345 hb; replace BK346 := bb_ BK346 hb; replace BK347 := bb_ BK347 hb; replace HB := bst_ HB hb; clear hb; have hnb38 := NB345_346.out; have hnc38 := NB346_345.out; have hnb39 := NB345_347.out; have hnc39 := NB347_345.out; have hcz40_0 : w37.cell? ⟨gb345, 0, none⟩ = some (.int .i64 a1) := bc_ BK345 0) | (go_at_call 26; (with_reducible refine (impl_in.calls a1 0 10000 true _ A6.out).mono ?_); rintro e w' ⟨rfl, ⟨nd, rfl⟩⟩; (try (rw [drewN_self w37]; generalize hq_ : World.drewN w37 _ = w37; have n0_ : Aside0 (w37.heap[gb344]? = some (.cells #[.int .i64 a0_0, .slice A0_1 l0_1.length c0_1] 25 (0, 0))) := ⟨by rw [← hq_]; exact (ba BK344.out)⟩; have n1_ : Aside0 (w37.heap[gb345]? = some (.cells #[.int .i64 a1] 3 (0, 0))) := ⟨by rw [← hq_]; exact (ba BK345.out)⟩; have n2_ : Aside0 (w37.heap[gb346]? = some (.cells #[.int .i64 a2] 3 (0, 0))) := ⟨by rw [← hq_]; exact (ba BK346.out)⟩; have n3_ : Aside0 (w37.heap[gb347]? = some (.cells #[.int .i64 0, .slice none 0 0] 25 (0, 0))) := ⟨by rw [← hq_]; exact (ba BK347.out)⟩; have n4_ : Aside0 (Below w.heap.size w w37) := ⟨by rw [← hq_]; exact (hB HB)⟩; clear BK344 BK345 BK346 BK347 HB hq_; have BK344 := n0_; have BK345 := n1_; have BK346 := n2_; have BK347 := n3_; have HB := n4_; clear n0_ n1_ n2_ n3_ n4_)); have hnb41 := NB346_347.out; have hnc41 := NB347_346.out; have hcz42_0 : w37.cell? ⟨gb346, 0, none⟩ = some (.int .i64 a2) := bc_ BK346 0) | (go_at_call 26; (with_reducible refine (impl_in.calls a2 0 10000 false _ A8.out).mono ?_); rintro e w' ⟨rfl, ⟨nd, rfl⟩⟩; (try (rw [drewN_self w37]; generalize hq_ : World.drewN w37 _ = w37; have n0_ : Aside0 (w37.heap[gb344]? = some (.cells #[.int .i64 a0_0, .slice A0_1 l0_1.length c0_1] 25 (0, 0))) := ⟨by rw [← hq_]; exact (ba BK344.out)⟩; have n1_ : Aside0 (w37.heap[gb345]? = some (.cells #[.int .i64 a1] 3 (0, 0))) := ⟨by rw [← hq_]; exact (ba BK345.out)⟩; have n2_ : Aside0 (w37.heap[gb346]? = some (.cells #[.int .i64 a2] 3 (0, 0))) := ⟨by rw [← hq_]; exact (ba BK346.out)⟩; have n3_ : Aside0 (w37.heap[gb347]? = some (.cells #[.int .i64 0, .slice none 0 0] 25 (0, 0))) := ⟨by rw [← hq_]; exact (ba BK347.out)⟩; have n4_ : Aside0 (Below w.heap.size w w37) := ⟨by rw [← hq_]; exact (hB HB)⟩; clear BK344 BK345 BK346 BK347 HB hq_; have BK344 := n0_; have BK345 := n1_; have BK346 := n2_; have BK347 := n3_; have HB := n4_; clear n0_ n1_ n2_ n3_ n4_)); obtain ⟨hcz43_0, hcz43_1⟩ := bcs2_ BK347; have hfz43_0 := blk_frozen BK347.out 0; have hfz43_1 := blk_frozen BK347.out 1))
  refine bodyPost_ret (results_ct rfl _ _ gb347 25 #[.int .i64 0, .slice none 0 0] (0, 0) _ rfl (by (with_reducible repeat (first | refine blk_drewN ?_ _ | refine blk_drew ?_ | refine blk_alloc ?_ _)); refine blk_put (cs := #[.int .i64 0, .slice none 0 0]) ?_ 1 _ rfl; (with_reducible repeat (first | refine blk_drewN ?_ _ | refine blk_drew ?_ | refine blk_alloc ?_ _)); refine blk_put (cs := #[.int .i64 0, .slice none 0 0]) ?_ 0 _ rfl; (with_reducible repeat (first | refine blk_drewN ?_ _ | refine blk_drew ?_ | refine blk_alloc ?_ _)); exact BK347.out) Try.underlying25 rfl (by kernel_rfl)) rfl ?_
  exact ⟨_, rt_, by first | exact Kd.R_nil _ _ _ _ _ | exact Kd.N_nil _ _ _ _ _ | exact Kd.V_nil _ _ _ _ _ | exact Kd.Q_nil _ _ _ _ _ | exact Kd.S_nil _ _ _ _ _, hB HB⟩
 subst c9
 rw [if_pos rfl] at H
 replace H := Option.bind_eq_some_iff.mp H
 obtain ⟨⟨t351, t352⟩, A100, H⟩ := H
 replace H : (some (t351, t352, true)) = some (r1, r2, r3) := H
 have A10 := Aside0.mk A100
 clear A100
 simp only [Option.some.injEq, Prod.mk.injEq] at H
 obtain ⟨rfl, rfl, rfl⟩ := H
 go_enter Try.func12, Try.ntmps12
 go_wp2_with (first | ((with_reducible refine gate_dst (N := 3) rfl ?_); refine box_event ?hg (N := 3) ?hd (cs := #[.int .i64 a0_0, .slice A0_1 l0_1.length c0_1]) (t := 25) ?hr ?_; (case hd => rfl); (case hg => rfl); (case hr => first | (go_simp; done) | (go_simp; rfl)); intro gb344 hg w11 hbox hb; have BK344 := Aside0.mk (hbox); have GW344 := gw_ hg HB; have GE344 := gw_ hg HB; replace HB := bst_ HB hb; clear hb hbox hg) | ((with_reducible refine gate_dst (N := 4) rfl ?_); refine box_event ?hg (N := 4) ?hd (cs := #[.int .i64 a1]) (t := 3) ?hr ?_; (case hd => rfl); (case hg => rfl); (case hr => first | (go_simp; done) | (go_simp; rfl)); intro gb345 hg w12 hbox hb; have BK345 := Aside0.mk (hbox); have GW345 := gw_ hg HB; have GE345 := gw_ hg HB; have NB344_345 := nl_ hg BK344; have NB345_344 := ng_ hg BK344; replace BK344 := bb_ BK344 hb; replace HB := bst_ HB hb; clear hb hbox hg) | ((with_reducible refine gate_dst (N := 5) rfl ?_); refine box_event ?hg (N := 5) ?hd (cs := #[.int .i64 a2]) (t := 3) ?hr ?_; (case hd => rfl); (case hg => rfl); (case hr => first | (go_simp; done) | (go_simp; rfl)); intro gb346 hg w13 hbox hb; have BK346 := Aside0.mk (hbox); have GW346 := gw_ hg HB; have GE346 := gw_ hg HB; have NB344_346 := nl_ hg BK344; have NB346_344 := ng_ hg BK344; have NB345_346 := nl_ hg BK345; have NB346_345 := ng_ hg BK345; replace BK344 := bb_ BK344 hb; replace BK345 := bb_ BK345 hb; replace HB := bst_ HB hb; clear hb hbox hg) | ((with_reducible refine gate_dst (N := 6) rfl ?_); refine box_event ?hg (N := 6) ?hd (cs := #[.int .i64 0, .slice none 0 0]) (t := 25) ?hr ?_; (case hd => rfl); (case hg => rfl); (case hr => first | (go_simp; done) | (go_simp; rfl)); intro gb347 hg w14 hbox hb; have BK347 := Aside0.mk (hbox); have GW347 := gw_ hg HB; have GE347 := gw_ hg HB; have NB344_347 := nl_ hg BK344; have NB347_344 := ng_ hg BK344; have NB345_347 := nl_ hg BK345; have NB347_345 := ng_ hg BK345; have NB346_347 := nl_ hg BK346; have NB347_346 := ng_ hg BK346; replace BK344 := bb_ BK344 hb; replace BK345 := bb_ BK345 hb; replace BK346 := bb_ BK346 hb; replace HB := bst_ HB hb; clear hb hbox hg; have hnb15 := NB344_345.out; have hnc15 := NB345_344.out; have hnb16 := NB344_346.out; have hnc16 := NB346_344.out; have hnb17 := NB344_347.out; have hnc17 := NB347_344.out; obtain ⟨hcz18_0, hcz18_1⟩ := bcs2_ BK344) | (refine goesL_ (some 9) rfl rfl Try.func8 (by kernel_rfl) rfl #[.agg #[.int .i64 a0_0, .slice A0_1 l0_1.length c0_1]] rfl tm_ ?_; (with_reducible refine (impl_GoodTable.calls k a0_0 _ _ l0_1 true _ ?side1 ?side2 A4.out).mono ?_); (case side1 => exact cb_ HR0_1 HB); (case side2 => exact HC0_1.out); rintro e w19 ⟨rfl, hb⟩; refine ⟨_, rfl, ?_⟩; replace BK344 := bb_ BK344 hb; replace BK345 := bb_ BK345 hb; replace BK346 := bb_ BK346 hb; replace BK347 := bb_ BK347 hb; replace HB := bst_ HB hb; clear hb; have hnb20 := NB345_346.out; have hnc20 := NB346_345.out; have hnb21 := NB345_347.out; have hnc21 := NB347_345.out; have hcz22_0 : w19.cell? ⟨gb345, 0, none⟩ = some (.int .i64 a1) := bc_ BK345 0) | (go_at_call 26; (with_reducible refine (impl_in.calls a1 0 10000 true _ A6.out).mono ?_); rintro e w' ⟨rfl, ⟨nd, rfl⟩⟩; (try (rw [drewN_self w19]; generalize hq_ : World.drewN w19 _ = w19; have n0_ : Aside0 (w19.heap[gb344]? = some (.cells #[.int .i64 a0_0, .slice A0_1 l0_1.length c0_1] 25 (0, 0))) := ⟨by rw [← hq_]; exact (ba BK344.out)⟩; have n1_ : Aside0 (w19.heap[gb345]? = some (.cells #[.int .i64 a1] 3 (0, 0))) := ⟨by rw [← hq_]; exact (ba BK345.out)⟩; have n2_ : Aside0 (w19.heap[gb346]? = some (.cells #[.int .i64 a2] 3 (0, 0))) := ⟨by rw [← hq_]; exact (ba BK346.out)⟩; have n3_ : Aside0 (w19.heap[gb347]? = some (.cells #[.int .i64 0, .slice none 0 0] 25 (0, 0))) := ⟨by rw [← hq_]; exact (ba BK347.out)⟩; have n4_ : Aside0 (Below w.heap.size w w19) := ⟨by rw [← hq_]; exact (hB HB)⟩; clear BK344 BK345 BK346 BK347 HB hq_; have BK344 := n0_; have BK345 := n1_; have BK346 := n2_; have BK347 := n3_; have HB := n4_; clear n0_ n1_ n2_ n3_ n4_)); have hnb23 := NB346_347.out; have hnc23 := NB347_346.out; have hcz24_0 : w19.cell? ⟨gb346, 0, none⟩ = some (.int .i64 a2) := bc_ BK346 0) | (go_at_call 26; (with_reducible refine (impl_in.calls a2 0 10000 true _ A8.out).mono ?_); rintro e w' ⟨rfl, ⟨nd, rfl⟩⟩; (try (rw [drewN_self w19]; generalize hq_ : World.drewN w19 _ = w19; have n0_ : Aside0 (w19.heap[gb344]? = some (.cells #[.int .i64 a0_0, .slice A0_1 l0_1.length c0_1] 25 (0, 0))) := ⟨by rw [← hq_]; exact (ba BK344.out)⟩; have n1_ : Aside0 (w19.heap[gb345]? = some (.cells #[.int .i64 a1] 3 (0, 0))) := ⟨by rw [← hq_]; exact (ba BK345.out)⟩; have n2_ : Aside0 (w19.heap[gb346]? = some (.cells #[.int .i64 a2] 3 (0, 0))) := ⟨by rw [← hq_]; exact (ba BK346.out)⟩; have n3_ : Aside0 (w19.heap[gb347]? = some (.cells #[.int .i64 0, .slice none 0 0] 25 (0, 0))) := ⟨by rw [← hq_]; exact (ba BK347.out)⟩; have n4_ : Aside0 (Below w.heap.size w w19) := ⟨by rw [← hq_]; exact (hB HB)⟩; clear BK344 BK345 BK346 BK347 HB hq_; have BK344 := n0_; have BK345 := n1_; have BK346 := n2_; have BK347 := n3_; have HB := n4_; clear n0_ n1_ n2_ n3_ n4_)); obtain ⟨hcz25_0, hcz25_1⟩ := bcs2_ BK344) | (refine goesL_ (some 24) rfl rfl Try.func29 (by kernel_rfl) rfl #[.agg #[.int .i64 a0_0, .slice A0_1 l0_1.length c0_1], .func (.func 31) #[] #[.pointer (some ⟨gb345, 0, none⟩), .pointer (some ⟨gb346, 0, none⟩)]] rfl tm_ ?_; (with_reducible refine (impl_Table_kept.calls31 k a0_0 _ _ l0_1 (fun _ _ z => some (decide (wrap64 (a1 - a2) ≤ z))) gb345 gb346 t351 t352 _ ?side1 ?side2 (impl_DropOld.pred gb345 gb346 a1 a2 _ (ba BK345.out) (ba BK346.out)) A10.out).mono ?_); (case side1 => exact cb_ HR0_1 HB); (case side2 => exact HC0_1.out); rintro e w26 ⟨v353, rfl, ho0, hb⟩; refine ⟨_, rfl, ?_⟩; have HO354 := Aside0.mk (Kd.R_lower ho0 (below_size (hB HB))); replace BK344 := bb_ BK344 hb; replace BK345 := bb_ BK345 hb; replace BK346 := bb_ BK346 hb; replace BK347 := bb_ BK347 hb; replace HB := bst_ HB hb; clear hb ho0; obtain ⟨hcz27_0, hcz27_1⟩ := bcs2_ BK347; have hfz27_0 := blk_frozen BK347.out 0; have hfz27_1 := blk_frozen BK347.out 1; obtain ⟨Ao28, co28, eo28⟩ := Kd.R_slice HO354.out; subst eo28))
 refine bodyPost_ret (results_ct rfl _ _ gb347 25 #[.int .i64 t351, .slice Ao28 t352.length co28] (0, 0) _ rfl (by (with_reducible repeat (first | refine blk_drewN ?_ _ | refine blk_drew ?_ | refine blk_alloc ?_ _)); refine blk_put (cs := #[.int .i64 t351, .slice none 0 0]) ?_ 1 _ rfl; (with_reducible repeat (first | refine blk_drewN ?_ _ | refine blk_drew ?_ | refine blk_alloc ?_ _)); refine blk_put (cs := #[.int .i64 0, .slice none 0 0]) ?_ 0 _ rfl; (with_reducible repeat (first | refine blk_drewN ?_ _ | refine blk_drew ?_ | refine blk_alloc ?_ _)); exact BK347.out) Try.underlying25 rfl (by kernel_rfl)) rfl ?_
 exact ⟨_, rt_, by (with_reducible repeat (first | apply Kd.R_alloc | apply Kd.R_drewN | apply Kd.R_drew)); exact Kd.R_mono (fs2_ HO354.out BK347.out) (fun _ hk => trivial), hB HB⟩

def spec_DrawPortOf.f (k : Nat) (l0 : List Int) : Option (Int × (List (S27)) × Int) := (slices_xorshift_Next.f l0).bind fun bt356 => ((spec_l1Cur_learned.f k bt356.1 bt356.2.1 bt356.2.2).bind fun bt360 => ((spec_l1Cur_pick.f bt356.1 bt360.2.2.1 bt360.2.2.2 11).bind fun bt366 => (some (bt360.1, bt360.2.1, bt366.1))))
theorem spec_DrawPortOf.mono : ∀ a0 k, LeO (spec_DrawPortOf.f k a0) (spec_DrawPortOf.f (k + 1) a0) := by
 intro a0 k
 unfold spec_DrawPortOf.f
 repeat' first
   | (with_reducible exact spec_l1Cur_learned.mono _ _ _ _)
   | with_reducible first | exact LeO.refl _ | exact LeO.none _ | refine LeO.ite ?_ ?_ | refine LeO.bind ?_ fun _ => ?_
set_option maxHeartbeats 8000000 in
set_option maxRecDepth 100000 in
theorem spec_DrawPortOf.calls (k : Nat) (A0 : Option Addr) (c0 : Nat) (l0 : List Int) (r1 : Int) (r2 : List (S27)) (r3 : Int) (w : World) (hr0 : Kd.C (Kd.int .u8) w A0 l0.length l0) (hc0 : l0.length ≤ c0) (h : spec_DrawPortOf.f k l0 = some (r1, r2, r3)) :
  Calls Try.prog 13 #[.slice A0 l0.length c0] w fun e w' => ∃ v1_ : Value, e = .returned (.tuple #[.agg #[.int .i64 r1, v1_], .int .i64 r3]) ∧ Kd.R k27 27 w' w.heap.size (fun _ => True) v1_ r2 ∧ Below w.heap.size w w' := by
 have hu25 := Try.underlying25
 have HR0 := Aside0.mk hr0
 have HC0 := Aside0.mk hc0
 clear hr0 hc0
 have HB := Aside0.mk (Below.refl w.heap.size w)
 have H : ((slices_xorshift_Next.f l0).bind fun bt356 => ((spec_l1Cur_learned.f k bt356.1 bt356.2.1 bt356.2.2).bind fun bt360 => ((spec_l1Cur_pick.f bt356.1 bt360.2.2.1 bt360.2.2.2 11).bind fun bt366 => (some (bt360.1, bt360.2.1, bt366.1))))) = some (r1, r2, r3) := h
 clear h
 replace H := Option.bind_eq_some_iff.mp H
 obtain ⟨⟨t356, t357, t358⟩, A20, H⟩ := H
 replace H : ((spec_l1Cur_learned.f k t356 t357 t358).bind fun bt360 => ((spec_l1Cur_pick.f t356 bt360.2.2.1 bt360.2.2.2 11).bind fun bt366 => (some (bt360.1, bt360.2.1, bt366.1)))) = some (r1, r2, r3) := H
 have DE_A2 : Aside0 (t356 = l0 ∧ t357 = 0 ∧ t358 = 0) := ⟨by have h_ := A20; simp only [slices_xorshift_Next.f, Option.some.injEq, Prod.mk.injEq] at h_; exact ⟨h_.1.symm, h_.2.1.symm, h_.2.2.symm⟩⟩
 have A2 := Aside0.mk A20
 clear A20
 replace H := Option.bind_eq_some_iff.mp H
 obtain ⟨⟨t360, t361, t364, t365⟩, A30, H⟩ := H
 replace H : ((spec_l1Cur_pick.f t356 t364 t365 11).bind fun bt366 => (some (t360, t361, bt366.1))) = some (r1, r2, r3) := H
 have A3 := Aside0.mk A30
 clear A30
 replace H := Option.bind_eq_some_iff.mp H
 obtain ⟨⟨t366, t367, t368⟩, A40, H⟩ := H
 replace H : (some (t360, t361, t366)) = some (r1, r2, r3) := H
 have A4 := Aside0.mk A40
 clear A40
 simp only [Option.some.injEq, Prod.mk.injEq] at H
 obtain ⟨rfl, rfl, rfl⟩ := H
 go_enter Try.func13, Try.ntmps13
 go_wp2_with (first | ((with_reducible refine gate_dst (N := 2) rfl ?_); refine box_event ?hg (N := 2) ?hd (cs := #[.int .i64 0, .slice none 0 0]) (t := 25) ?hr ?_; (case hd => rfl); (case hg => rfl); (case hr => first | (go_simp; done) | (go_simp; rfl)); intro gb355 hg w5 hbox hb; have BK355 := Aside0.mk (hbox); have GW355 := gw_ hg HB; have GE355 := gw_ hg HB; replace HB := bst_ HB hb; clear hb hbox hg) | ((with_reducible refine gate_dst (N := 7) rfl ?_); refine box_event ?hg (N := 7) ?hd (cs := #[.slice A0 l0.length c0, .int .i64 0, .int .u64 0]) (t := 46) ?hr ?_; (case hd => rfl); (case hg => rfl); (case hr => first | (go_simp; done) | (go_simp; rfl)); intro g359 hg w6 hbox hb2; have hi : IsS46 w w6 g359 t356 t357 t358 := (by rw [DE_A2.out.1, DE_A2.out.2.1, DE_A2.out.2.2]; exact ⟨_, _, hbox, (gw_ hg HB).out, HR0.out⟩); have hb := (bst_ HB hb2).out; clear hg hbox; have HI359 := Aside0.mk (hi); have NB359_355 := Aside0.mk (IsS46.ne_blk hi (blk_below (g := gb355) (o := .cells #[.int .i64 0, .slice none 0 0] 25 (0, 0)) (ba BK355.out) hb2) (by decide)); have NB355_359 := Aside0.mk (Ne.symm (IsS46.ne_blk hi (blk_below (g := gb355) (o := .cells #[.int .i64 0, .slice none 0 0] 25 (0, 0)) (ba BK355.out) hb2) (by decide))); replace BK355 := Aside0.mk (blk_below (g := gb355) (o := .cells #[.int .i64 0, .slice none 0 0] 25 (0, 0)) (ba BK355.out) hb2); replace HB := Aside0.mk (hb); clear hb hb2 hi) | (refine goesL_ (some 9) rfl rfl Try.func19 (by kernel_rfl) rfl #[.pointer (some ⟨g359, 0, none⟩)] rfl tm_ ?_; (with_reducible refine (spec_l1Cur_learned.calls k g359 t356 t357 t358 t360 t361 t364 t365 w _ ?side1 ?side2 A3.out).mono ?_); (case side1 => repeat (first | (with_reducible first | exact HI359.out | apply IsS46.alloc | apply IsS46.drewN | apply IsS46.drew | apply IsS46.set_1 | apply IsS46.set_2 | refine IsS46.far ?_ NB359_355.out _) | exact HI359.out)); (case side2 => repeat (first | (with_reducible first | exact HB.out | apply below_alloc | apply pw_below_drewN | apply below_drew1 | refine below_set ?_ (IsS46.ge HI359.out) | refine below_set ?_ GE355.out) | exact HB.out)); rintro e w7 ⟨v362, rfl, ho0, hi, hb, hk⟩; refine ⟨_, rfl, ?_⟩; have HO363 := Aside0.mk (Kd.R_lower ho0 (below_size (by repeat (first | (with_reducible first | exact HB.out | apply below_alloc | apply pw_below_drewN | apply below_drew1 | refine below_set ?_ (IsS46.ge HI359.out) | refine below_set ?_ GE355.out) | exact HB.out)))); replace BK355 := Aside0.mk (KeepBut.blk hk (g' := gb355) (o := .cells #[.int .i64 0, .slice none 0 0] 25 (0, 0)) (ba BK355.out) NB355_359.out (by simp)); replace HB := Aside0.mk (hb); replace HI359 := Aside0.mk (hi); clear hb hk hi ho0) | (refine goesL_ (some 11) rfl rfl Try.func20 (by kernel_rfl) rfl #[.pointer (some ⟨g359, 0, none⟩), .int .i64 11] rfl tm_ ?_; (with_reducible refine (spec_l1Cur_pick.calls g359 t356 t364 t365 11 t366 t367 t368 w _ ?side1 ?side2 A4.out).mono ?_); (case side1 => repeat (first | (with_reducible first | exact HI359.out | apply IsS46.alloc | apply IsS46.drewN | apply IsS46.drew | apply IsS46.set_1 | apply IsS46.set_2 | refine IsS46.far ?_ NB359_355.out _) | exact HI359.out)); (case side2 => repeat (first | (with_reducible first | exact HB.out | apply below_alloc | apply pw_below_drewN | apply below_drew1 | refine below_set ?_ (IsS46.ge HI359.out) | refine below_set ?_ GE355.out) | exact HB.out)); rintro e w8 ⟨rfl, hi, hb, hk⟩; refine ⟨_, rfl, ?_⟩; replace BK355 := Aside0.mk (KeepBut.blk hk (g' := gb355) (o := .cells #[.int .i64 0, .slice none 0 0] 25 (0, 0)) (ba BK355.out) NB355_359.out (by simp)); replace HO363 := Aside0.mk (Kd.R_mono (Kd.R_keep (IsS46.apart (show IsS46 w _ g359 t356 t364 t365 from by repeat (first | (with_reducible first | exact HI359.out | apply IsS46.alloc | apply IsS46.drewN | apply IsS46.drew | apply IsS46.set_1 | apply IsS46.set_2 | refine IsS46.far ?_ NB359_355.out _) | exact HI359.out)) (ra HO363.out) (by decide)) hk (fun _ h => h.2)) (fun _ h => h.1)); replace HB := Aside0.mk (hb); replace HI359 := Aside0.mk (hi); clear hb hk hi; have hnb9 := NB355_359.out; have hnc9 := NB359_355.out; obtain ⟨hcz10_0, hcz10_1⟩ := bcs2_ BK355; have hfz10_0 := blk_frozen BK355.out 0; have hfz10_1 := blk_frozen BK355.out 1; obtain ⟨Ao11, co11, eo11⟩ := Kd.R_slice HO363.out; subst eo11))
 refine bodyPost_ret (results_ct rfl _ _ gb355 25 #[.int .i64 t360, .slice Ao11 t361.length co11] (0, 0) _ rfl (by (with_reducible repeat (first | refine blk_drewN ?_ _ | refine blk_drew ?_ | refine blk_alloc ?_ _)); refine blk_put (cs := #[.int .i64 t360, .slice none 0 0]) ?_ 1 _ rfl; (with_reducible repeat (first | refine blk_drewN ?_ _ | refine blk_drew ?_ | refine blk_alloc ?_ _)); refine blk_put (cs := #[.int .i64 0, .slice none 0 0]) ?_ 0 _ rfl; (with_reducible repeat (first | refine blk_drewN ?_ _ | refine blk_drew ?_ | refine blk_alloc ?_ _)); exact BK355.out) Try.underlying25 rfl (by kernel_rfl)) rfl ?_
 exact ⟨_, rt_, by (with_reducible repeat (first | apply Kd.R_alloc | apply Kd.R_drewN | apply Kd.R_drew)); exact Kd.R_mono (fs2_ HO363.out BK355.out) (fun _ hk => trivial), by repeat (first | (with_reducible first | exact HB.out | apply below_alloc | apply pw_below_drewN | apply below_drew1 | refine below_set ?_ (IsS46.ge HI359.out) | refine below_set ?_ GE355.out) | exact HB.out)⟩

def spec_l13Find.l0 : Nat → Int → List (S27) → Int → Int → Option (Int)
 | 0, _, _, _, _ => none
 | k + 1, x1, x8, x9, x10 => if x10 < x9 then (if 0 ≤ x10 then (if x10 < (x8.length : Int) then (if ((rd_T27 x8 x10).f0) = x1 then (some x10) else (spec_l13Find.l0 k x1 x8 x9 (wrap64 (x10 + 1)))) else (none)) else (none)) else (some (-1))
def spec_l13Find.f (k : Nat) (a0_0 : Int) (l0_1 : List (S27)) (a1 : Int) : Option (Int) := spec_l13Find.l0 k a1 l0_1 (l0_1.length : Int) 0
theorem spec_l13Find.mono_l : ∀ k, (∀ y0 y1 y2 y3, LeO (spec_l13Find.l0 k y0 y1 y2 y3) (spec_l13Find.l0 (k + 1) y0 y1 y2 y3))
 | 0 => fun _ _ _ _ r h => by simp [spec_l13Find.l0] at h
 | k + 1 => by
  have ih0 := spec_l13Find.mono_l k
  ·intro y0 y1 y2 y3
   unfold spec_l13Find.l0
   repeat' first
   | (with_reducible exact ih0 _ _ _ _)
   | with_reducible first | exact LeO.refl _ | exact LeO.none _ | refine LeO.ite ?_ ?_ | refine LeO.bind ?_ fun _ => ?_
theorem spec_l13Find.mono : ∀ a0 a1 a2 k, LeO (spec_l13Find.f k a0 a1 a2) (spec_l13Find.f (k + 1) a0 a1 a2) := by
 intro a0 a1 a2 k
 have ih0 := spec_l13Find.mono_l k
 unfold spec_l13Find.f
 repeat' first
   | (with_reducible exact ih0 _ _ _ _)
   | with_reducible first | exact LeO.refl _ | exact LeO.none _ | refine LeO.ite ?_ ?_ | refine LeO.bind ?_ fun _ => ?_
set_option maxHeartbeats 8000000 in
set_option maxRecDepth 100000 in
theorem spec_l13Find.calls (k : Nat) (a0_0 : Int) (A0_1 : Option Addr) (c0_1 : Nat) (l0_1 : List (S27)) (a1 : Int) (r : Int) (w : World) (hr0_1 : Kd.C k27 w A0_1 l0_1.length l0_1) (hc0_1 : l0_1.length ≤ c0_1) (h : spec_l13Find.f k a0_0 l0_1 a1 = some r) :
  Calls Try.prog 32 #[.agg #[.int .i64 a0_0, .slice A0_1 l0_1.length c0_1], .int .i64 a1] w fun e w' => e = .returned (.int .i64 r) ∧ Below w.heap.size w w' := by
 have hu25 := Try.underlying25
 have hu27 := Try.underlying27
 have HR0_1 := Aside0.mk hr0_1
 have HC0_1 := Aside0.mk hc0_1
 clear hr0_1 hc0_1
 have HB := Aside0.mk (Below.refl w.heap.size w)
 have H : (spec_l13Find.l0 k a1 l0_1 (l0_1.length : Int) 0) = some r := h
 clear h
 have H' := Aside0.mk H
 clear H
 go_enter Try.func32, Try.ntmps32
 go_wp2_with (first | ((with_reducible refine gate_dst (N := 2) rfl ?_); refine box_event ?hg (N := 2) ?hd (cs := #[.int .i64 a0_0, .slice A0_1 l0_1.length c0_1]) (t := 25) ?hr ?_; (case hd => rfl); (case hg => rfl); (case hr => first | (go_simp; done) | (go_simp; rfl)); intro gb369 hg w3 hbox hb; have BK369 := Aside0.mk (hbox); have GW369 := gw_ hg HB; have GE369 := gw_ hg HB; replace HB := bst_ HB hb; clear hb hbox hg; obtain ⟨hcz4_0, hcz4_1⟩ := bcs2_ BK369))
 go_loopg [10] k (fun kq v10 w' => ∃ (x10_1 : Int), v10 = .int .i64 x10_1 ∧ Aside0 (spec_l13Find.l0 kq a1 l0_1 (l0_1.length : Int) x10_1 = some r) ∧ Aside0 (kq ≤ k) ∧ Aside0 (w'.heap[gb369]? = some (.cells #[.int .i64 a0_0, (.slice A0_1 l0_1.length c0_1)] 25 (0, 0))) ∧ Aside0 (Below w.heap.size w w'))
 case atStart => exact ⟨(0), (by first | rfl | (simp; done) | (simp [*]; done)), H', ⟨Nat.le_refl _⟩, ⟨by (with_reducible repeat (first | refine blk_drewN ?_ _ | refine blk_drew ?_ | refine blk_alloc ?_ _)); exact BK369.out⟩, ⟨hB HB⟩⟩
 case round =>
  clear H'
  try clear hcz4_0
  try clear hcz4_1
  try clear hfz4_0
  try clear hfz4_1
  obtain ⟨x10_1, rfl, HA, HK1, BK369, HB⟩ := hrel
  cases gk with
  | zero => exact absurd HA.out (by simp [spec_l13Find.l0])
  | succ k1 =>
   have H := HA.out
   clear HA
   simp only [spec_l13Find.l0] at H
   by_cases c5 : x10_1 < (l0_1.length : Int)
   rotate_left
   ·rw [if_neg c5] at H
    have c5b0 : decide (x10_1 < (l0_1.length : Int)) = false := decide_eq_false c5
    clear c5
    obtain rfl := Option.some.inj H
    go_wp2
    go_ret
    exact ⟨rt_, hB HB⟩
   rw [if_pos c5] at H
   have c5b0 : decide (x10_1 < (l0_1.length : Int)) = true := decide_eq_true c5
   clear c5
   by_cases c6 : 0 ≤ x10_1
   rotate_left
   ·rw [if_neg c6] at H
    exact absurd H (by simp)
   rw [if_pos c6] at H
   have c6b0 : decide (0 ≤ x10_1) = true := decide_eq_true c6
   clear c6
   by_cases c7 : x10_1 < (l0_1.length : Int)
   rotate_left
   ·rw [if_neg c7] at H
    exact absurd H (by simp)
   rw [if_pos c7] at H
   have c7b0 : decide (x10_1 < (l0_1.length : Int)) = true := decide_eq_true c7
   clear c7
   by_cases c8 : ((rd_T27 l0_1 x10_1).f0) = a1
   ·rw [if_pos c8] at H
    have c8b0 : (((rd_T27 l0_1 x10_1).f0) == a1) = true := beq_iff_eq.mpr c8
    have c8b1 : (((rd_T27 l0_1 x10_1).f0) != a1) = false := bne_eq_false_iff_eq.mpr c8
    clear c8
    obtain rfl := Option.some.inj H
    have p370 : 0 ≤ (x10_1 : Int) := od_
    have q370 : x10_1 < (l0_1.length : Int) := od_
    obtain ⟨ad370, e370, hx370_0, hx370_1, hx370_2⟩ := at_T27 HR0_1.out x10_1 p370 q370
    cases e370
    replace hx370_0 := hc_ HB hx370_0
    replace hx370_1 := hc_ HB hx370_1
    replace hx370_2 := hc_ HB hx370_2
    replace p370 := eq_true p370
    replace q370 := eq_true q370
    go_wp2_with (first | ((with_reducible refine gate_dst (N := 6) rfl ?_); refine box_event ?hg (N := 6) ?hd (cs := #[.int .i64 0, .int .i64 0, .int .i64 0]) (t := 27) ?hr ?_; (case hd => rfl); (case hg => rfl); (case hr => first | (go_simp; done) | (go_simp; rfl)); intro gb371 hg w9 hbox hb; have BK371 := Aside0.mk (hbox); have GW371 := gw_ hg HB; have GE371 := gw_ hg HB; have NB369_371 := nl_ hg BK369; have NB371_369 := ng_ hg BK369; replace BK369 := bb_ BK369 hb; replace HB := bst_ HB hb; clear hb hbox hg; have hnb10 := NB371_369.out; have hnc10 := NB369_371.out; obtain ⟨hcz11_0, hcz11_1, hcz11_2⟩ := bcs3_ BK371; have hfz11_0 := blk_frozen BK371.out 0; have hfz11_1 := blk_frozen BK371.out 1; have hfz11_2 := blk_frozen BK371.out 2))
    go_ret
    exact ⟨rt_, hB HB⟩
   rw [if_neg c8] at H
   have c8b0 : (((rd_T27 l0_1 x10_1).f0) == a1) = false := beq_eq_false_iff_ne.mpr c8
   have c8b1 : (((rd_T27 l0_1 x10_1).f0) != a1) = true := bne_iff_ne.mpr c8
   have H' := Aside0.mk H
   clear H
   have p370 : 0 ≤ (x10_1 : Int) := od_
   have q370 : x10_1 < (l0_1.length : Int) := od_
   obtain ⟨ad370, e370, hx370_0, hx370_1, hx370_2⟩ := at_T27 HR0_1.out x10_1 p370 q370
   cases e370
   replace hx370_0 := hc_ HB hx370_0
   replace hx370_1 := hc_ HB hx370_1
   replace hx370_2 := hc_ HB hx370_2
   replace p370 := eq_true p370
   replace q370 := eq_true q370
   go_wp2_with (first | ((with_reducible refine gate_dst (N := 6) rfl ?_); refine box_event ?hg (N := 6) ?hd (cs := #[.int .i64 0, .int .i64 0, .int .i64 0]) (t := 27) ?hr ?_; (case hd => rfl); (case hg => rfl); (case hr => first | (go_simp; done) | (go_simp; rfl)); intro gb371 hg w12 hbox hb; have BK371 := Aside0.mk (hbox); have GW371 := gw_ hg HB; have GE371 := gw_ hg HB; have NB369_371 := nl_ hg BK369; have NB371_369 := ng_ hg BK369; replace BK369 := bb_ BK369 hb; replace HB := bst_ HB hb; clear hb hbox hg; have hnb13 := NB371_369.out; have hnc13 := NB369_371.out; obtain ⟨hcz14_0, hcz14_1, hcz14_2⟩ := bcs3_ BK371; have hfz14_0 := blk_frozen BK371.out 0; have hfz14_1 := blk_frozen BK371.out 1; have hfz14_2 := blk_frozen BK371.out 2))
   go_roundg k1
   case measure => have := HK1.out; omega
   case rel => exact ⟨(wrap64 (x10_1 + 1)), (by first | rfl | (simp; done) | (simp [*]; done)), H', ⟨by have := HK1.out; omega⟩, ⟨by (with_reducible repeat (first | refine blk_drewN ?_ _ | refine blk_drew ?_ | refine blk_alloc ?_ _)); refine blk_far ?_ NB369_371.out _; (with_reducible repeat (first | refine blk_drewN ?_ _ | refine blk_drew ?_ | refine blk_alloc ?_ _)); refine blk_far ?_ NB369_371.out _; (with_reducible repeat (first | refine blk_drewN ?_ _ | refine blk_drew ?_ | refine blk_alloc ?_ _)); refine blk_far ?_ NB369_371.out _; (with_reducible repeat (first | refine blk_drewN ?_ _ | refine blk_drew ?_ | refine blk_alloc ?_ _)); exact BK369.out⟩, ⟨hB HB⟩⟩

def spec_PortOf.f (k : Nat) (a0_0 : Int) (l0_1 : List (S27)) (a1 : Int) : Option (Int × Bool) := (spec_l13Find.f k a0_0 l0_1 a1).bind fun t373 => ((spec_GoodTable.f k a0_0 l0_1).bind fun t374 => (if t374 = true then (if t373 < 0 then (some (0, false)) else (if 0 ≤ t373 then (if t373 < (l0_1.length : Int) then (some ((rd_T27 l0_1 t373).f1, true)) else (none)) else (none))) else (some (0, false))))
theorem spec_PortOf.mono : ∀ a0 a1 a2 k, LeO (spec_PortOf.f k a0 a1 a2) (spec_PortOf.f (k + 1) a0 a1 a2) := by
 intro a0 a1 a2 k
 unfold spec_PortOf.f
 repeat' first
   | (with_reducible exact spec_GoodTable.mono _ _ _)
   | (with_reducible exact spec_l13Find.mono _ _ _ _)
   | with_reducible first | exact LeO.refl _ | exact LeO.none _ | refine LeO.ite ?_ ?_ | refine LeO.bind ?_ fun _ => ?_
set_option maxHeartbeats 8000000 in
set_option maxRecDepth 100000 in
theorem spec_PortOf.calls (k : Nat) (a0_0 : Int) (A0_1 : Option Addr) (c0_1 : Nat) (l0_1 : List (S27)) (a1 : Int) (r1 : Int) (r2 : Bool) (w : World) (hr0_1 : Kd.C k27 w A0_1 l0_1.length l0_1) (hc0_1 : l0_1.length ≤ c0_1) (h : spec_PortOf.f k a0_0 l0_1 a1 = some (r1, r2)) :
  Calls Try.prog 14 #[.agg #[.int .i64 a0_0, .slice A0_1 l0_1.length c0_1], .int .i64 a1] w fun e w' => e = .returned (.tuple #[.int .i64 r1, .bool r2]) ∧ Below w.heap.size w w' := by
 have hu25 := Try.underlying25
 have HR0_1 := Aside0.mk hr0_1
 have HC0_1 := Aside0.mk hc0_1
 clear hr0_1 hc0_1
 have HB := Aside0.mk (Below.refl w.heap.size w)
 have H : ((spec_l13Find.f k a0_0 l0_1 a1).bind fun t373 => ((spec_GoodTable.f k a0_0 l0_1).bind fun t374 => (if t374 = true then (if t373 < 0 then (some (0, false)) else (if 0 ≤ t373 then (if t373 < (l0_1.length : Int) then (some ((rd_T27 l0_1 t373).f1, true)) else (none)) else (none))) else (some (0, false))))) = some (r1, r2) := h
 clear h
 replace H := Option.bind_eq_some_iff.mp H
 obtain ⟨t373, A30, H⟩ := H
 replace H : ((spec_GoodTable.f k a0_0 l0_1).bind fun t374 => (if t374 = true then (if t373 < 0 then (some (0, false)) else (if 0 ≤ t373 then (if t373 < (l0_1.length : Int) then (some ((rd_T27 l0_1 t373).f1, true)) else (none)) else (none))) else (some (0, false)))) = some (r1, r2) := H
 have A3 := Aside0.mk A30
 clear A30
 replace H := Option.bind_eq_some_iff.mp H
 obtain ⟨t374, A40, H⟩ := H
 replace H : (if t374 = true then (if t373 < 0 then (some (0, false)) else (if 0 ≤ t373 then (if t373 < (l0_1.length : Int) then (some ((rd_T27 l0_1 t373).f1, true)) else (none)) else (none))) else (some (0, false))) = some (r1, r2) := H
 have A4 := Aside0.mk A40
 clear A40
 by_cases c5 : t374 = true
 rotate_left
 ·replace c5 := Bool.eq_false_iff.mpr c5
  subst c5
  rw [if_neg (show ¬ (false = true) by decide)] at H
  simp only [Option.some.injEq, Prod.mk.injEq] at H
  obtain ⟨rfl, rfl⟩ := H
  go_enter Try.func14, Try.ntmps14
  go_wp2_with (first | ((with_reducible refine gate_dst (N := 2) rfl ?_); refine box_event ?hg (N := 2) ?hd (cs := #[.int .i64 a0_0, .slice A0_1 l0_1.length c0_1]) (t := 25) ?hr ?_; (case hd => rfl); (case hg => rfl); (case hr => first | (go_simp; done) | (go_simp; rfl)); intro gb372 hg w20 hbox hb; have BK372 := Aside0.mk (hbox); have GW372 := gw_ hg HB; have GE372 := gw_ hg HB; replace HB := bst_ HB hb; clear hb hbox hg; obtain ⟨hcz21_0, hcz21_1⟩ := bcs2_ BK372) | (refine goesL_ (some 9) rfl rfl Try.func32 (by kernel_rfl) rfl #[.agg #[.int .i64 a0_0, .slice A0_1 l0_1.length c0_1], .int .i64 a1] rfl tm_ ?_; (with_reducible refine (spec_l13Find.calls k a0_0 _ _ l0_1 a1 t373 _ ?side1 ?side2 A3.out).mono ?_); (case side1 => exact cb_ HR0_1 HB); (case side2 => exact HC0_1.out); rintro e w22 ⟨rfl, hb⟩; refine ⟨_, rfl, ?_⟩; replace BK372 := bb_ BK372 hb; replace HB := bst_ HB hb; clear hb; obtain ⟨hcz23_0, hcz23_1⟩ := bcs2_ BK372) | (refine goesL_ (some 11) rfl rfl Try.func9 (by kernel_rfl) rfl #[.agg #[.int .i64 a0_0, .slice A0_1 l0_1.length c0_1]] rfl tm_ ?_; (with_reducible refine (spec_GoodTable.calls k a0_0 _ _ l0_1 false _ ?side1 ?side2 A4.out).mono ?_); (case side1 => exact cb_ HR0_1 HB); (case side2 => exact HC0_1.out); rintro e w24 ⟨rfl, hb⟩; refine ⟨_, rfl, ?_⟩; replace BK372 := bb_ BK372 hb; replace HB := bst_ HB hb; clear hb))
  go_ret2
  exact ⟨rt_, hB HB⟩
 subst c5
 rw [if_pos rfl] at H
 by_cases c6 : t373 < 0
 ·rw [if_pos c6] at H
  have c6b0 : decide (t373 < 0) = true := decide_eq_true c6
  clear c6
  simp only [Option.some.injEq, Prod.mk.injEq] at H
  obtain ⟨rfl, rfl⟩ := H
  go_enter Try.func14, Try.ntmps14
  go_wp2_with (first | ((with_reducible refine gate_dst (N := 2) rfl ?_); refine box_event ?hg (N := 2) ?hd (cs := #[.int .i64 a0_0, .slice A0_1 l0_1.length c0_1]) (t := 25) ?hr ?_; (case hd => rfl); (case hg => rfl); (case hr => first | (go_simp; done) | (go_simp; rfl)); intro gb372 hg w7 hbox hb; have BK372 := Aside0.mk (hbox); have GW372 := gw_ hg HB; have GE372 := gw_ hg HB; replace HB := bst_ HB hb; clear hb hbox hg; obtain ⟨hcz8_0, hcz8_1⟩ := bcs2_ BK372) | (refine goesL_ (some 9) rfl rfl Try.func32 (by kernel_rfl) rfl #[.agg #[.int .i64 a0_0, .slice A0_1 l0_1.length c0_1], .int .i64 a1] rfl tm_ ?_; (with_reducible refine (spec_l13Find.calls k a0_0 _ _ l0_1 a1 t373 _ ?side1 ?side2 A3.out).mono ?_); (case side1 => exact cb_ HR0_1 HB); (case side2 => exact HC0_1.out); rintro e w9 ⟨rfl, hb⟩; refine ⟨_, rfl, ?_⟩; replace BK372 := bb_ BK372 hb; replace HB := bst_ HB hb; clear hb; obtain ⟨hcz10_0, hcz10_1⟩ := bcs2_ BK372) | (refine goesL_ (some 11) rfl rfl Try.func9 (by kernel_rfl) rfl #[.agg #[.int .i64 a0_0, .slice A0_1 l0_1.length c0_1]] rfl tm_ ?_; (with_reducible refine (spec_GoodTable.calls k a0_0 _ _ l0_1 true _ ?side1 ?side2 A4.out).mono ?_); (case side1 => exact cb_ HR0_1 HB); (case side2 => exact HC0_1.out); rintro e w11 ⟨rfl, hb⟩; refine ⟨_, rfl, ?_⟩; replace BK372 := bb_ BK372 hb; replace HB := bst_ HB hb; clear hb))
  go_ret2
  exact ⟨rt_, hB HB⟩
 rw [if_neg c6] at H
 have c6b0 : decide (t373 < 0) = false := decide_eq_false c6
 clear c6
 by_cases c12 : 0 ≤ t373
 rotate_left
 ·rw [if_neg c12] at H
  exact absurd H (by simp)
 rw [if_pos c12] at H
 have c12b0 : decide (0 ≤ t373) = true := decide_eq_true c12
 clear c12
 by_cases c13 : t373 < (l0_1.length : Int)
 rotate_left
 ·rw [if_neg c13] at H
  exact absurd H (by simp)
 rw [if_pos c13] at H
 have c13b0 : decide (t373 < (l0_1.length : Int)) = true := decide_eq_true c13
 clear c13
 simp only [Option.some.injEq, Prod.mk.injEq] at H
 obtain ⟨rfl, rfl⟩ := H
 go_enter Try.func14, Try.ntmps14
 go_wp2_with (first | ((with_reducible refine gate_dst (N := 2) rfl ?_); refine box_event ?hg (N := 2) ?hd (cs := #[.int .i64 a0_0, .slice A0_1 l0_1.length c0_1]) (t := 25) ?hr ?_; (case hd => rfl); (case hg => rfl); (case hr => first | (go_simp; done) | (go_simp; rfl)); intro gb372 hg w14 hbox hb; have BK372 := Aside0.mk (hbox); have GW372 := gw_ hg HB; have GE372 := gw_ hg HB; replace HB := bst_ HB hb; clear hb hbox hg; obtain ⟨hcz15_0, hcz15_1⟩ := bcs2_ BK372) | (refine goesL_ (some 9) rfl rfl Try.func32 (by kernel_rfl) rfl #[.agg #[.int .i64 a0_0, .slice A0_1 l0_1.length c0_1], .int .i64 a1] rfl tm_ ?_; (with_reducible refine (spec_l13Find.calls k a0_0 _ _ l0_1 a1 t373 _ ?side1 ?side2 A3.out).mono ?_); (case side1 => exact cb_ HR0_1 HB); (case side2 => exact HC0_1.out); rintro e w16 ⟨rfl, hb⟩; refine ⟨_, rfl, ?_⟩; replace BK372 := bb_ BK372 hb; replace HB := bst_ HB hb; clear hb; obtain ⟨hcz17_0, hcz17_1⟩ := bcs2_ BK372) | (refine goesL_ (some 11) rfl rfl Try.func9 (by kernel_rfl) rfl #[.agg #[.int .i64 a0_0, .slice A0_1 l0_1.length c0_1]] rfl tm_ ?_; (with_reducible refine (spec_GoodTable.calls k a0_0 _ _ l0_1 true _ ?side1 ?side2 A4.out).mono ?_); (case side1 => exact cb_ HR0_1 HB); (case side2 => exact HC0_1.out); rintro e w18 ⟨rfl, hb⟩; refine ⟨_, rfl, ?_⟩; replace BK372 := bb_ BK372 hb; replace HB := bst_ HB hb; clear hb; obtain ⟨hcz19_0, hcz19_1⟩ := bcs2_ BK372; have p375 : 0 ≤ (t373 : Int) := od_; have q375 : t373 < (l0_1.length : Int) := od_; obtain ⟨ad375, e375, hx375_0, hx375_1, hx375_2⟩ := at_T27 HR0_1.out t373 p375 q375; cases e375; replace hx375_0 := hc_ HB hx375_0; replace hx375_1 := hc_ HB hx375_1; replace hx375_2 := hc_ HB hx375_2; replace p375 := eq_true p375; replace q375 := eq_true q375))
 go_ret2
 exact ⟨rt_, hB HB⟩

def spec_DrawDropOld.f (k : Nat) (l0 : List Int) : Option (Int × (List (S27)) × Int × Int) := (slices_xorshift_Next.f l0).bind fun bt377 => ((spec_l1Cur_learned.f k bt377.1 bt377.2.1 bt377.2.2).bind fun bt381 => ((spec_l1Cur_among.f bt377.1 bt381.2.2.1 bt381.2.2.2 (([(-1), 0, 20, 40, 10000, 10001] : List Int))).bind fun bt390 => ((spec_l1Cur_among.f bt377.1 bt390.2.1 bt390.2.2 (([(-1), 0, 5, 10, 10000] : List Int))).bind fun bt396 => (some (bt381.1, bt381.2.1, bt390.1, bt396.1)))))
theorem spec_DrawDropOld.mono : ∀ a0 k, LeO (spec_DrawDropOld.f k a0) (spec_DrawDropOld.f (k + 1) a0) := by
 intro a0 k
 unfold spec_DrawDropOld.f
 repeat' first
   | (with_reducible exact spec_l1Cur_learned.mono _ _ _ _)
   | with_reducible first | exact LeO.refl _ | exact LeO.none _ | refine LeO.ite ?_ ?_ | refine LeO.bind ?_ fun _ => ?_
set_option maxHeartbeats 8000000 in
set_option maxRecDepth 100000 in
theorem spec_DrawDropOld.calls (k : Nat) (A0 : Option Addr) (c0 : Nat) (l0 : List Int) (r1 : Int) (r2 : List (S27)) (r3 : Int) (r4 : Int) (w : World) (hr0 : Kd.C (Kd.int .u8) w A0 l0.length l0) (hc0 : l0.length ≤ c0) (h : spec_DrawDropOld.f k l0 = some (r1, r2, r3, r4)) :
  Calls Try.prog 15 #[.slice A0 l0.length c0] w fun e w' => ∃ v1_ : Value, e = .returned (.tuple #[.agg #[.int .i64 r1, v1_], .int .i64 r3, .int .i64 r4]) ∧ Kd.R k27 27 w' w.heap.size (fun _ => True) v1_ r2 ∧ Below w.heap.size w w' := by
 have hu25 := Try.underlying25
 have HR0 := Aside0.mk hr0
 have HC0 := Aside0.mk hc0
 clear hr0 hc0
 have HB := Aside0.mk (Below.refl w.heap.size w)
 have H : ((slices_xorshift_Next.f l0).bind fun bt377 => ((spec_l1Cur_learned.f k bt377.1 bt377.2.1 bt377.2.2).bind fun bt381 => ((spec_l1Cur_among.f bt377.1 bt381.2.2.1 bt381.2.2.2 (([(-1), 0, 20, 40, 10000, 10001] : List Int))).bind fun bt390 => ((spec_l1Cur_among.f bt377.1 bt390.2.1 bt390.2.2 (([(-1), 0, 5, 10, 10000] : List Int))).bind fun bt396 => (some (bt381.1, bt381.2.1, bt390.1, bt396.1)))))) = some (r1, r2, r3, r4) := h
 clear h
 replace H := Option.bind_eq_some_iff.mp H
 obtain ⟨⟨t377, t378, t379⟩, A20, H⟩ := H
 replace H : ((spec_l1Cur_learned.f k t377 t378 t379).bind fun bt381 => ((spec_l1Cur_among.f t377 bt381.2.2.1 bt381.2.2.2 (([(-1), 0, 20, 40, 10000, 10001] : List Int))).bind fun bt390 => ((spec_l1Cur_among.f t377 bt390.2.1 bt390.2.2 (([(-1), 0, 5, 10, 10000] : List Int))).bind fun bt396 => (some (bt381.1, bt381.2.1, bt390.1, bt396.1))))) = some (r1, r2, r3, r4) := H
 have DE_A2 : Aside0 (t377 = l0 ∧ t378 = 0 ∧ t379 = 0) := ⟨by have h_ := A20; simp only [slices_xorshift_Next.f, Option.some.injEq, Prod.mk.injEq] at h_; exact ⟨h_.1.symm, h_.2.1.symm, h_.2.2.symm⟩⟩
 have A2 := Aside0.mk A20
 clear A20
 replace H := Option.bind_eq_some_iff.mp H
 obtain ⟨⟨t381, t382, t385, t386⟩, A30, H⟩ := H
 replace H : ((spec_l1Cur_among.f t377 t385 t386 (([(-1), 0, 20, 40, 10000, 10001] : List Int))).bind fun bt390 => ((spec_l1Cur_among.f t377 bt390.2.1 bt390.2.2 (([(-1), 0, 5, 10, 10000] : List Int))).bind fun bt396 => (some (t381, t382, bt390.1, bt396.1)))) = some (r1, r2, r3, r4) := H
 have A3 := Aside0.mk A30
 clear A30
 obtain ⟨y387, hy387⟩ : ∃ y_ : List Int, y_ = (([(-1), 0, 20, 40, 10000, 10001] : List Int)) := ⟨_, rfl⟩
 replace H : ((spec_l1Cur_among.f t377 t385 t386 y387).bind fun bt390 => ((spec_l1Cur_among.f t377 bt390.2.1 bt390.2.2 (([(-1), 0, 5, 10, 10000] : List Int))).bind fun bt396 => (some (t381, t382, bt390.1, bt396.1)))) = some (r1, r2, r3, r4) := by first | (rw [hy387]; with_reducible exact H) | (have H2_ := (Option.bind_some _ _).symm.trans H; rw [hy387]; with_reducible exact H2_) | (have H2_ := (Option.bind_some _ _).symm.trans H; with_reducible exact H2_) | with_reducible exact H | (rw [hy387]; exact H) | exact H
 have Ny387 := Aside0.mk hy387
 clear hy387
 replace H := Option.bind_eq_some_iff.mp H
 obtain ⟨⟨t390, t391, t392⟩, A40, H⟩ := H
 replace H : ((spec_l1Cur_among.f t377 t391 t392 (([(-1), 0, 5, 10, 10000] : List Int))).bind fun bt396 => (some (t381, t382, t390, bt396.1))) = some (r1, r2, r3, r4) := H
 have A4 := Aside0.mk A40
 clear A40
 obtain ⟨y393, hy393⟩ : ∃ y_ : List Int, y_ = (([(-1), 0, 5, 10, 10000] : List Int)) := ⟨_, rfl⟩
 replace H : ((spec_l1Cur_among.f t377 t391 t392 y393).bind fun bt396 => (some (t381, t382, t390, bt396.1))) = some (r1, r2, r3, r4) := by first | (rw [hy393]; with_reducible exact H) | (have H2_ := (Option.bind_some _ _).symm.trans H; rw [hy393]; with_reducible exact H2_) | (have H2_ := (Option.bind_some _ _).symm.trans H; with_reducible exact H2_) | with_reducible exact H | (rw [hy393]; exact H) | exact H
 have Ny393 := Aside0.mk hy393
 clear hy393
 replace H := Option.bind_eq_some_iff.mp H
 obtain ⟨⟨t396, t397, t398⟩, A50, H⟩ := H
 replace H : (some (t381, t382, t390, t396)) = some (r1, r2, r3, r4) := H
 have A5 := Aside0.mk A50
 clear A50
 simp only [Option.some.injEq, Prod.mk.injEq] at H
 obtain ⟨rfl, rfl, rfl, rfl⟩ := H
 go_enter Try.func15, Try.ntmps15
 go_wp2_with (first | ((with_reducible refine gate_dst (N := 2) rfl ?_); refine box_event ?hg (N := 2) ?hd (cs := #[.int .i64 0, .slice none 0 0]) (t := 25) ?hr ?_; (case hd => rfl); (case hg => rfl); (case hr => first | (go_simp; done) | (go_simp; rfl)); intro gb376 hg w6 hbox hb; have BK376 := Aside0.mk (hbox); have GW376 := gw_ hg HB; have GE376 := gw_ hg HB; replace HB := bst_ HB hb; clear hb hbox hg) | ((with_reducible refine gate_dst (N := 8) rfl ?_); refine box_event ?hg (N := 8) ?hd (cs := #[.slice A0 l0.length c0, .int .i64 0, .int .u64 0]) (t := 46) ?hr ?_; (case hd => rfl); (case hg => rfl); (case hr => first | (go_simp; done) | (go_simp; rfl)); intro g380 hg w7 hbox hb2; have hi : IsS46 w w7 g380 t377 t378 t379 := (by rw [DE_A2.out.1, DE_A2.out.2.1, DE_A2.out.2.2]; exact ⟨_, _, hbox, (gw_ hg HB).out, HR0.out⟩); have hb := (bst_ HB hb2).out; clear hg hbox; have HI380 := Aside0.mk (hi); have NB380_376 := Aside0.mk (IsS46.ne_blk hi (blk_below (g := gb376) (o := .cells #[.int .i64 0, .slice none 0 0] 25 (0, 0)) (ba BK376.out) hb2) (by decide)); have NB376_380 := Aside0.mk (Ne.symm (IsS46.ne_blk hi (blk_below (g := gb376) (o := .cells #[.int .i64 0, .slice none 0 0] 25 (0, 0)) (ba BK376.out) hb2) (by decide))); replace BK376 := Aside0.mk (blk_below (g := gb376) (o := .cells #[.int .i64 0, .slice none 0 0] 25 (0, 0)) (ba BK376.out) hb2); replace HB := Aside0.mk (hb); clear hb hb2 hi) | (refine goesL_ (some 10) rfl rfl Try.func19 (by kernel_rfl) rfl #[.pointer (some ⟨g380, 0, none⟩)] rfl tm_ ?_; (with_reducible refine (spec_l1Cur_learned.calls k g380 t377 t378 t379 t381 t382 t385 t386 w _ ?side1 ?side2 A3.out).mono ?_); (case side1 => repeat (first | (with_reducible first | exact HI380.out | apply IsS46.alloc | apply IsS46.drewN | apply IsS46.drew | apply IsS46.set_1 | apply IsS46.set_2 | refine IsS46.far ?_ NB380_376.out _) | exact HI380.out)); (case side2 => repeat (first | (with_reducible first | exact HB.out | apply below_alloc | apply pw_below_drewN | apply below_drew1 | refine below_set ?_ (IsS46.ge HI380.out) | refine below_set ?_ GE376.out) | exact HB.out)); rintro e w8 ⟨v383, rfl, ho0, hi, hb, hk⟩; refine ⟨_, rfl, ?_⟩; have HO384 := Aside0.mk (Kd.R_lower ho0 (below_size (by repeat (first | (with_reducible first | exact HB.out | apply below_alloc | apply pw_below_drewN | apply below_drew1 | refine below_set ?_ (IsS46.ge HI380.out) | refine below_set ?_ GE376.out) | exact HB.out)))); replace BK376 := Aside0.mk (KeepBut.blk hk (g' := gb376) (o := .cells #[.int .i64 0, .slice none 0 0] 25 (0, 0)) (ba BK376.out) NB376_380.out (by simp)); replace HB := Aside0.mk (hb); replace HI380 := Aside0.mk (hi); clear hb hk hi ho0) | ((with_reducible refine gate_dst (N := 12) rfl ?_); refine Kd.R_lit (Kd.int .i64) _ 3 ?hg (N := 12) ?hd (xs := ([(-1), 0, 20, 40, 10000, 10001] : List Int)) (inner := [.int .i64 (-1), .int .i64 0, .int .i64 20, .int .i64 40, .int .i64 10000, .int .i64 10001]) (ok := fun _ => True) (okp := fun _ => True) ?hr ?hp (fun _ hk => hk) trivial (Below.refl _ _) (Nat.le_refl _) (by simp) ?_; (case hd => rfl); (case hg => rfl); (case hr => first | (go_simp; done) | (go_simp; rfl)); (case hp => exact (Reps.one (show Kd.M (Kd.int .i64) _ _ _ (-1) [.int .i64 (-1)] from rfl) (Reps.one (show Kd.M (Kd.int .i64) _ _ _ 0 [.int .i64 0] from rfl) (Reps.one (show Kd.M (Kd.int .i64) _ _ _ 20 [.int .i64 20] from rfl) (Reps.one (show Kd.M (Kd.int .i64) _ _ _ 40 [.int .i64 40] from rfl) (Reps.one (show Kd.M (Kd.int .i64) _ _ _ 10000 [.int .i64 10000] from rfl) (Reps.one (show Kd.M (Kd.int .i64) _ _ _ 10001 [.int .i64 10001] from rfl) (Reps.none _ _)))))))); intro v388 w9 ho10 hb hg_ hnew_; clear hg_ hnew_; (first | rw [← Ny387.out] at ho10 | (simp only [Int.reduceToNat] at ho10; rw [← Ny387.out] at ho10)); have HO389 := Aside0.mk (Kd.R_lower ho10 (below_size (by repeat (first | (with_reducible first | exact HB.out | apply below_alloc | apply pw_below_drewN | apply below_drew1 | refine below_set ?_ (IsS46.ge HI380.out) | refine below_set ?_ GE376.out) | exact HB.out)))); replace HO384 := rb_ HO384 hb; replace BK376 := bb_ BK376 hb; replace HB := Aside0.mk (below_step (by repeat (first | (with_reducible first | exact HB.out | apply below_alloc | apply pw_below_drewN | apply below_drew1 | refine below_set ?_ (IsS46.ge HI380.out) | refine below_set ?_ GE376.out) | exact HB.out)) hb); replace HI380 := Aside0.mk (IsS46.below (by repeat (first | (with_reducible first | exact HI380.out | apply IsS46.alloc | apply IsS46.drewN | apply IsS46.drew | apply IsS46.set_1 | apply IsS46.set_2 | refine IsS46.far ?_ NB380_376.out _) | exact HI380.out)) hb); clear hb ho10; obtain ⟨Ao11, co11, eo11⟩ := Kd.R_slice HO389.out; subst eo11) | (refine goesL_ (some 13) rfl rfl Try.func21 (by kernel_rfl) rfl #[.pointer (some ⟨g380, 0, none⟩), .slice Ao11 y387.length co11] rfl tm_ ?_; (with_reducible refine (spec_l1Cur_among.calls g380 t377 t385 t386 _ _ y387 t390 t391 t392 w _ ?side1 ?side2 ?side3 ?side4 ?side5 A4.out).mono ?_); (case side1 => repeat (first | (with_reducible first | exact HI380.out | apply IsS46.alloc | apply IsS46.drewN | apply IsS46.drew | apply IsS46.set_1 | apply IsS46.set_2 | refine IsS46.far ?_ NB380_376.out _) | exact HI380.out)); (case side2 => repeat (first | (with_reducible first | exact HB.out | apply below_alloc | apply pw_below_drewN | apply below_drew1 | refine below_set ?_ (IsS46.ge HI380.out) | refine below_set ?_ GE376.out) | exact HB.out)); (case side3 => exact ca (Kd.R_reads' HO389.out).2.2); (case side4 => exact (Kd.R_reads' HO389.out).2.1); (case side5 => exact far_slice (IsS46.own_ne HI380.out HO389.out (by decide))); rintro e w12 ⟨rfl, hi, hb, hk⟩; refine ⟨_, rfl, ?_⟩; replace BK376 := Aside0.mk (KeepBut.blk hk (g' := gb376) (o := .cells #[.int .i64 0, .slice none 0 0] 25 (0, 0)) (ba BK376.out) NB376_380.out (by simp)); replace HO384 := Aside0.mk (Kd.R_mono (Kd.R_keep (IsS46.apart (show IsS46 w _ g380 t377 t385 t386 from by repeat (first | (with_reducible first | exact HI380.out | apply IsS46.alloc | apply IsS46.drewN | apply IsS46.drew | apply IsS46.set_1 | apply IsS46.set_2 | refine IsS46.far ?_ NB380_376.out _) | exact HI380.out)) (ra HO384.out) (by decide)) hk (fun _ h => h.2)) (fun _ h => h.1)); replace HO389 := Aside0.mk (Kd.R_mono (Kd.R_keep (IsS46.apart (show IsS46 w _ g380 t377 t385 t386 from by repeat (first | (with_reducible first | exact HI380.out | apply IsS46.alloc | apply IsS46.drewN | apply IsS46.drew | apply IsS46.set_1 | apply IsS46.set_2 | refine IsS46.far ?_ NB380_376.out _) | exact HI380.out)) (ra HO389.out) (by decide)) hk (fun _ h => h.2)) (fun _ h => h.1)); replace HB := Aside0.mk (hb); replace HI380 := Aside0.mk (hi); clear hb hk hi) | ((with_reducible refine gate_dst (N := 15) rfl ?_); refine Kd.R_lit (Kd.int .i64) _ 3 ?hg (N := 15) ?hd (xs := ([(-1), 0, 5, 10, 10000] : List Int)) (inner := [.int .i64 (-1), .int .i64 0, .int .i64 5, .int .i64 10, .int .i64 10000]) (ok := fun _ => True) (okp := fun _ => True) ?hr ?hp (fun _ hk => hk) trivial (Below.refl _ _) (Nat.le_refl _) (by simp) ?_; (case hd => rfl); (case hg => rfl); (case hr => first | (go_simp; done) | (go_simp; rfl)); (case hp => exact (Reps.one (show Kd.M (Kd.int .i64) _ _ _ (-1) [.int .i64 (-1)] from rfl) (Reps.one (show Kd.M (Kd.int .i64) _ _ _ 0 [.int .i64 0] from rfl) (Reps.one (show Kd.M (Kd.int .i64) _ _ _ 5 [.int .i64 5] from rfl) (Reps.one (show Kd.M (Kd.int .i64) _ _ _ 10 [.int .i64 10] from rfl) (Reps.one (show Kd.M (Kd.int .i64) _ _ _ 10000 [.int .i64 10000] from rfl) (Reps.none _ _))))))); intro v394 w13 ho14 hb hg_ hnew_; clear hg_ hnew_; (first | rw [← Ny393.out] at ho14 | (simp only [Int.reduceToNat] at ho14; rw [← Ny393.out] at ho14)); have HO395 := Aside0.mk (Kd.R_lower (Kd.R_new' ho14 (rl_ HO389)) (below_size (by repeat (first | (with_reducible first | exact HB.out | apply below_alloc | apply pw_below_drewN | apply below_drew1 | refine below_set ?_ (IsS46.ge HI380.out) | refine below_set ?_ GE376.out) | exact HB.out)))); replace HO384 := rb_ HO384 hb; replace HO389 := re_ HO389 ho14 hb; replace BK376 := bb_ BK376 hb; replace HB := Aside0.mk (below_step (by repeat (first | (with_reducible first | exact HB.out | apply below_alloc | apply pw_below_drewN | apply below_drew1 | refine below_set ?_ (IsS46.ge HI380.out) | refine below_set ?_ GE376.out) | exact HB.out)) hb); replace HI380 := Aside0.mk (IsS46.below (by repeat (first | (with_reducible first | exact HI380.out | apply IsS46.alloc | apply IsS46.drewN | apply IsS46.drew | apply IsS46.set_1 | apply IsS46.set_2 | refine IsS46.far ?_ NB380_376.out _) | exact HI380.out)) hb); clear hb ho14; obtain ⟨Ao15, co15, eo15⟩ := Kd.R_slice HO395.out; subst eo15) | (refine goesL_ (some 16) rfl rfl Try.func21 (by kernel_rfl) rfl #[.pointer (some ⟨g380, 0, none⟩), .slice Ao15 y393.length co15] rfl tm_ ?_; (with_reducible refine (spec_l1Cur_among.calls g380 t377 t391 t392 _ _ y393 t396 t397 t398 w _ ?side1 ?side2 ?side3 ?side4 ?side5 A5.out).mono ?_); (case side1 => repeat (first | (with_reducible first | exact HI380.out | apply IsS46.alloc | apply IsS46.drewN | apply IsS46.drew | apply IsS46.set_1 | apply IsS46.set_2 | refine IsS46.far ?_ NB380_376.out _) | exact HI380.out)); (case side2 => repeat (first | (with_reducible first | exact HB.out | apply below_alloc | apply pw_below_drewN | apply below_drew1 | refine below_set ?_ (IsS46.ge HI380.out) | refine below_set ?_ GE376.out) | exact HB.out)); (case side3 => exact ca (Kd.R_reads' HO395.out).2.2); (case side4 => exact (Kd.R_reads' HO395.out).2.1); (case side5 => exact far_slice (IsS46.own_ne HI380.out HO395.out (by decide))); rintro e w16 ⟨rfl, hi, hb, hk⟩; refine ⟨_, rfl, ?_⟩; replace BK376 := Aside0.mk (KeepBut.blk hk (g' := gb376) (o := .cells #[.int .i64 0, .slice none 0 0] 25 (0, 0)) (ba BK376.out) NB376_380.out (by simp)); replace HO384 := Aside0.mk (Kd.R_mono (Kd.R_keep (IsS46.apart (show IsS46 w _ g380 t377 t391 t392 from by repeat (first | (with_reducible first | exact HI380.out | apply IsS46.alloc | apply IsS46.drewN | apply IsS46.drew | apply IsS46.set_1 | apply IsS46.set_2 | refine IsS46.far ?_ NB380_376.out _) | exact HI380.out)) (ra HO384.out) (by decide)) hk (fun _ h => h.2)) (fun _ h => h.1)); replace HO389 := Aside0.mk (Kd.R_mono (Kd.R_keep (IsS46.apart (show IsS46 w _ g380 t377 t391 t392 from by repeat (first | (with_reducible first | exact HI380.out | apply IsS46.alloc | apply IsS46.drewN | apply IsS46.drew | apply IsS46.set_1 | apply IsS46.set_2 | refine IsS46.far ?_ NB380_376.out _) | exact HI380.out)) (ra HO389.out) (by decide)) hk (fun _ h => h.2)) (fun _ h => h.1)); replace HO395 := Aside0.mk (Kd.R_mono (Kd.R_keep (IsS46.apart (show IsS46 w _ g380 t377 t391 t392 from by repeat (first | (with_reducible first | exact HI380.out | apply IsS46.alloc | apply IsS46.drewN | apply IsS46.drew | apply IsS46.set_1 | apply IsS46.set_2 | refine IsS46.far ?_ NB380_376.out _) | exact HI380.out)) (ra HO395.out) (by decide)) hk (fun _ h => h.2)) (fun _ h => h.1)); replace HB := Aside0.mk (hb); replace HI380 := Aside0.mk (hi); clear hb hk hi; have hnb17 := NB376_380.out; have hnc17 := NB380_376.out; obtain ⟨hcz18_0, hcz18_1⟩ := bcs2_ BK376; have hfz18_0 := blk_frozen BK376.out 0; have hfz18_1 := blk_frozen BK376.out 1; obtain ⟨Ao19, co19, eo19⟩ := Kd.R_slice HO384.out; subst eo19))
 refine bodyPost_ret (results_ctt rfl _ _ gb376 25 #[.int .i64 t381, .slice Ao19 t382.length co19] (0, 0) _ rfl (by (with_reducible repeat (first | refine blk_drewN ?_ _ | refine blk_drew ?_ | refine blk_alloc ?_ _)); refine blk_put (cs := #[.int .i64 t381, .slice none 0 0]) ?_ 1 _ rfl; (with_reducible repeat (first | refine blk_drewN ?_ _ | refine blk_drew ?_ | refine blk_alloc ?_ _)); refine blk_put (cs := #[.int .i64 0, .slice none 0 0]) ?_ 0 _ rfl; (with_reducible repeat (first | refine blk_drewN ?_ _ | refine blk_drew ?_ | refine blk_alloc ?_ _)); exact BK376.out) Try.underlying25 rfl (by kernel_rfl)) rfl ?_
 exact ⟨_, rt_, by (with_reducible repeat (first | apply Kd.R_alloc | apply Kd.R_drewN | apply Kd.R_drew)); exact Kd.R_mono (fs2_ HO384.out BK376.out) (fun _ hk => trivial), by repeat (first | (with_reducible first | exact HB.out | apply below_alloc | apply pw_below_drewN | apply below_drew1 | refine below_set ?_ (IsS46.ge HI380.out) | refine below_set ?_ GE376.out) | exact HB.out)⟩

end Go.Proofs.Ytenedmcobknefaa.P
