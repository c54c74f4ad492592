import Derived.Test.YtenedmcobknefaaF0
import Derived.Test.YtenedmcobknefaaF1
import Derived.Test.YtenedmcobknefaaF4
import Derived.Test.YtenedmcobknefaaF5
import Derived.Test.YtenedmcobknefaaF8
namespace Go.Proofs.Ytenedmcobknefaa.P
open Go.RowKit Go.Proofs.YtenedmcobknefaaW.PrintWords Go.Proofs.YtenedmcobknefaaW.PrintLast Go.Proofs.YtenedmcobknefaaW.PrintMore
attribute [local go_sem] max2_int min2_int max_two min_two max_three min_three max_four min_four   -- for this text's walks alone
set_option linter.unusedVariables false
set_option linter.unusedSimpArgs false
attribute [local go_sem high] eqA27

def spec_Learn.f (k : Nat) (a0_0 : Int) (l0_1 : List (S27)) (a1_0 : Int) (a1_1 : Int) (a1_2 : Int) : Option (Int × (List (S27)) × Bool) := (spec_GoodTable.f k a0_0 l0_1).bind fun t315 => (if t315 = true then ((spec_l13Row.f a1_0 a1_1 a1_2).bind fun t316 => (if t316 = true then (if (l0_1.length : Int) > 0 then (if 0 < (l0_1.length : Int) then (if a1_2 < ((rd_T27 l0_1 0).f2) then (some (0, ([] : List (S27)), false)) else ((spec_l13Learn.f k a0_0 l0_1 a1_0 a1_1 a1_2).bind fun bt318 => (some (bt318.1, bt318.2, true)))) else (none)) else ((spec_l13Learn.f k a0_0 l0_1 a1_0 a1_1 a1_2).bind fun bt322 => (some (bt322.1, bt322.2, true)))) else (some (0, ([] : List (S27)), false)))) else (some (0, ([] : List (S27)), false)))
theorem spec_Learn.mono : ∀ a0 a1 a2 a3 a4 k, LeO (spec_Learn.f k a0 a1 a2 a3 a4) (spec_Learn.f (k + 1) a0 a1 a2 a3 a4) := by
 intro a0 a1 a2 a3 a4 k
 unfold spec_Learn.f
 repeat' first
   | (with_reducible exact spec_GoodTable.mono _ _ _)
   | (with_reducible exact spec_l13Learn.mono _ _ _ _ _ _)
   | with_reducible first | exact LeO.refl _ | exact LeO.none _ | refine LeO.ite ?_ ?_ | refine LeO.bind ?_ fun _ => ?_
def spec_Learn.T1 : Bool × List (List Nat × List Nat) := (true, [([], []), ([0], [0]), ([1], [1]), ([2, 1], [2]), ([3], [3]), ([4, 3, 3], [3, 4]), ([5, 3], [3, 5]), ([3, 6], [3, 6]), ([7, 5], [7]), ([8], [8]), ([9, 8], [8, 9]), ([10, 8], [8, 10]), ([11, 8], [8, 11]), ([12, 8, 8], [8, 12]), ([13], [13]), ([14, 13], [13, 14]), ([13], [13]), ([16, 13], [13, 16]), ([17, 13], [13, 17]), ([18, 13], [13, 18]), ([19, 13], [13, 19]), ([15, 20, 13], [13, 15, 20]), ([13, 21, 8], [8, 13, 21]), ([8, 22], [8, 22])])
def spec_Learn.B1 : List Nat := [0, 1, 3, 7, 15, 31, 63, 127, 255, 511, 1023, 2047, 4095, 8191, 16383, 32767, 16383, 81919, 212991, 475135, 999423, 2097151, 4194303, 8388607]
theorem spec_Learn.tab1 : rtab .any (opsOf Try.f6 1) = spec_Learn.T1 := by kernel_rfl
theorem spec_Learn.bits1 : waitsOk spec_Learn.T1.2 spec_Learn.B1 = true := by kernel_rfl
set_option maxHeartbeats 8000000 in
set_option maxRecDepth 100000 in
theorem spec_Learn.calls (k : Nat) (a0_0 : Int) (A0_1 : Option Addr) (c0_1 : Nat) (l0_1 : List (S27)) (a1_0 : Int) (a1_1 : Int) (a1_2 : Int) (r1 : Int) (r2 : List (S27)) (r3 : Bool) (w : World) (hr0_1 : Kd.C k27 w A0_1 l0_1.length l0_1) (hc0_1 : l0_1.length ≤ c0_1) (h : spec_Learn.f k a0_0 l0_1 a1_0 a1_1 a1_2 = some (r1, r2, r3)) :
  Calls Try.prog 6 #[.agg #[.int .i64 a0_0, .slice A0_1 l0_1.length c0_1], .agg #[.int .i64 a1_0, .int .i64 a1_1, .int .i64 a1_2]] w fun e w' => ∃ v1_ : Value, e = .returned (.tuple #[.agg #[.int .i64 r1, v1_], .bool r3]) ∧ Kd.R k27 27 w' w.heap.size (fun _ => True) v1_ r2 ∧ Below w.heap.size w w' := by
 have hu25 := Try.underlying25
 have hu27 := Try.underlying27
 have HR0_1 := Aside0.mk hr0_1
 have HC0_1 := Aside0.mk hc0_1
 clear hr0_1 hc0_1
 have HB := Aside0.mk (Below.refl w.heap.size w)
 have H : ((spec_GoodTable.f k a0_0 l0_1).bind fun t315 => (if t315 = true then ((spec_l13Row.f a1_0 a1_1 a1_2).bind fun t316 => (if t316 = true then (if (l0_1.length : Int) > 0 then (if 0 < (l0_1.length : Int) then (if a1_2 < ((rd_T27 l0_1 0).f2) then (some (0, ([] : List (S27)), false)) else ((spec_l13Learn.f k a0_0 l0_1 a1_0 a1_1 a1_2).bind fun bt318 => (some (bt318.1, bt318.2, true)))) else (none)) else ((spec_l13Learn.f k a0_0 l0_1 a1_0 a1_1 a1_2).bind fun bt322 => (some (bt322.1, bt322.2, true)))) else (some (0, ([] : List (S27)), false)))) else (some (0, ([] : List (S27)), false)))) = some (r1, r2, r3) := h
 clear h
 replace H := Option.bind_eq_some_iff.mp H
 obtain ⟨t315, A30, H⟩ := H
 replace H : (if t315 = true then ((spec_l13Row.f a1_0 a1_1 a1_2).bind fun t316 => (if t316 = true then (if (l0_1.length : Int) > 0 then (if 0 < (l0_1.length : Int) then (if a1_2 < ((rd_T27 l0_1 0).f2) then (some (0, ([] : List (S27)), false)) else ((spec_l13Learn.f k a0_0 l0_1 a1_0 a1_1 a1_2).bind fun bt318 => (some (bt318.1, bt318.2, true)))) else (none)) else ((spec_l13Learn.f k a0_0 l0_1 a1_0 a1_1 a1_2).bind fun bt322 => (some (bt322.1, bt322.2, true)))) else (some (0, ([] : List (S27)), false)))) else (some (0, ([] : List (S27)), false))) = some (r1, r2, r3) := H
 have A3 := Aside0.mk A30
 clear A30
 by_cases c4 : t315 = true
 rotate_left
 ·replace c4 := Bool.eq_false_iff.mpr c4
  subst c4
  rw [if_neg (show ¬ (false = true) by decide)] at H
  simp only [Option.some.injEq, Prod.mk.injEq] at H
  obtain ⟨rfl, rfl, rfl⟩ := H
  go_enter Try.func6, Try.ntmps6
  try go_wp2_with (first | ((with_reducible refine gate_dst (N := 2) rfl ?_); (try (refine gate_guard (by rfl) ?_; dsimp only)); refine box_event ?hg (N := 2) ?hd (cs := #[.int .i64 a0_0, .slice A0_1 l0_1.length c0_1]) (t := 25) ?hr ?_; (case hd => rfl); (case hg => rfl); (case hr => first | (go_simp; done) | (go_simp; rfl)); intro gb312 hg w58 hbox hb; have BK312 := Aside0.mk (hbox); have GW312 := gw_ hg HB; have GE312 := gw_ hg HB; replace HB := bst_ HB hb; clear hb hbox hg) | ((with_reducible refine gate_dst (N := 3) rfl ?_); (try (refine gate_guard (by rfl) ?_; dsimp only)); refine box_event ?hg (N := 3) ?hd (cs := #[.int .i64 a1_0, .int .i64 a1_1, .int .i64 a1_2]) (t := 27) ?hr ?_; (case hd => rfl); (case hg => rfl); (case hr => first | (go_simp; done) | (go_simp; rfl)); intro gb313 hg w59 hbox hb; have BK313 := Aside0.mk (hbox); have GW313 := gw_ hg HB; have GE313 := gw_ hg HB; have NB312_313 := nl_ hg BK312; have NB313_312 := ng_ hg BK312; replace BK312 := bb_ BK312 hb; replace HB := bst_ HB hb; clear hb hbox hg) | ((with_reducible refine gate_dst (N := 4) rfl ?_); (try (refine gate_guard (by rfl) ?_; dsimp only)); refine box_event ?hg (N := 4) ?hd (cs := #[.int .i64 0, .slice none 0 0]) (t := 25) ?hr ?_; (case hd => rfl); (case hg => rfl); (case hr => first | (go_simp; done) | (go_simp; rfl)); intro gb314 hg w60 hbox hb; have BK314 := Aside0.mk (hbox); have GW314 := gw_ hg HB; have GE314 := gw_ hg HB; have NB312_314 := nl_ hg BK312; have NB314_312 := ng_ hg BK312; have NB313_314 := nl_ hg BK313; have NB314_313 := ng_ hg BK313; replace BK312 := bb_ BK312 hb; replace BK313 := bb_ BK313 hb; replace HB := bst_ HB hb; clear hb hbox hg))
  replace BK312 := bd_ BK312
  replace BK313 := bd_ BK313
  replace BK314 := bd_ BK314
  replace HB := Aside0.mk (below_drew1 HB.out)
  refine start_ (n := 24) (S := fun w' => w'.cell? ⟨gb312, 0, none⟩ = some (.int .i64 a0_0) ∧ w'.cell? ⟨gb312, 1, none⟩ = some (.slice A0_1 l0_1.length c0_1)) (ds := []) (bs 24 0) (by kernel_rfl) rfl rfl ⟨bc_ BK312 0, bc_ BK312 1⟩ (fun hHeld => ?_); refine with_tabW spec_Learn.tab1 spec_Learn.bits1 (fun HT_ HW_ => ?_)
  generalize w60.drew = w61 at BK312 BK313 BK314 HB hHeld ⊢
  refine tk_ 0 6 (bs 24 1) HT_ HW_ hHeld ?_
  refine on_ 1 (some 7) (bs 24 3) HT_ (fun K hK => ?_)
  refine goes_ Try.func9 (by kernel_rfl) rfl #[.agg #[.int .i64 a0_0, .slice A0_1 l0_1.length c0_1]] (by rfl) rfl rfl tm_ ?_
  with_reducible refine (spec_GoodTable.calls k a0_0 _ _ l0_1 false _ ?side1 ?side2 A3.out).mono ?_
  (case side1 => exact cb_ HR0_1 HB)
  (case side2 => exact HC0_1.out)
  rintro e w62 ⟨rfl, hb⟩
  refine ⟨_, rfl, ?_⟩
  replace BK312 := bb_ BK312 hb
  replace BK313 := bb_ BK313 hb
  replace BK314 := bb_ BK314 hb
  replace HB := bst_ HB hb
  clear hb
  refine hK.out _ _ ⟨bc_ BK312 0, bc_ BK312 1⟩ (fun hHeld => ?_)
  clear hK K
  refine nm_ 7 ?_
  refine pu_ 2 8 (bs 24 7) HT_ ?_
  refine pu_ 3 9 (bs 24 15) HT_ ?_
  refine pn_ 4 10 (bs 24 31) HT_ ?_
  refine pn_ 5 11 (bs 24 63) HT_ ?_
  refine pn_ 6 12 (bs 24 127) HT_ ?_
  refine pu_ 7 13 (bs 24 255) HT_ ?_
  refine pu_ 8 14 (bs 24 511) HT_ ?_
  refine pn_ 9 15 (bs 24 1023) HT_ ?_
  refine pn_ 10 16 (bs 24 2047) HT_ ?_
  refine pn_ 11 17 (bs 24 4095) HT_ ?_
  refine pn_ 12 18 (bs 24 8191) HT_ ?_
  refine pn_ 13 19 (bs 24 16383) HT_ ?_
  refine pn_ 14 20 (bs 24 32767) HT_ ?_
  refine pn_ 15 21 (bs 24 65535) HT_ ?_
  refine pn_ 16 22 (bs 24 131071) HT_ ?_
  refine pn_ 17 23 (bs 24 262143) HT_ ?_
  refine pn_ 18 24 (bs 24 524287) HT_ ?_
  refine pn_ 19 25 (bs 24 1048575) HT_ ?_
  refine pn_ 20 26 (bs 24 2097151) HT_ ?_
  refine pn_ 21 27 (bs 24 4194303) HT_ ?_
  refine pn_ 22 28 (bs 24 8388607) HT_ ?_
  refine pu_ 23 29 (bs 24 16777215) HT_ ?_
  refine done_ (done_of HT_.out (by kernel_rfl)) ?_
  have hnb63 := NB314_312.out
  have hnc63 := NB312_314.out
  have hnb64 := NB314_313.out
  have hnc64 := NB313_314.out
  have hcz65_0 : w62.cell? ⟨gb314, 0, none⟩ = some (.int .i64 0) := bc_ BK314 0
  have hcz65_1 : w62.cell? ⟨gb314, 1, none⟩ = some (.slice none 0 0) := bc_ BK314 1
  have hfz65_0 := blk_frozen BK314.out 0
  have hfz65_1 := blk_frozen BK314.out 1
  try go_wp2
  refine bodyPost_ret (results_ct rfl _ _ gb314 25 #[.int .i64 0, .slice none 0 0] (0, 0) _ rfl (by (with_reducible repeat (first | refine blk_drewN ?_ _ | refine blk_drew ?_ | refine blk_alloc ?_ _)); refine blk_put (cs := #[.int .i64 0, .slice none 0 0]) ?_ 1 _ rfl; (with_reducible repeat (first | refine blk_drewN ?_ _ | refine blk_drew ?_ | refine blk_alloc ?_ _)); refine blk_put (cs := #[.int .i64 0, .slice none 0 0]) ?_ 0 _ rfl; (with_reducible repeat (first | refine blk_drewN ?_ _ | refine blk_drew ?_ | refine blk_alloc ?_ _)); exact BK314.out) Try.underlying25 rfl (by kernel_rfl)) rfl ?_
  exact ⟨_, rt_, by first | exact Kd.R_nil _ _ _ _ _ | exact Kd.N_nil _ _ _ _ _ | exact Kd.V_nil _ _ _ _ _ | exact Kd.Q_nil _ _ _ _ _ | exact Kd.S_nil _ _ _ _ _, hB HB⟩
 subst c4
 rw [if_pos rfl] at H
 replace H := Option.bind_eq_some_iff.mp H
 obtain ⟨t316, A50, H⟩ := H
 replace H : (if t316 = true then (if (l0_1.length : Int) > 0 then (if 0 < (l0_1.length : Int) then (if a1_2 < ((rd_T27 l0_1 0).f2) then (some (0, ([] : List (S27)), false)) else ((spec_l13Learn.f k a0_0 l0_1 a1_0 a1_1 a1_2).bind fun bt318 => (some (bt318.1, bt318.2, true)))) else (none)) else ((spec_l13Learn.f k a0_0 l0_1 a1_0 a1_1 a1_2).bind fun bt322 => (some (bt322.1, bt322.2, true)))) else (some (0, ([] : List (S27)), false))) = some (r1, r2, r3) := H
 have A5 := Aside0.mk A50
 clear A50
 by_cases c6 : t316 = true
 rotate_left
 ·replace c6 := Bool.eq_false_iff.mpr c6
  subst c6
  rw [if_neg (show ¬ (false = true) by decide)] at H
  simp only [Option.some.injEq, Prod.mk.injEq] at H
  obtain ⟨rfl, rfl, rfl⟩ := H
  go_enter Try.func6, Try.ntmps6
  try go_wp2_with (first | ((with_reducible refine gate_dst (N := 2) rfl ?_); (try (refine gate_guard (by rfl) ?_; dsimp only)); refine box_event ?hg (N := 2) ?hd (cs := #[.int .i64 a0_0, .slice A0_1 l0_1.length c0_1]) (t := 25) ?hr ?_; (case hd => rfl); (case hg => rfl); (case hr => first | (go_simp; done) | (go_simp; rfl)); intro gb312 hg w49 hbox hb; have BK312 := Aside0.mk (hbox); have GW312 := gw_ hg HB; have GE312 := gw_ hg HB; replace HB := bst_ HB hb; clear hb hbox hg) | ((with_reducible refine gate_dst (N := 3) rfl ?_); (try (refine gate_guard (by rfl) ?_; dsimp only)); refine box_event ?hg (N := 3) ?hd (cs := #[.int .i64 a1_0, .int .i64 a1_1, .int .i64 a1_2]) (t := 27) ?hr ?_; (case hd => rfl); (case hg => rfl); (case hr => first | (go_simp; done) | (go_simp; rfl)); intro gb313 hg w50 hbox hb; have BK313 := Aside0.mk (hbox); have GW313 := gw_ hg HB; have GE313 := gw_ hg HB; have NB312_313 := nl_ hg BK312; have NB313_312 := ng_ hg BK312; replace BK312 := bb_ BK312 hb; replace HB := bst_ HB hb; clear hb hbox hg) | ((with_reducible refine gate_dst (N := 4) rfl ?_); (try (refine gate_guard (by rfl) ?_; dsimp only)); refine box_event ?hg (N := 4) ?hd (cs := #[.int .i64 0, .slice none 0 0]) (t := 25) ?hr ?_; (case hd => rfl); (case hg => rfl); (case hr => first | (go_simp; done) | (go_simp; rfl)); intro gb314 hg w51 hbox hb; have BK314 := Aside0.mk (hbox); have GW314 := gw_ hg HB; have GE314 := gw_ hg HB; have NB312_314 := nl_ hg BK312; have NB314_312 := ng_ hg BK312; have NB313_314 := nl_ hg BK313; have NB314_313 := ng_ hg BK313; replace BK312 := bb_ BK312 hb; replace BK313 := bb_ BK313 hb; replace HB := bst_ HB hb; clear hb hbox hg))
  replace BK312 := bd_ BK312
  replace BK313 := bd_ BK313
  replace BK314 := bd_ BK314
  replace HB := Aside0.mk (below_drew1 HB.out)
  refine start_ (n := 24) (S := fun w' => w'.cell? ⟨gb312, 0, none⟩ = some (.int .i64 a0_0) ∧ w'.cell? ⟨gb312, 1, none⟩ = some (.slice A0_1 l0_1.length c0_1) ∧ w'.cell? ⟨gb313, 0, none⟩ = some (.int .i64 a1_0) ∧ w'.cell? ⟨gb313, 1, none⟩ = some (.int .i64 a1_1) ∧ w'.cell? ⟨gb313, 2, none⟩ = some (.int .i64 a1_2)) (ds := []) (bs 24 0) (by kernel_rfl) rfl rfl ⟨bc_ BK312 0, bc_ BK312 1, bc_ BK313 0, bc_ BK313 1, bc_ BK313 2⟩ (fun hHeld => ?_); refine with_tabW spec_Learn.tab1 spec_Learn.bits1 (fun HT_ HW_ => ?_)
  generalize w51.drew = w52 at BK312 BK313 BK314 HB hHeld ⊢
  refine tk_ 0 6 (bs 24 1) HT_ HW_ hHeld ?_
  refine on_ 1 (some 7) (bs 24 3) HT_ (fun K hK => ?_)
  refine goes_ Try.func9 (by kernel_rfl) rfl #[.agg #[.int .i64 a0_0, .slice A0_1 l0_1.length c0_1]] (by rfl) rfl rfl tm_ ?_
  with_reducible refine (spec_GoodTable.calls k a0_0 _ _ l0_1 true _ ?side1 ?side2 A3.out).mono ?_
  (case side1 => exact cb_ HR0_1 HB)
  (case side2 => exact HC0_1.out)
  rintro e w53 ⟨rfl, hb⟩
  refine ⟨_, rfl, ?_⟩
  replace BK312 := bb_ BK312 hb
  replace BK313 := bb_ BK313 hb
  replace BK314 := bb_ BK314 hb
  replace HB := bst_ HB hb
  clear hb
  refine hK.out _ _ ⟨bc_ BK312 0, bc_ BK312 1, bc_ BK313 0, bc_ BK313 1, bc_ BK313 2⟩ (fun hHeld => ?_)
  clear hK K
  refine nm_ 7 ?_
  refine pu_ 2 8 (bs 24 7) HT_ ?_
  refine pu_ 3 9 (bs 24 15) HT_ ?_
  refine tk_ 4 10 (bs 24 31) HT_ HW_ hHeld ?_
  refine on_ 5 (some 11) (bs 24 63) HT_ (fun K hK => ?_)
  refine goes_ Try.func24 (by kernel_rfl) rfl #[.agg #[.int .i64 a1_0, .int .i64 a1_1, .int .i64 a1_2]] (by rfl) rfl rfl tm_ ?_
  with_reducible refine (spec_l13Row.calls a1_0 a1_1 a1_2 false _ A5.out).mono ?_
  rintro e w54 ⟨rfl, hb⟩
  refine ⟨_, rfl, ?_⟩
  replace BK312 := bb_ BK312 hb
  replace BK313 := bb_ BK313 hb
  replace BK314 := bb_ BK314 hb
  replace HB := bst_ HB hb
  clear hb
  refine hK.out _ _ ⟨bc_ BK312 0, bc_ BK312 1, bc_ BK313 0, bc_ BK313 1, bc_ BK313 2⟩ (fun hHeld => ?_)
  clear hK K
  refine nm_ 11 ?_
  refine pu_ 6 12 (bs 24 127) HT_ ?_
  refine pu_ 7 13 (bs 24 255) HT_ ?_
  refine pu_ 8 14 (bs 24 511) HT_ ?_
  refine pn_ 9 15 (bs 24 1023) HT_ ?_
  refine pn_ 10 16 (bs 24 2047) HT_ ?_
  refine pn_ 11 17 (bs 24 4095) HT_ ?_
  refine pn_ 12 18 (bs 24 8191) HT_ ?_
  refine pn_ 13 19 (bs 24 16383) HT_ ?_
  refine pn_ 14 20 (bs 24 32767) HT_ ?_
  refine pn_ 15 21 (bs 24 65535) HT_ ?_
  refine pn_ 16 22 (bs 24 131071) HT_ ?_
  refine pn_ 17 23 (bs 24 262143) HT_ ?_
  refine pn_ 18 24 (bs 24 524287) HT_ ?_
  refine pn_ 19 25 (bs 24 1048575) HT_ ?_
  refine pn_ 20 26 (bs 24 2097151) HT_ ?_
  refine pn_ 21 27 (bs 24 4194303) HT_ ?_
  refine pn_ 22 28 (bs 24 8388607) HT_ ?_
  refine pu_ 23 29 (bs 24 16777215) HT_ ?_
  refine done_ (done_of HT_.out (by kernel_rfl)) ?_
  have hnb55 := NB314_312.out
  have hnc55 := NB312_314.out
  have hnb56 := NB314_313.out
  have hnc56 := NB313_314.out
  have hcz57_0 : w54.cell? ⟨gb314, 0, none⟩ = some (.int .i64 0) := bc_ BK314 0
  have hcz57_1 : w54.cell? ⟨gb314, 1, none⟩ = some (.slice none 0 0) := bc_ BK314 1
  have hfz57_0 := blk_frozen BK314.out 0
  have hfz57_1 := blk_frozen BK314.out 1
  try go_wp2
  refine bodyPost_ret (results_ct rfl _ _ gb314 25 #[.int .i64 0, .slice none 0 0] (0, 0) _ rfl (by (with_reducible repeat (first | refine blk_drewN ?_ _ | refine blk_drew ?_ | refine blk_alloc ?_ _)); refine blk_put (cs := #[.int .i64 0, .slice none 0 0]) ?_ 1 _ rfl; (with_reducible repeat (first | refine blk_drewN ?_ _ | refine blk_drew ?_ | refine blk_alloc ?_ _)); refine blk_put (cs := #[.int .i64 0, .slice none 0 0]) ?_ 0 _ rfl; (with_reducible repeat (first | refine blk_drewN ?_ _ | refine blk_drew ?_ | refine blk_alloc ?_ _)); exact BK314.out) Try.underlying25 rfl (by kernel_rfl)) rfl ?_
  exact ⟨_, rt_, by first | exact Kd.R_nil _ _ _ _ _ | exact Kd.N_nil _ _ _ _ _ | exact Kd.V_nil _ _ _ _ _ | exact Kd.Q_nil _ _ _ _ _ | exact Kd.S_nil _ _ _ _ _, hB HB⟩
 subst c6
 rw [if_pos rfl] at H
 by_cases c7 : (l0_1.length : Int) > 0
 rotate_left
 ·rw [if_neg c7] at H
  have c7b0 : decide (0 < (l0_1.length : Int)) = false := decide_eq_false c7
  have c7b1 : decide (0 < l0_1.length) = false := decide_eq_false (by omega)
  clear c7
  replace H := Option.bind_eq_some_iff.mp H
  obtain ⟨⟨t322, t323⟩, A340, H⟩ := H
  replace H : (some (t322, t323, true)) = some (r1, r2, r3) := H
  have A34 := Aside0.mk A340
  clear A340
  simp only [Option.some.injEq, Prod.mk.injEq] at H
  obtain ⟨rfl, rfl, rfl⟩ := H
  go_enter Try.func6, Try.ntmps6
  try go_wp2_with (first | ((with_reducible refine gate_dst (N := 2) rfl ?_); (try (refine gate_guard (by rfl) ?_; dsimp only)); refine box_event ?hg (N := 2) ?hd (cs := #[.int .i64 a0_0, .slice A0_1 l0_1.length c0_1]) (t := 25) ?hr ?_; (case hd => rfl); (case hg => rfl); (case hr => first | (go_simp; done) | (go_simp; rfl)); intro gb312 hg w35 hbox hb; have BK312 := Aside0.mk (hbox); have GW312 := gw_ hg HB; have GE312 := gw_ hg HB; replace HB := bst_ HB hb; clear hb hbox hg) | ((with_reducible refine gate_dst (N := 3) rfl ?_); (try (refine gate_guard (by rfl) ?_; dsimp only)); refine box_event ?hg (N := 3) ?hd (cs := #[.int .i64 a1_0, .int .i64 a1_1, .int .i64 a1_2]) (t := 27) ?hr ?_; (case hd => rfl); (case hg => rfl); (case hr => first | (go_simp; done) | (go_simp; rfl)); intro gb313 hg w36 hbox hb; have BK313 := Aside0.mk (hbox); have GW313 := gw_ hg HB; have GE313 := gw_ hg HB; have NB312_313 := nl_ hg BK312; have NB313_312 := ng_ hg BK312; replace BK312 := bb_ BK312 hb; replace HB := bst_ HB hb; clear hb hbox hg) | ((with_reducible refine gate_dst (N := 4) rfl ?_); (try (refine gate_guard (by rfl) ?_; dsimp only)); refine box_event ?hg (N := 4) ?hd (cs := #[.int .i64 0, .slice none 0 0]) (t := 25) ?hr ?_; (case hd => rfl); (case hg => rfl); (case hr => first | (go_simp; done) | (go_simp; rfl)); intro gb314 hg w37 hbox hb; have BK314 := Aside0.mk (hbox); have GW314 := gw_ hg HB; have GE314 := gw_ hg HB; have NB312_314 := nl_ hg BK312; have NB314_312 := ng_ hg BK312; have NB313_314 := nl_ hg BK313; have NB314_313 := ng_ hg BK313; replace BK312 := bb_ BK312 hb; replace BK313 := bb_ BK313 hb; replace HB := bst_ HB hb; clear hb hbox hg))
  replace BK312 := bd_ BK312
  replace BK313 := bd_ BK313
  replace BK314 := bd_ BK314
  replace HB := Aside0.mk (below_drew1 HB.out)
  refine start_ (n := 24) (S := fun w' => w'.cell? ⟨gb312, 0, none⟩ = some (.int .i64 a0_0) ∧ w'.cell? ⟨gb312, 1, none⟩ = some (.slice A0_1 l0_1.length c0_1) ∧ w'.cell? ⟨gb313, 0, none⟩ = some (.int .i64 a1_0) ∧ w'.cell? ⟨gb313, 1, none⟩ = some (.int .i64 a1_1) ∧ w'.cell? ⟨gb313, 2, none⟩ = some (.int .i64 a1_2)) (ds := []) (bs 24 0) (by kernel_rfl) rfl rfl ⟨bc_ BK312 0, bc_ BK312 1, bc_ BK313 0, bc_ BK313 1, bc_ BK313 2⟩ (fun hHeld => ?_); refine with_tabW spec_Learn.tab1 spec_Learn.bits1 (fun HT_ HW_ => ?_)
  generalize w37.drew = w38 at BK312 BK313 BK314 HB hHeld ⊢
  refine tk_ 0 6 (bs 24 1) HT_ HW_ hHeld ?_
  refine on_ 1 (some 7) (bs 24 3) HT_ (fun K hK => ?_)
  refine goes_ Try.func9 (by kernel_rfl) rfl #[.agg #[.int .i64 a0_0, .slice A0_1 l0_1.length c0_1]] (by rfl) rfl rfl tm_ ?_
  with_reducible refine (spec_GoodTable.calls k a0_0 _ _ l0_1 true _ ?side1 ?side2 A3.out).mono ?_
  (case side1 => exact cb_ HR0_1 HB)
  (case side2 => exact HC0_1.out)
  rintro e w39 ⟨rfl, hb⟩
  refine ⟨_, rfl, ?_⟩
  replace BK312 := bb_ BK312 hb
  replace BK313 := bb_ BK313 hb
  replace BK314 := bb_ BK314 hb
  replace HB := bst_ HB hb
  clear hb
  refine hK.out _ _ ⟨bc_ BK312 0, bc_ BK312 1, bc_ BK313 0, bc_ BK313 1, bc_ BK313 2⟩ (fun hHeld => ?_)
  clear hK K
  refine nm_ 7 ?_
  refine pu_ 2 8 (bs 24 7) HT_ ?_
  refine pu_ 3 9 (bs 24 15) HT_ ?_
  refine tk_ 4 10 (bs 24 31) HT_ HW_ hHeld ?_
  refine on_ 5 (some 11) (bs 24 63) HT_ (fun K hK => ?_)
  refine goes_ Try.func24 (by kernel_rfl) rfl #[.agg #[.int .i64 a1_0, .int .i64 a1_1, .int .i64 a1_2]] (by rfl) rfl rfl tm_ ?_
  with_reducible refine (spec_l13Row.calls a1_0 a1_1 a1_2 true _ A5.out).mono ?_
  rintro e w40 ⟨rfl, hb⟩
  refine ⟨_, rfl, ?_⟩
  replace BK312 := bb_ BK312 hb
  replace BK313 := bb_ BK313 hb
  replace BK314 := bb_ BK314 hb
  replace HB := bst_ HB hb
  clear hb
  refine hK.out _ _ ⟨bc_ BK312 0, bc_ BK312 1, bc_ BK313 0, bc_ BK313 1, bc_ BK313 2⟩ (fun hHeld => ?_)
  clear hK K
  refine nm_ 11 ?_
  refine pu_ 6 12 (bs 24 127) HT_ ?_
  refine pu_ 7 13 (bs 24 255) HT_ ?_
  refine pu_ 8 14 (bs 24 511) HT_ ?_
  refine pu_ 9 15 (bs 24 1023) HT_ ?_
  refine tk_ 10 16 (bs 24 2047) HT_ HW_ hHeld ?_
  refine pu_ 11 17 (bs 24 4095) HT_ ?_
  refine pu_ 12 18 (bs 24 8191) HT_ ?_
  refine pu_ 13 19 (bs 24 16383) HT_ ?_
  refine pn_ 14 20 (bs 24 32767) HT_ ?_
  refine pn_ 15 21 (bs 24 65535) HT_ ?_
  refine pn_ 16 22 (bs 24 131071) HT_ ?_
  refine pn_ 17 23 (bs 24 262143) HT_ ?_
  refine pn_ 18 24 (bs 24 524287) HT_ ?_
  refine pn_ 19 25 (bs 24 1048575) HT_ ?_
  refine pn_ 20 26 (bs 24 2097151) HT_ ?_
  refine pn_ 21 27 (bs 24 4194303) HT_ ?_
  refine pu_ 22 28 (bs 24 8388607) HT_ ?_
  refine pu_ 23 29 (bs 24 16777215) HT_ ?_
  refine done_ (done_of HT_.out (by kernel_rfl)) ?_
  have hnb41 := NB312_313.out
  have hnc41 := NB313_312.out
  have hnb42 := NB312_314.out
  have hnc42 := NB314_312.out
  have hcz43_0 : w40.cell? ⟨gb312, 0, none⟩ = some (.int .i64 a0_0) := bc_ BK312 0
  have hcz43_1 : w40.cell? ⟨gb312, 1, none⟩ = some (.slice A0_1 l0_1.length c0_1) := bc_ BK312 1
  have hfz43_0 := blk_frozen BK312.out 0
  have hfz43_1 := blk_frozen BK312.out 1
  have hnb44 := NB313_314.out
  have hnc44 := NB314_313.out
  have hcz45_0 : w40.cell? ⟨gb313, 0, none⟩ = some (.int .i64 a1_0) := bc_ BK313 0
  have hcz45_1 : w40.cell? ⟨gb313, 1, none⟩ = some (.int .i64 a1_1) := bc_ BK313 1
  have hcz45_2 : w40.cell? ⟨gb313, 2, none⟩ = some (.int .i64 a1_2) := bc_ BK313 2
  have hfz45_0 := blk_frozen BK313.out 0
  have hfz45_1 := blk_frozen BK313.out 1
  have hfz45_2 := blk_frozen BK313.out 2
  try go_wp2_with (first | (refine goesL_ (some 33) rfl rfl Try.func25 (by kernel_rfl) rfl #[.agg #[.int .i64 a0_0, .slice A0_1 l0_1.length c0_1], .agg #[.int .i64 a1_0, .int .i64 a1_1, .int .i64 a1_2]] rfl tm_ ?_; (with_reducible refine (spec_l13Learn.calls k a0_0 _ _ l0_1 a1_0 a1_1 a1_2 t322 t323 _ ?side1 ?side2 A34.out).mono ?_); (case side1 => exact cb_ HR0_1 HB); (case side2 => exact HC0_1.out); rintro e w46 ⟨v324, rfl, ho0, hb⟩; refine ⟨_, rfl, ?_⟩; have HO325 := Aside0.mk (Kd.R_lower (Kd.R_newB ho0 (g := gb313) (o := .cells #[.int .i64 a1_0, .int .i64 a1_1, .int .i64 a1_2] 27 (0, 0)) (ba BK313.out)) (below_size (hB HB))); replace BK312 := bb_ BK312 hb; replace BK313 := bb_ BK313 hb; replace BK314 := bb_ BK314 hb; replace HB := bst_ HB hb; clear hb ho0; obtain ⟨hcz47_0, hcz47_1⟩ := bcs2_ BK314; have hfz47_0 := blk_frozen BK314.out 0; have hfz47_1 := blk_frozen BK314.out 1; obtain ⟨Ao48, co48, eo48⟩ := Kd.R_slice HO325.out; subst eo48))
  refine bodyPost_ret (results_ct rfl _ _ gb314 25 #[.int .i64 t322, .slice Ao48 t323.length co48] (0, 0) _ rfl (by (with_reducible repeat (first | refine blk_drewN ?_ _ | refine blk_drew ?_ | refine blk_alloc ?_ _)); refine blk_put (cs := #[.int .i64 t322, .slice none 0 0]) ?_ 1 _ rfl; (with_reducible repeat (first | refine blk_drewN ?_ _ | refine blk_drew ?_ | refine blk_alloc ?_ _)); refine blk_put (cs := #[.int .i64 0, .slice none 0 0]) ?_ 0 _ rfl; (with_reducible repeat (first | refine blk_drewN ?_ _ | refine blk_drew ?_ | refine blk_alloc ?_ _)); exact BK314.out) Try.underlying25 rfl (by kernel_rfl)) rfl ?_
  exact ⟨_, rt_, by (with_reducible repeat (first | apply Kd.R_alloc | apply Kd.R_drewN | apply Kd.R_drew)); exact Kd.R_mono (fs2_ HO325.out BK314.out) (fun _ hk => trivial), hB HB⟩
 rw [if_pos c7] at H
 have c7b0 : decide (0 < (l0_1.length : Int)) = true := decide_eq_true c7
 have c7b1 : decide (0 < l0_1.length) = true := decide_eq_true (by omega)
 clear c7
 by_cases c8 : 0 < (l0_1.length : Int)
 rotate_left
 ·rw [if_neg c8] at H
  exact absurd H (by simp)
 rw [if_pos c8] at H
 have c8b0 : decide (0 < (l0_1.length : Int)) = true := decide_eq_true c8
 have c8b1 : decide (0 < l0_1.length) = true := decide_eq_true (by omega)
 clear c8
 by_cases c9 : a1_2 < ((rd_T27 l0_1 0).f2)
 ·rw [if_pos c9] at H
  have c9b0 : decide (a1_2 < ((rd_T27 l0_1 0).f2)) = true := decide_eq_true c9
  clear c9
  simp only [Option.some.injEq, Prod.mk.injEq] at H
  obtain ⟨rfl, rfl, rfl⟩ := H
  go_enter Try.func6, Try.ntmps6
  try go_wp2_with (first | ((with_reducible refine gate_dst (N := 2) rfl ?_); (try (refine gate_guard (by rfl) ?_; dsimp only)); refine box_event ?hg (N := 2) ?hd (cs := #[.int .i64 a0_0, .slice A0_1 l0_1.length c0_1]) (t := 25) ?hr ?_; (case hd => rfl); (case hg => rfl); (case hr => first | (go_simp; done) | (go_simp; rfl)); intro gb312 hg w10 hbox hb; have BK312 := Aside0.mk (hbox); have GW312 := gw_ hg HB; have GE312 := gw_ hg HB; replace HB := bst_ HB hb; clear hb hbox hg) | ((with_reducible refine gate_dst (N := 3) rfl ?_); (try (refine gate_guard (by rfl) ?_; dsimp only)); refine box_event ?hg (N := 3) ?hd (cs := #[.int .i64 a1_0, .int .i64 a1_1, .int .i64 a1_2]) (t := 27) ?hr ?_; (case hd => rfl); (case hg => rfl); (case hr => first | (go_simp; done) | (go_simp; rfl)); intro gb313 hg w11 hbox hb; have BK313 := Aside0.mk (hbox); have GW313 := gw_ hg HB; have GE313 := gw_ hg HB; have NB312_313 := nl_ hg BK312; have NB313_312 := ng_ hg BK312; replace BK312 := bb_ BK312 hb; replace HB := bst_ HB hb; clear hb hbox hg) | ((with_reducible refine gate_dst (N := 4) rfl ?_); (try (refine gate_guard (by rfl) ?_; dsimp only)); refine box_event ?hg (N := 4) ?hd (cs := #[.int .i64 0, .slice none 0 0]) (t := 25) ?hr ?_; (case hd => rfl); (case hg => rfl); (case hr => first | (go_simp; done) | (go_simp; rfl)); intro gb314 hg w12 hbox hb; have BK314 := Aside0.mk (hbox); have GW314 := gw_ hg HB; have GE314 := gw_ hg HB; have NB312_314 := nl_ hg BK312; have NB314_312 := ng_ hg BK312; have NB313_314 := nl_ hg BK313; have NB314_313 := ng_ hg BK313; replace BK312 := bb_ BK312 hb; replace BK313 := bb_ BK313 hb; replace HB := bst_ HB hb; clear hb hbox hg))
  replace BK312 := bd_ BK312
  replace BK313 := bd_ BK313
  replace BK314 := bd_ BK314
  replace HB := Aside0.mk (below_drew1 HB.out)
  have p317 : 0 ≤ (0 : Int) := (by omega)
  have q317 : 0 < (l0_1.length : Int) := od_
  obtain ⟨ad317, e317, hx317_0, hx317_1, hx317_2⟩ := at_T27 HR0_1.out 0 p317 q317
  have hw317_2 := hx317_2
  (try rw [show ((0 : Int)).toNat = 0 from rfl] at hw317_2)
  (try rw [show 0 * 3 = 0 from rfl] at hw317_2)
  (try rw [Addr.add_zero'] at hw317_2)
  have hw317_1 := hx317_1
  (try rw [show ((0 : Int)).toNat = 0 from rfl] at hw317_1)
  (try rw [show 0 * 3 = 0 from rfl] at hw317_1)
  (try rw [Addr.add_zero'] at hw317_1)
  have hw317_0 := hx317_0
  (try rw [show ((0 : Int)).toNat = 0 from rfl] at hw317_0)
  (try rw [show 0 * 3 = 0 from rfl] at hw317_0)
  (try rw [Addr.add_zero'] at hw317_0)
  cases e317
  have qi317 : (0 < l0_1.length) = True := eq_true (by omega)
  (try rw [show ((0 : Int)).toNat = 0 from rfl] at hx317_0)
  (try rw [show 0 * 3 = 0 from rfl] at hx317_0)
  (try rw [Addr.add_zero'] at hx317_0)
  (try rw [show ((0 : Int)).toNat = 0 from rfl] at hx317_1)
  (try rw [show 0 * 3 = 0 from rfl] at hx317_1)
  (try rw [Addr.add_zero'] at hx317_1)
  (try rw [show ((0 : Int)).toNat = 0 from rfl] at hx317_2)
  (try rw [show 0 * 3 = 0 from rfl] at hx317_2)
  (try rw [Addr.add_zero'] at hx317_2)
  replace hx317_0 := hc_ HB hx317_0
  replace hx317_1 := hc_ HB hx317_1
  replace hx317_2 := hc_ HB hx317_2
  replace p317 := eq_true p317
  replace q317 := eq_true q317
  refine start_ (n := 24) (S := fun w' => w'.cell? ⟨gb312, 0, none⟩ = some (.int .i64 a0_0) ∧ w'.cell? ⟨gb312, 1, none⟩ = some (.slice (some ad317) l0_1.length c0_1) ∧ w'.cell? ⟨gb313, 0, none⟩ = some (.int .i64 a1_0) ∧ w'.cell? ⟨gb313, 1, none⟩ = some (.int .i64 a1_1) ∧ w'.cell? ⟨gb313, 2, none⟩ = some (.int .i64 a1_2) ∧ w'.cell? ad317 = some (.int .i64 ((rd_T27 l0_1 0).f0)) ∧ w'.cell? ⟨ad317.block, ad317.off + 1, none⟩ = some (.int .i64 ((rd_T27 l0_1 0).f1)) ∧ w'.cell? ⟨ad317.block, ad317.off + 2, none⟩ = some (.int .i64 ((rd_T27 l0_1 0).f2))) (ds := []) (bs 24 0) (by kernel_rfl) rfl rfl ⟨bc_ BK312 0, bc_ BK312 1, bc_ BK313 0, bc_ BK313 1, bc_ BK313 2, ((HB.out.cell (World.block_lt_of_cell? w _ hw317_0)).trans hw317_0), ((HB.out.cell (World.block_lt_of_cell? w _ hw317_1)).trans hw317_1), ((HB.out.cell (World.block_lt_of_cell? w _ hw317_2)).trans hw317_2)⟩ (fun hHeld => ?_); refine with_tabW spec_Learn.tab1 spec_Learn.bits1 (fun HT_ HW_ => ?_)
  generalize w12.drew = w13 at BK312 BK313 BK314 HB hx317_0 hx317_1 hx317_2 hHeld ⊢
  refine tk_ 0 6 (bs 24 1) HT_ HW_ hHeld ?_
  refine on_ 1 (some 7) (bs 24 3) HT_ (fun K hK => ?_)
  refine goes_ Try.func9 (by kernel_rfl) rfl #[.agg #[.int .i64 a0_0, .slice (some ad317) l0_1.length c0_1]] (by rfl) rfl rfl tm_ ?_
  with_reducible refine (spec_GoodTable.calls k a0_0 _ _ l0_1 true _ ?side1 ?side2 A3.out).mono ?_
  (case side1 => exact cb_ HR0_1 HB)
  (case side2 => exact HC0_1.out)
  rintro e w14 ⟨rfl, hb⟩
  refine ⟨_, rfl, ?_⟩
  replace BK312 := bb_ BK312 hb
  replace BK313 := bb_ BK313 hb
  replace BK314 := bb_ BK314 hb
  replace HB := bst_ HB hb
  clear hb
  refine hK.out _ _ ⟨bc_ BK312 0, bc_ BK312 1, bc_ BK313 0, bc_ BK313 1, bc_ BK313 2, ((HB.out.cell (World.block_lt_of_cell? w _ hw317_0)).trans hw317_0), ((HB.out.cell (World.block_lt_of_cell? w _ hw317_1)).trans hw317_1), ((HB.out.cell (World.block_lt_of_cell? w _ hw317_2)).trans hw317_2)⟩ (fun hHeld => ?_)
  clear hK K
  refine nm_ 7 ?_
  refine pu_ 2 8 (bs 24 7) HT_ ?_
  refine pu_ 3 9 (bs 24 15) HT_ ?_
  refine tk_ 4 10 (bs 24 31) HT_ HW_ hHeld ?_
  refine on_ 5 (some 11) (bs 24 63) HT_ (fun K hK => ?_)
  refine goes_ Try.func24 (by kernel_rfl) rfl #[.agg #[.int .i64 a1_0, .int .i64 a1_1, .int .i64 a1_2]] (by rfl) rfl rfl tm_ ?_
  with_reducible refine (spec_l13Row.calls a1_0 a1_1 a1_2 true _ A5.out).mono ?_
  rintro e w15 ⟨rfl, hb⟩
  refine ⟨_, rfl, ?_⟩
  replace BK312 := bb_ BK312 hb
  replace BK313 := bb_ BK313 hb
  replace BK314 := bb_ BK314 hb
  replace HB := bst_ HB hb
  clear hb
  refine hK.out _ _ ⟨bc_ BK312 0, bc_ BK312 1, bc_ BK313 0, bc_ BK313 1, bc_ BK313 2, ((HB.out.cell (World.block_lt_of_cell? w _ hw317_0)).trans hw317_0), ((HB.out.cell (World.block_lt_of_cell? w _ hw317_1)).trans hw317_1), ((HB.out.cell (World.block_lt_of_cell? w _ hw317_2)).trans hw317_2)⟩ (fun hHeld => ?_)
  clear hK K
  refine nm_ 11 ?_
  refine pu_ 6 12 (bs 24 127) HT_ ?_
  refine pu_ 7 13 (bs 24 255) HT_ ?_
  refine pu_ 8 14 (bs 24 511) HT_ ?_
  refine pu_ 9 15 (bs 24 1023) HT_ ?_
  refine tk_ 10 16 (bs 24 2047) HT_ HW_ hHeld ?_
  refine pu_ 11 17 (bs 24 4095) HT_ ?_
  refine pu_ 12 18 (bs 24 8191) HT_ ?_
  refine pu_ 13 19 (bs 24 16383) HT_ ?_
  refine pu_ 14 20 (bs 24 32767) HT_ ?_
  refine pu_ 16 22 (bs 24 98303) HT_ ?_
  refine tk_ 15 21 (bs 24 131071) HT_ HW_ hHeld ?_
  refine tk_ 17 23 (bs 24 262143) HT_ HW_ hHeld ?_
  refine pu_ 18 24 (bs 24 524287) HT_ ?_
  refine pu_ 19 25 (bs 24 1048575) HT_ ?_
  refine tk_ 20 26 (bs 24 2097151) HT_ HW_ hHeld ?_
  refine pu_ 21 27 (bs 24 4194303) HT_ ?_
  refine pu_ 22 28 (bs 24 8388607) HT_ ?_
  refine pu_ 23 29 (bs 24 16777215) HT_ ?_
  refine done_ (done_of HT_.out (by kernel_rfl)) ?_
  have hnb16 := NB314_312.out
  have hnc16 := NB312_314.out
  have hnb17 := NB314_313.out
  have hnc17 := NB313_314.out
  have hcz18_0 : w15.cell? ⟨gb314, 0, none⟩ = some (.int .i64 0) := bc_ BK314 0
  have hcz18_1 : w15.cell? ⟨gb314, 1, none⟩ = some (.slice none 0 0) := bc_ BK314 1
  have hfz18_0 := blk_frozen BK314.out 0
  have hfz18_1 := blk_frozen BK314.out 1
  try go_wp2
  refine bodyPost_ret (results_ct rfl _ _ gb314 25 #[.int .i64 0, .slice none 0 0] (0, 0) _ rfl (by (with_reducible repeat (first | refine blk_drewN ?_ _ | refine blk_drew ?_ | refine blk_alloc ?_ _)); refine blk_put (cs := #[.int .i64 0, .slice none 0 0]) ?_ 1 _ rfl; (with_reducible repeat (first | refine blk_drewN ?_ _ | refine blk_drew ?_ | refine blk_alloc ?_ _)); refine blk_put (cs := #[.int .i64 0, .slice none 0 0]) ?_ 0 _ rfl; (with_reducible repeat (first | refine blk_drewN ?_ _ | refine blk_drew ?_ | refine blk_alloc ?_ _)); exact BK314.out) Try.underlying25 rfl (by kernel_rfl)) rfl ?_
  exact ⟨_, rt_, by first | exact Kd.R_nil _ _ _ _ _ | exact Kd.N_nil _ _ _ _ _ | exact Kd.V_nil _ _ _ _ _ | exact Kd.Q_nil _ _ _ _ _ | exact Kd.S_nil _ _ _ _ _, hB HB⟩
 rw [if_neg c9] at H
 have c9b0 : decide (a1_2 < ((rd_T27 l0_1 0).f2)) = false := decide_eq_false c9
 clear c9
 replace H := Option.bind_eq_some_iff.mp H
 obtain ⟨⟨t318, t319⟩, A190, H⟩ := H
 replace H : (some (t318, t319, true)) = some (r1, r2, r3) := H
 have A19 := Aside0.mk A190
 clear A190
 simp only [Option.some.injEq, Prod.mk.injEq] at H
 obtain ⟨rfl, rfl, rfl⟩ := H
 go_enter Try.func6, Try.ntmps6
 try go_wp2_with (first | ((with_reducible refine gate_dst (N := 2) rfl ?_); (try (refine gate_guard (by rfl) ?_; dsimp only)); refine box_event ?hg (N := 2) ?hd (cs := #[.int .i64 a0_0, .slice A0_1 l0_1.length c0_1]) (t := 25) ?hr ?_; (case hd => rfl); (case hg => rfl); (case hr => first | (go_simp; done) | (go_simp; rfl)); intro gb312 hg w20 hbox hb; have BK312 := Aside0.mk (hbox); have GW312 := gw_ hg HB; have GE312 := gw_ hg HB; replace HB := bst_ HB hb; clear hb hbox hg) | ((with_reducible refine gate_dst (N := 3) rfl ?_); (try (refine gate_guard (by rfl) ?_; dsimp only)); refine box_event ?hg (N := 3) ?hd (cs := #[.int .i64 a1_0, .int .i64 a1_1, .int .i64 a1_2]) (t := 27) ?hr ?_; (case hd => rfl); (case hg => rfl); (case hr => first | (go_simp; done) | (go_simp; rfl)); intro gb313 hg w21 hbox hb; have BK313 := Aside0.mk (hbox); have GW313 := gw_ hg HB; have GE313 := gw_ hg HB; have NB312_313 := nl_ hg BK312; have NB313_312 := ng_ hg BK312; replace BK312 := bb_ BK312 hb; replace HB := bst_ HB hb; clear hb hbox hg) | ((with_reducible refine gate_dst (N := 4) rfl ?_); (try (refine gate_guard (by rfl) ?_; dsimp only)); refine box_event ?hg (N := 4) ?hd (cs := #[.int .i64 0, .slice none 0 0]) (t := 25) ?hr ?_; (case hd => rfl); (case hg => rfl); (case hr => first | (go_simp; done) | (go_simp; rfl)); intro gb314 hg w22 hbox hb; have BK314 := Aside0.mk (hbox); have GW314 := gw_ hg HB; have GE314 := gw_ hg HB; have NB312_314 := nl_ hg BK312; have NB314_312 := ng_ hg BK312; have NB313_314 := nl_ hg BK313; have NB314_313 := ng_ hg BK313; replace BK312 := bb_ BK312 hb; replace BK313 := bb_ BK313 hb; replace HB := bst_ HB hb; clear hb hbox hg))
 replace BK312 := bd_ BK312
 replace BK313 := bd_ BK313
 replace BK314 := bd_ BK314
 replace HB := Aside0.mk (below_drew1 HB.out)
 have p317 : 0 ≤ (0 : Int) := (by omega)
 have q317 : 0 < (l0_1.length : Int) := od_
 obtain ⟨ad317, e317, hx317_0, hx317_1, hx317_2⟩ := at_T27 HR0_1.out 0 p317 q317
 have hw317_2 := hx317_2
 (try rw [show ((0 : Int)).toNat = 0 from rfl] at hw317_2)
 (try rw [show 0 * 3 = 0 from rfl] at hw317_2)
 (try rw [Addr.add_zero'] at hw317_2)
 have hw317_1 := hx317_1
 (try rw [show ((0 : Int)).toNat = 0 from rfl] at hw317_1)
 (try rw [show 0 * 3 = 0 from rfl] at hw317_1)
 (try rw [Addr.add_zero'] at hw317_1)
 have hw317_0 := hx317_0
 (try rw [show ((0 : Int)).toNat = 0 from rfl] at hw317_0)
 (try rw [show 0 * 3 = 0 from rfl] at hw317_0)
 (try rw [Addr.add_zero'] at hw317_0)
 cases e317
 have qi317 : (0 < l0_1.length) = True := eq_true (by omega)
 (try rw [show ((0 : Int)).toNat = 0 from rfl] at hx317_0)
 (try rw [show 0 * 3 = 0 from rfl] at hx317_0)
 (try rw [Addr.add_zero'] at hx317_0)
 (try rw [show ((0 : Int)).toNat = 0 from rfl] at hx317_1)
 (try rw [show 0 * 3 = 0 from rfl] at hx317_1)
 (try rw [Addr.add_zero'] at hx317_1)
 (try rw [show ((0 : Int)).toNat = 0 from rfl] at hx317_2)
 (try rw [show 0 * 3 = 0 from rfl] at hx317_2)
 (try rw [Addr.add_zero'] at hx317_2)
 replace hx317_0 := hc_ HB hx317_0
 replace hx317_1 := hc_ HB hx317_1
 replace hx317_2 := hc_ HB hx317_2
 replace p317 := eq_true p317
 replace q317 := eq_true q317
 refine start_ (n := 24) (S := fun w' => w'.cell? ⟨gb312, 0, none⟩ = some (.int .i64 a0_0) ∧ w'.cell? ⟨gb312, 1, none⟩ = some (.slice (some ad317) l0_1.length c0_1) ∧ w'.cell? ⟨gb313, 0, none⟩ = some (.int .i64 a1_0) ∧ w'.cell? ⟨gb313, 1, none⟩ = some (.int .i64 a1_1) ∧ w'.cell? ⟨gb313, 2, none⟩ = some (.int .i64 a1_2) ∧ w'.cell? ad317 = some (.int .i64 ((rd_T27 l0_1 0).f0)) ∧ w'.cell? ⟨ad317.block, ad317.off + 1, none⟩ = some (.int .i64 ((rd_T27 l0_1 0).f1)) ∧ w'.cell? ⟨ad317.block, ad317.off + 2, none⟩ = some (.int .i64 ((rd_T27 l0_1 0).f2))) (ds := []) (bs 24 0) (by kernel_rfl) rfl rfl ⟨bc_ BK312 0, bc_ BK312 1, bc_ BK313 0, bc_ BK313 1, bc_ BK313 2, ((HB.out.cell (World.block_lt_of_cell? w _ hw317_0)).trans hw317_0), ((HB.out.cell (World.block_lt_of_cell? w _ hw317_1)).trans hw317_1), ((HB.out.cell (World.block_lt_of_cell? w _ hw317_2)).trans hw317_2)⟩ (fun hHeld => ?_); refine with_tabW spec_Learn.tab1 spec_Learn.bits1 (fun HT_ HW_ => ?_)
 generalize w22.drew = w23 at BK312 BK313 BK314 HB hx317_0 hx317_1 hx317_2 hHeld ⊢
 refine tk_ 0 6 (bs 24 1) HT_ HW_ hHeld ?_
 refine on_ 1 (some 7) (bs 24 3) HT_ (fun K hK => ?_)
 refine goes_ Try.func9 (by kernel_rfl) rfl #[.agg #[.int .i64 a0_0, .slice (some ad317) l0_1.length c0_1]] (by rfl) rfl rfl tm_ ?_
 with_reducible refine (spec_GoodTable.calls k a0_0 _ _ l0_1 true _ ?side1 ?side2 A3.out).mono ?_
 (case side1 => exact cb_ HR0_1 HB)
 (case side2 => exact HC0_1.out)
 rintro e w24 ⟨rfl, hb⟩
 refine ⟨_, rfl, ?_⟩
 replace BK312 := bb_ BK312 hb
 replace BK313 := bb_ BK313 hb
 replace BK314 := bb_ BK314 hb
 replace HB := bst_ HB hb
 clear hb
 refine hK.out _ _ ⟨bc_ BK312 0, bc_ BK312 1, bc_ BK313 0, bc_ BK313 1, bc_ BK313 2, ((HB.out.cell (World.block_lt_of_cell? w _ hw317_0)).trans hw317_0), ((HB.out.cell (World.block_lt_of_cell? w _ hw317_1)).trans hw317_1), ((HB.out.cell (World.block_lt_of_cell? w _ hw317_2)).trans hw317_2)⟩ (fun hHeld => ?_)
 clear hK K
 refine nm_ 7 ?_
 refine pu_ 2 8 (bs 24 7) HT_ ?_
 refine pu_ 3 9 (bs 24 15) HT_ ?_
 refine tk_ 4 10 (bs 24 31) HT_ HW_ hHeld ?_
 refine on_ 5 (some 11) (bs 24 63) HT_ (fun K hK => ?_)
 refine goes_ Try.func24 (by kernel_rfl) rfl #[.agg #[.int .i64 a1_0, .int .i64 a1_1, .int .i64 a1_2]] (by rfl) rfl rfl tm_ ?_
 with_reducible refine (spec_l13Row.calls a1_0 a1_1 a1_2 true _ A5.out).mono ?_
 rintro e w25 ⟨rfl, hb⟩
 refine ⟨_, rfl, ?_⟩
 replace BK312 := bb_ BK312 hb
 replace BK313 := bb_ BK313 hb
 replace BK314 := bb_ BK314 hb
 replace HB := bst_ HB hb
 clear hb
 refine hK.out _ _ ⟨bc_ BK312 0, bc_ BK312 1, bc_ BK313 0, bc_ BK313 1, bc_ BK313 2, ((HB.out.cell (World.block_lt_of_cell? w _ hw317_0)).trans hw317_0), ((HB.out.cell (World.block_lt_of_cell? w _ hw317_1)).trans hw317_1), ((HB.out.cell (World.block_lt_of_cell? w _ hw317_2)).trans hw317_2)⟩ (fun hHeld => ?_)
 clear hK K
 refine nm_ 11 ?_
 refine pu_ 6 12 (bs 24 127) HT_ ?_
 refine pu_ 7 13 (bs 24 255) HT_ ?_
 refine pu_ 8 14 (bs 24 511) HT_ ?_
 refine pu_ 9 15 (bs 24 1023) HT_ ?_
 refine tk_ 10 16 (bs 24 2047) HT_ HW_ hHeld ?_
 refine pu_ 11 17 (bs 24 4095) HT_ ?_
 refine pu_ 12 18 (bs 24 8191) HT_ ?_
 refine pu_ 13 19 (bs 24 16383) HT_ ?_
 refine pu_ 14 20 (bs 24 32767) HT_ ?_
 refine pu_ 16 22 (bs 24 98303) HT_ ?_
 refine tk_ 15 21 (bs 24 131071) HT_ HW_ hHeld ?_
 refine tk_ 17 23 (bs 24 262143) HT_ HW_ hHeld ?_
 refine pu_ 18 24 (bs 24 524287) HT_ ?_
 refine pu_ 19 25 (bs 24 1048575) HT_ ?_
 refine tk_ 20 26 (bs 24 2097151) HT_ HW_ hHeld ?_
 refine pu_ 21 27 (bs 24 4194303) HT_ ?_
 refine pu_ 22 28 (bs 24 8388607) HT_ ?_
 refine pu_ 23 29 (bs 24 16777215) HT_ ?_
 refine done_ (done_of HT_.out (by kernel_rfl)) ?_
 have hnb26 := NB312_313.out
 have hnc26 := NB313_312.out
 have hnb27 := NB312_314.out
 have hnc27 := NB314_312.out
 have hcz28_0 : w25.cell? ⟨gb312, 0, none⟩ = some (.int .i64 a0_0) := bc_ BK312 0
 have hcz28_1 : w25.cell? ⟨gb312, 1, none⟩ = some (.slice (some ad317) l0_1.length c0_1) := bc_ BK312 1
 have hfz28_0 := blk_frozen BK312.out 0
 have hfz28_1 := blk_frozen BK312.out 1
 have hnb29 := NB313_314.out
 have hnc29 := NB314_313.out
 have hcz30_0 : w25.cell? ⟨gb313, 0, none⟩ = some (.int .i64 a1_0) := bc_ BK313 0
 have hcz30_1 : w25.cell? ⟨gb313, 1, none⟩ = some (.int .i64 a1_1) := bc_ BK313 1
 have hcz30_2 : w25.cell? ⟨gb313, 2, none⟩ = some (.int .i64 a1_2) := bc_ BK313 2
 have hfz30_0 := blk_frozen BK313.out 0
 have hfz30_1 := blk_frozen BK313.out 1
 have hfz30_2 := blk_frozen BK313.out 2
 try go_wp2_with (first | (refine goesL_ (some 33) rfl rfl Try.func25 (by kernel_rfl) rfl #[.agg #[.int .i64 a0_0, .slice (some ad317) l0_1.length c0_1], .agg #[.int .i64 a1_0, .int .i64 a1_1, .int .i64 a1_2]] rfl tm_ ?_; (with_reducible refine (spec_l13Learn.calls k a0_0 _ _ l0_1 a1_0 a1_1 a1_2 t318 t319 _ ?side1 ?side2 A19.out).mono ?_); (case side1 => exact cb_ HR0_1 HB); (case side2 => exact HC0_1.out); rintro e w31 ⟨v320, rfl, ho0, hb⟩; refine ⟨_, rfl, ?_⟩; have HO321 := Aside0.mk (Kd.R_lower (Kd.R_newB ho0 (g := gb313) (o := .cells #[.int .i64 a1_0, .int .i64 a1_1, .int .i64 a1_2] 27 (0, 0)) (ba BK313.out)) (below_size (hB HB))); replace BK312 := bb_ BK312 hb; replace BK313 := bb_ BK313 hb; replace BK314 := bb_ BK314 hb; replace HB := bst_ HB hb; clear hb ho0; obtain ⟨hcz32_0, hcz32_1⟩ := bcs2_ BK314; have hfz32_0 := blk_frozen BK314.out 0; have hfz32_1 := blk_frozen BK314.out 1; obtain ⟨Ao33, co33, eo33⟩ := Kd.R_slice HO321.out; subst eo33))
 refine bodyPost_ret (results_ct rfl _ _ gb314 25 #[.int .i64 t318, .slice Ao33 t319.length co33] (0, 0) _ rfl (by (with_reducible repeat (first | refine blk_drewN ?_ _ | refine blk_drew ?_ | refine blk_alloc ?_ _)); refine blk_put (cs := #[.int .i64 t318, .slice none 0 0]) ?_ 1 _ rfl; (with_reducible repeat (first | refine blk_drewN ?_ _ | refine blk_drew ?_ | refine blk_alloc ?_ _)); refine blk_put (cs := #[.int .i64 0, .slice none 0 0]) ?_ 0 _ rfl; (with_reducible repeat (first | refine blk_drewN ?_ _ | refine blk_drew ?_ | refine blk_alloc ?_ _)); exact BK314.out) Try.underlying25 rfl (by kernel_rfl)) rfl ?_
 exact ⟨_, rt_, by (with_reducible repeat (first | apply Kd.R_alloc | apply Kd.R_drewN | apply Kd.R_drew)); exact Kd.R_mono (fs2_ HO321.out BK314.out) (fun _ hk => trivial), hB HB⟩

mutual
def laws_sameTable.j0 : Nat → Bool → Int → List (S27) → Int → List (S27) → Option (Bool)
 | 0, _, _, _, _, _ => none
 | k + 1, x19, x327000, x327001, x328000, x328001 => if x19 = true then (some false) else (laws_sameTable.l0 k (x327001.length : Int) 0 x327000 x327001 x328000 x328001)
def laws_sameTable.l0 : Nat → Int → Int → Int → List (S27) → Int → List (S27) → Option (Bool)
 | 0, _, _, _, _, _, _ => none
 | k + 1, x22, x23, x327000, x327001, x328000, x328001 => if x23 < x22 then (if 0 ≤ x23 then (if x23 < (x327001.length : Int) then (if x23 < (x328001.length : Int) then (if (!(((rd_T27 x327001 x23).f0) == ((rd_T27 x328001 x23).f0)) || (!(((rd_T27 x327001 x23).f1) == ((rd_T27 x328001 x23).f1)) || (!(((rd_T27 x327001 x23).f2) == ((rd_T27 x328001 x23).f2))))) = true then (some false) else (laws_sameTable.l0 k x22 (wrap64 (x23 + 1)) x327000 x327001 x328000 x328001)) else (none)) else (none)) else (none)) else (some true)
end
def laws_sameTable.f (k : Nat) (a0_0 : Int) (l0_1 : List (S27)) (a1_0 : Int) (l1_1 : List (S27)) : Option (Bool) := if a0_0 = a1_0 then (laws_sameTable.j0 k ((l0_1.length : Int) != (l1_1.length : Int)) a0_0 l0_1 a1_0 l1_1) else (laws_sameTable.j0 k true a0_0 l0_1 a1_0 l1_1)
theorem laws_sameTable.mono_l : ∀ k, (∀ y0 y1 y2 y3 y4, LeO (laws_sameTable.j0 k y0 y1 y2 y3 y4) (laws_sameTable.j0 (k + 1) y0 y1 y2 y3 y4)) ∧ (∀ y0 y1 y2 y3 y4 y5, LeO (laws_sameTable.l0 k y0 y1 y2 y3 y4 y5) (laws_sameTable.l0 (k + 1) y0 y1 y2 y3 y4 y5))
 | 0 => ⟨fun _ _ _ _ _ r h => by simp [laws_sameTable.j0] at h, fun _ _ _ _ _ _ r h => by simp [laws_sameTable.l0] at h⟩
 | k + 1 => by
  obtain ⟨ih0, ih1⟩ := laws_sameTable.mono_l k
  refine ⟨?_, ?_⟩
  ·intro y0 y1 y2 y3 y4
   unfold laws_sameTable.j0
   repeat' first
   | (with_reducible exact ih0 _ _ _ _ _)
   | (with_reducible exact ih1 _ _ _ _ _ _)
   | with_reducible first | exact LeO.refl _ | exact LeO.none _ | refine LeO.ite ?_ ?_ | refine LeO.bind ?_ fun _ => ?_
  ·intro y0 y1 y2 y3 y4 y5
   unfold laws_sameTable.l0
   repeat' first
   | (with_reducible exact ih0 _ _ _ _ _)
   | (with_reducible exact ih1 _ _ _ _ _ _)
   | with_reducible first | exact LeO.refl _ | exact LeO.none _ | refine LeO.ite ?_ ?_ | refine LeO.bind ?_ fun _ => ?_
theorem laws_sameTable.mono : ∀ a0 a1 a2 a3 k, LeO (laws_sameTable.f k a0 a1 a2 a3) (laws_sameTable.f (k + 1) a0 a1 a2 a3) := by
 intro a0 a1 a2 a3 k
 obtain ⟨ih0, ih1⟩ := laws_sameTable.mono_l k
 unfold laws_sameTable.f
 repeat' first
   | (with_reducible exact ih0 _ _ _ _ _)
   | (with_reducible exact ih1 _ _ _ _ _ _)
   | with_reducible first | exact LeO.refl _ | exact LeO.none _ | refine LeO.ite ?_ ?_ | refine LeO.bind ?_ fun _ => ?_
set_option maxHeartbeats 8000000 in
set_option maxRecDepth 100000 in
theorem laws_sameTable.calls (k : Nat) (a0_0 : Int) (A0_1 : Option Addr) (c0_1 : Nat) (l0_1 : List (S27)) (a1_0 : Int) (A1_1 : Option Addr) (c1_1 : Nat) (l1_1 : List (S27)) (r : Bool) (w : World) (hr0_1 : Kd.C k27 w A0_1 l0_1.length l0_1) (hc0_1 : l0_1.length ≤ c0_1) (hr1_1 : Kd.C k27 w A1_1 l1_1.length l1_1) (hc1_1 : l1_1.length ≤ c1_1) (h : laws_sameTable.f k a0_0 l0_1 a1_0 l1_1 = some r) :
  Calls Try.prog 7 #[.agg #[.int .i64 a0_0, .slice A0_1 l0_1.length c0_1], .agg #[.int .i64 a1_0, .slice A1_1 l1_1.length c1_1]] w fun e w' => e = .returned (.bool r) ∧ Below w.heap.size w w' := by
 have hu25 := Try.underlying25
 have hu27 := Try.underlying27
 have HR0_1 := Aside0.mk hr0_1
 have HC0_1 := Aside0.mk hc0_1
 clear hr0_1 hc0_1
 have HR1_1 := Aside0.mk hr1_1
 have HC1_1 := Aside0.mk hc1_1
 clear hr1_1 hc1_1
 have HB := Aside0.mk (Below.refl w.heap.size w)
 have H : (if a0_0 = a1_0 then (laws_sameTable.j0 k ((l0_1.length : Int) != (l1_1.length : Int)) a0_0 l0_1 a1_0 l1_1) else (laws_sameTable.j0 k true a0_0 l0_1 a1_0 l1_1)) = some r := h
 clear h
 have HC3 := Aside0.mk H
 clear H
 go_enter Try.func7, Try.ntmps7
 go_upto_region 1 with (first | ((with_reducible refine gate_dst (N := 2) rfl ?_); (try (refine gate_guard (by rfl) ?_; dsimp only)); refine box_event ?hg (N := 2) ?hd (cs := #[.int .i64 a0_0, .slice A0_1 l0_1.length c0_1]) (t := 25) ?hr ?_; (case hd => rfl); (case hg => rfl); (case hr => first | (go_simp; done) | (go_simp; rfl)); intro gb326 hg w4 hbox hb; have BK326 := Aside0.mk (hbox); have GW326 := gw_ hg HB; have GE326 := gw_ hg HB; replace HB := bst_ HB hb; clear hb hbox hg) | ((with_reducible refine gate_dst (N := 3) rfl ?_); (try (refine gate_guard (by rfl) ?_; dsimp only)); refine box_event ?hg (N := 3) ?hd (cs := #[.int .i64 a1_0, .slice A1_1 l1_1.length c1_1]) (t := 25) ?hr ?_; (case hd => rfl); (case hg => rfl); (case hr => first | (go_simp; done) | (go_simp; rfl)); intro gb327 hg w5 hbox hb; have BK327 := Aside0.mk (hbox); have GW327 := gw_ hg HB; have GE327 := gw_ hg HB; have NB326_327 := nl_ hg BK326; have NB327_326 := ng_ hg BK326; replace BK326 := bb_ BK326 hb; replace HB := bst_ HB hb; clear hb hbox hg))
 repeat (go_quiet (first | ((with_reducible refine gate_dst (N := 2) rfl ?_); (try (refine gate_guard (by rfl) ?_; dsimp only)); refine box_event ?hg (N := 2) ?hd (cs := #[.int .i64 a0_0, .slice A0_1 l0_1.length c0_1]) (t := 25) ?hr ?_; (case hd => rfl); (case hg => rfl); (case hr => first | (go_simp; done) | (go_simp; rfl)); intro gb326 hg w4 hbox hb; have BK326 := Aside0.mk (hbox); have GW326 := gw_ hg HB; have GE326 := gw_ hg HB; replace HB := bst_ HB hb; clear hb hbox hg) | ((with_reducible refine gate_dst (N := 3) rfl ?_); (try (refine gate_guard (by rfl) ?_; dsimp only)); refine box_event ?hg (N := 3) ?hd (cs := #[.int .i64 a1_0, .slice A1_1 l1_1.length c1_1]) (t := 25) ?hr ?_; (case hd => rfl); (case hg => rfl); (case hr => first | (go_simp; done) | (go_simp; rfl)); intro gb327 hg w5 hbox hb; have BK327 := Aside0.mk (hbox); have GW327 := gw_ hg HB; have GE327 := gw_ hg HB; have NB326_327 := nl_ hg BK326; have NB327_326 := ng_ hg BK326; replace BK326 := bb_ BK326 hb; replace HB := bst_ HB hb; clear hb hbox hg)); go_upto_region 1 with (first | ((with_reducible refine gate_dst (N := 2) rfl ?_); (try (refine gate_guard (by rfl) ?_; dsimp only)); refine box_event ?hg (N := 2) ?hd (cs := #[.int .i64 a0_0, .slice A0_1 l0_1.length c0_1]) (t := 25) ?hr ?_; (case hd => rfl); (case hg => rfl); (case hr => first | (go_simp; done) | (go_simp; rfl)); intro gb326 hg w4 hbox hb; have BK326 := Aside0.mk (hbox); have GW326 := gw_ hg HB; have GE326 := gw_ hg HB; replace HB := bst_ HB hb; clear hb hbox hg) | ((with_reducible refine gate_dst (N := 3) rfl ?_); (try (refine gate_guard (by rfl) ?_; dsimp only)); refine box_event ?hg (N := 3) ?hd (cs := #[.int .i64 a1_0, .slice A1_1 l1_1.length c1_1]) (t := 25) ?hr ?_; (case hd => rfl); (case hg => rfl); (case hr => first | (go_simp; done) | (go_simp; rfl)); intro gb327 hg w5 hbox hb; have BK327 := Aside0.mk (hbox); have GW327 := gw_ hg HB; have GE327 := gw_ hg HB; have NB326_327 := nl_ hg BK326; have NB327_326 := ng_ hg BK326; replace BK326 := bb_ BK326 hb; replace HB := bst_ HB hb; clear hb hbox hg)))
 (try simp only [Act.put, List.setIfInBounds_toArray, List.set_cons_zero, List.set_cons_succ])
 go_cut [19] (fun v19 wc => ∃ (kq : Nat) (x19_2 : Bool), v19 = .bool x19_2 ∧ Aside0 (laws_sameTable.j0 kq x19_2 a0_0 l0_1 a1_0 l1_1 = some r) ∧ Aside0 (kq ≤ k) ∧ Aside0 (wc.heap[gb326]? = some (.cells #[.int .i64 a0_0, (.slice A0_1 l0_1.length c0_1)] 25 (0, 0))) ∧ Aside0 (wc.heap[gb327]? = some (.cells #[.int .i64 a1_0, (.slice A1_1 l1_1.length c1_1)] 25 (0, 0))) ∧ Aside0 (Below w.heap.size w wc))
 case first =>
  have H := HC3.out
  clear HC3
  by_cases c6 : a0_0 = a1_0
  rotate_left
  ·rw [if_neg c6] at H
   have c6b0 : (a0_0 == a1_0) = false := beq_eq_false_iff_ne.mpr c6
   have c6b1 : (a0_0 != a1_0) = true := bne_iff_ne.mpr c6
   (first | rw [c6b0] | (simp only [i64_w, i32_w]; rw [c6b0]) | skip)
   have H' := Aside0.mk H
   clear H
   have hnb10 := NB326_327.out
   have hnc10 := NB327_326.out
   have hcz11_0 : w5.cell? ⟨gb326, 0, none⟩ = some (.int .i64 a0_0) := bc_ BK326 0
   have hcz11_1 : w5.cell? ⟨gb326, 1, none⟩ = some (.slice A0_1 l0_1.length c0_1) := bc_ BK326 1
   have hfz11_0 := blk_frozen BK326.out 0
   have hfz11_1 := blk_frozen BK326.out 1
   have hcz12_0 : w5.cell? ⟨gb327, 0, none⟩ = some (.int .i64 a1_0) := bc_ BK327 0
   have hcz12_1 : w5.cell? ⟨gb327, 1, none⟩ = some (.slice A1_1 l1_1.length c1_1) := bc_ BK327 1
   have hfz12_0 := blk_frozen BK327.out 0
   have hfz12_1 := blk_frozen BK327.out 1
   go_wp2
   repeat (go_quiet (fail); try go_wp2)
   go_meet
   case rel => exact ⟨_, (true), (by first | rfl | (simp; done) | (simp [*]; done)), H', ⟨by first | omega | exact Nat.le_refl _⟩, ⟨by (with_reducible repeat (first | refine blk_drewN ?_ _ | refine blk_drew ?_ | refine blk_alloc ?_ _)); exact BK326.out⟩, ⟨by (with_reducible repeat (first | refine blk_drewN ?_ _ | refine blk_drew ?_ | refine blk_alloc ?_ _)); exact BK327.out⟩, ⟨hB HB⟩⟩
  rw [if_pos c6] at H
  have c6b0 : (a0_0 == a1_0) = true := beq_iff_eq.mpr c6
  have c6b1 : (a0_0 != a1_0) = false := bne_eq_false_iff_eq.mpr c6
  clear c6
  (first | rw [c6b0] | (simp only [i64_w, i32_w]; rw [c6b0]) | skip)
  have H' := Aside0.mk H
  clear H
  have hnb7 := NB326_327.out
  have hnc7 := NB327_326.out
  have hcz8_0 : w5.cell? ⟨gb326, 0, none⟩ = some (.int .i64 a0_0) := bc_ BK326 0
  have hcz8_1 : w5.cell? ⟨gb326, 1, none⟩ = some (.slice A0_1 l0_1.length c0_1) := bc_ BK326 1
  have hfz8_0 := blk_frozen BK326.out 0
  have hfz8_1 := blk_frozen BK326.out 1
  have hcz9_0 : w5.cell? ⟨gb327, 0, none⟩ = some (.int .i64 a1_0) := bc_ BK327 0
  have hcz9_1 : w5.cell? ⟨gb327, 1, none⟩ = some (.slice A1_1 l1_1.length c1_1) := bc_ BK327 1
  have hfz9_0 := blk_frozen BK327.out 0
  have hfz9_1 := blk_frozen BK327.out 1
  go_wp2
  repeat (go_quiet (fail); try go_wp2)
  go_meet
  case rel => exact ⟨_, (((l0_1.length : Int) != (l1_1.length : Int))), (by first | rfl | (simp; done) | (simp [*]; done)), H', ⟨by first | omega | exact Nat.le_refl _⟩, ⟨by (with_reducible repeat (first | refine blk_drewN ?_ _ | refine blk_drew ?_ | refine blk_alloc ?_ _)); exact BK326.out⟩, ⟨by (with_reducible repeat (first | refine blk_drewN ?_ _ | refine blk_drew ?_ | refine blk_alloc ?_ _)); exact BK327.out⟩, ⟨hB HB⟩⟩
 case rest =>
  clear HC3
  obtain ⟨kq, x19_2, rfl, HA, HJ2, BK326, BK327, HB⟩ := hcut
  cases kq with
  | zero => exact absurd HA.out (by simp [laws_sameTable.j0])
  | succ kj2 =>
   have H := HA.out
   clear HA
   simp only [laws_sameTable.j0] at H
   by_cases c13 : x19_2 = true
   ·subst c13
    rw [if_pos rfl] at H
    obtain rfl := Option.some.inj H
    go_wp2
    repeat (go_quiet (fail); try go_wp2)
    go_ret
    exact ⟨rt_, hB HB⟩
   replace c13 := Bool.eq_false_iff.mpr c13
   subst c13
   rw [if_neg (show ¬ (false = true) by decide)] at H
   have H' := Aside0.mk H
   clear H
   have hnb14 := NB326_327.out
   have hnc14 := NB327_326.out
   have hcz15_0 : wc.cell? ⟨gb326, 0, none⟩ = some (.int .i64 a0_0) := bc_ BK326 0
   have hcz15_1 : wc.cell? ⟨gb326, 1, none⟩ = some (.slice A0_1 l0_1.length c0_1) := bc_ BK326 1
   have hfz15_0 := blk_frozen BK326.out 0
   have hfz15_1 := blk_frozen BK326.out 1
   go_wp2
   repeat (go_quiet (fail); try go_wp2)
   go_loopg [23] kj2 (fun kq v23 w' => ∃ (x23_2 : Int), v23 = .int .i64 x23_2 ∧ Aside0 (laws_sameTable.l0 kq (l0_1.length : Int) x23_2 a0_0 l0_1 a1_0 l1_1 = some r) ∧ Aside0 (kq ≤ kj2) ∧ Aside0 (w'.heap[gb326]? = some (.cells #[.int .i64 a0_0, (.slice A0_1 l0_1.length c0_1)] 25 (0, 0))) ∧ Aside0 (w'.heap[gb327]? = some (.cells #[.int .i64 a1_0, (.slice A1_1 l1_1.length c1_1)] 25 (0, 0))) ∧ Aside0 (Below w.heap.size w w'))
   case atStart => exact ⟨(0), (by first | rfl | (simp; done) | (simp [*]; done)), H', ⟨Nat.le_refl _⟩, ⟨by (with_reducible repeat (first | refine blk_drewN ?_ _ | refine blk_drew ?_ | refine blk_alloc ?_ _)); exact BK326.out⟩, ⟨by (with_reducible repeat (first | refine blk_drewN ?_ _ | refine blk_drew ?_ | refine blk_alloc ?_ _)); exact BK327.out⟩, ⟨hB HB⟩⟩
   case round =>
    clear H'
    try clear c13
    try clear hcz15_0
    try clear hcz15_1
    try clear hfz15_0
    try clear hfz15_1
    obtain ⟨x23_2, rfl, HA, HK2, BK326, BK327, HB⟩ := hrel
    cases gk with
    | zero => exact absurd HA.out (by simp [laws_sameTable.l0])
    | succ k2 =>
     have H := HA.out
     clear HA
     simp only [laws_sameTable.l0] at H
     by_cases c16 : x23_2 < (l0_1.length : Int)
     rotate_left
     ·rw [if_neg c16] at H
      have c16b0 : decide (x23_2 < (l0_1.length : Int)) = false := decide_eq_false c16
      clear c16
      obtain rfl := Option.some.inj H
      go_wp2
      repeat (go_quiet (fail); try go_wp2)
      go_ret
      exact ⟨rt_, hB HB⟩
     rw [if_pos c16] at H
     have c16b0 : decide (x23_2 < (l0_1.length : Int)) = true := decide_eq_true c16
     clear c16
     by_cases c17 : 0 ≤ x23_2
     rotate_left
     ·rw [if_neg c17] at H
      exact absurd H (by simp)
     rw [if_pos c17] at H
     have c17b0 : decide (0 ≤ x23_2) = true := decide_eq_true c17
     clear c17
     by_cases c18 : x23_2 < (l0_1.length : Int)
     rotate_left
     ·rw [if_neg c18] at H
      exact absurd H (by simp)
     rw [if_pos c18] at H
     have c18b0 : decide (x23_2 < (l0_1.length : Int)) = true := decide_eq_true c18
     clear c18
     by_cases c19 : x23_2 < (l1_1.length : Int)
     rotate_left
     ·rw [if_neg c19] at H
      exact absurd H (by simp)
     rw [if_pos c19] at H
     have c19b0 : decide (x23_2 < (l1_1.length : Int)) = true := decide_eq_true c19
     clear c19
     by_cases c20 : (!(((rd_T27 l0_1 x23_2).f0) == ((rd_T27 l1_1 x23_2).f0)) || (!(((rd_T27 l0_1 x23_2).f1) == ((rd_T27 l1_1 x23_2).f1)) || (!(((rd_T27 l0_1 x23_2).f2) == ((rd_T27 l1_1 x23_2).f2))))) = true
     ·rw [if_pos c20] at H
      have c20b0 : (!(((rd_T27 l0_1 x23_2).f0) == ((rd_T27 l1_1 x23_2).f0)) || (!(((rd_T27 l0_1 x23_2).f1) == ((rd_T27 l1_1 x23_2).f1)) || (!(((rd_T27 l0_1 x23_2).f2) == ((rd_T27 l1_1 x23_2).f2))))) = true := c20
      clear c20
      obtain rfl := Option.some.inj H
      have hnb21 := NB326_327.out
      have hnc21 := NB327_326.out
      have hcz22_0 : wr.cell? ⟨gb326, 0, none⟩ = some (.int .i64 a0_0) := bc_ BK326 0
      have hcz22_1 : wr.cell? ⟨gb326, 1, none⟩ = some (.slice A0_1 l0_1.length c0_1) := bc_ BK326 1
      have hfz22_0 := blk_frozen BK326.out 0
      have hfz22_1 := blk_frozen BK326.out 1
      have p328 : 0 ≤ (x23_2 : Int) := od_
      have q328 : x23_2 < (l0_1.length : Int) := od_
      obtain ⟨ad328, e328, hx328_0, hx328_1, hx328_2⟩ := at_T27 HR0_1.out x23_2 p328 q328
      cases e328
      replace hx328_0 := hc_ HB hx328_0
      replace hx328_1 := hc_ HB hx328_1
      replace hx328_2 := hc_ HB hx328_2
      replace p328 := eq_true p328
      replace q328 := eq_true q328
      have hcz23_0 : wr.cell? ⟨gb327, 0, none⟩ = some (.int .i64 a1_0) := bc_ BK327 0
      have hcz23_1 : wr.cell? ⟨gb327, 1, none⟩ = some (.slice A1_1 l1_1.length c1_1) := bc_ BK327 1
      have hfz23_0 := blk_frozen BK327.out 0
      have hfz23_1 := blk_frozen BK327.out 1
      have p329 : 0 ≤ (x23_2 : Int) := od_
      have q329 : x23_2 < (l1_1.length : Int) := od_
      obtain ⟨ad329, e329, hx329_0, hx329_1, hx329_2⟩ := at_T27 HR1_1.out x23_2 p329 q329
      cases e329
      replace hx329_0 := hc_ HB hx329_0
      replace hx329_1 := hc_ HB hx329_1
      replace hx329_2 := hc_ HB hx329_2
      replace p329 := eq_true p329
      replace q329 := eq_true q329
      go_wp2
      repeat (go_quiet (fail); try go_wp2)
      go_ret
      exact ⟨rt_, hB HB⟩
     rw [if_neg c20] at H
     have c20b0 : (!(((rd_T27 l0_1 x23_2).f0) == ((rd_T27 l1_1 x23_2).f0)) || (!(((rd_T27 l0_1 x23_2).f1) == ((rd_T27 l1_1 x23_2).f1)) || (!(((rd_T27 l0_1 x23_2).f2) == ((rd_T27 l1_1 x23_2).f2))))) = false := by simpa using c20
     clear c20
     have H' := Aside0.mk H
     clear H
     have hnb24 := NB326_327.out
     have hnc24 := NB327_326.out
     have hcz25_0 : wr.cell? ⟨gb326, 0, none⟩ = some (.int .i64 a0_0) := bc_ BK326 0
     have hcz25_1 : wr.cell? ⟨gb326, 1, none⟩ = some (.slice A0_1 l0_1.length c0_1) := bc_ BK326 1
     have hfz25_0 := blk_frozen BK326.out 0
     have hfz25_1 := blk_frozen BK326.out 1
     have p328 : 0 ≤ (x23_2 : Int) := od_
     have q328 : x23_2 < (l0_1.length : Int) := od_
     obtain ⟨ad328, e328, hx328_0, hx328_1, hx328_2⟩ := at_T27 HR0_1.out x23_2 p328 q328
     cases e328
     replace hx328_0 := hc_ HB hx328_0
     replace hx328_1 := hc_ HB hx328_1
     replace hx328_2 := hc_ HB hx328_2
     replace p328 := eq_true p328
     replace q328 := eq_true q328
     have hcz26_0 : wr.cell? ⟨gb327, 0, none⟩ = some (.int .i64 a1_0) := bc_ BK327 0
     have hcz26_1 : wr.cell? ⟨gb327, 1, none⟩ = some (.slice A1_1 l1_1.length c1_1) := bc_ BK327 1
     have hfz26_0 := blk_frozen BK327.out 0
     have hfz26_1 := blk_frozen BK327.out 1
     have p329 : 0 ≤ (x23_2 : Int) := od_
     have q329 : x23_2 < (l1_1.length : Int) := od_
     obtain ⟨ad329, e329, hx329_0, hx329_1, hx329_2⟩ := at_T27 HR1_1.out x23_2 p329 q329
     cases e329
     replace hx329_0 := hc_ HB hx329_0
     replace hx329_1 := hc_ HB hx329_1
     replace hx329_2 := hc_ HB hx329_2
     replace p329 := eq_true p329
     replace q329 := eq_true q329
     go_wp2
     repeat (go_quiet (fail); try go_wp2)
     go_roundg k2
     case measure => have := HJ2.out; have := HK2.out; omega
     case rel => exact ⟨(wrap64 (x23_2 + 1)), (by first | rfl | (simp; done) | (simp [*]; done)), H', ⟨by have := HJ2.out; have := HK2.out; omega⟩, ⟨by (with_reducible repeat (first | refine blk_drewN ?_ _ | refine blk_drew ?_ | refine blk_alloc ?_ _)); exact BK326.out⟩, ⟨by (with_reducible repeat (first | refine blk_drewN ?_ _ | refine blk_drew ?_ | refine blk_alloc ?_ _)); exact BK327.out⟩, ⟨hB HB⟩⟩

def impl_PortOf.f (k : Nat) (a0_0 : Int) (l0_1 : List (S27)) (a1 : Int) : Option (Int × Bool) := (impl_GoodTable.f k a0_0 l0_1).bind fun t331 => (if t331 = true then ((impl_row.f k l0_1 a1).bind fun t332 => (if t332 < 0 then (some (0, false)) else ((impl_row.f k l0_1 a1).bind fun t333 => (if 0 ≤ t333 then (if t333 < (l0_1.length : Int) then (some ((rd_T27 l0_1 t333).f1, true)) else (none)) else (none))))) else (some (0, false)))
theorem impl_PortOf.mono : ∀ a0 a1 a2 k, LeO (impl_PortOf.f k a0 a1 a2) (impl_PortOf.f (k + 1) a0 a1 a2) := by
 intro a0 a1 a2 k
 unfold impl_PortOf.f
 repeat' first
   | (with_reducible exact impl_GoodTable.mono _ _ _)
   | (with_reducible exact impl_row.mono _ _ _)
   | with_reducible first | exact LeO.refl _ | exact LeO.none _ | refine LeO.ite ?_ ?_ | refine LeO.bind ?_ fun _ => ?_
def impl_PortOf.T3 : Bool × List (List Nat × List Nat) := (true, [([], []), ([0], [0]), ([], []), ([2], [2]), ([], []), ([3, 4], [3, 4]), ([1, 5], [1, 5]), ([6], [6]), ([7], [7]), ([8, 5, 0, 1, 2, 3, 4, 5, 6, 7, 8], [8]), ([9, 0, 1, 2, 3, 4, 5, 6, 7, 8, 9], [])])
def impl_PortOf.B3 : List Nat := [0, 1, 0, 4, 0, 28, 63, 127, 255, 511, 1023]
theorem impl_PortOf.tab3 : rtab .any (opsOf Try.f10 3) = impl_PortOf.T3 := by kernel_rfl
theorem impl_PortOf.bits3 : waitsOk impl_PortOf.T3.2 impl_PortOf.B3 = true := by kernel_rfl
set_option maxHeartbeats 8000000 in
set_option maxRecDepth 100000 in
theorem impl_PortOf.calls (k : Nat) (a0_0 : Int) (A0_1 : Option Addr) (c0_1 : Nat) (l0_1 : List (S27)) (a1 : Int) (r1 : Int) (r2 : Bool) (w : World) (hr0_1 : Kd.C k27 w A0_1 l0_1.length l0_1) (hc0_1 : l0_1.length ≤ c0_1) (h : impl_PortOf.f k a0_0 l0_1 a1 = some (r1, r2)) :
  Calls Try.prog 10 #[.agg #[.int .i64 a0_0, .slice A0_1 l0_1.length c0_1], .int .i64 a1] w fun e w' => e = .returned (.tuple #[.int .i64 r1, .bool r2]) ∧ Below w.heap.size w w' := by
 have hu25 := Try.underlying25
 have HR0_1 := Aside0.mk hr0_1
 have HC0_1 := Aside0.mk hc0_1
 clear hr0_1 hc0_1
 have HB := Aside0.mk (Below.refl w.heap.size w)
 have H : ((impl_GoodTable.f k a0_0 l0_1).bind fun t331 => (if t331 = true then ((impl_row.f k l0_1 a1).bind fun t332 => (if t332 < 0 then (some (0, false)) else ((impl_row.f k l0_1 a1).bind fun t333 => (if 0 ≤ t333 then (if t333 < (l0_1.length : Int) then (some ((rd_T27 l0_1 t333).f1, true)) else (none)) else (none))))) else (some (0, false)))) = some (r1, r2) := h
 clear h
 replace H := Option.bind_eq_some_iff.mp H
 obtain ⟨t331, A30, H⟩ := H
 replace H : (if t331 = true then ((impl_row.f k l0_1 a1).bind fun t332 => (if t332 < 0 then (some (0, false)) else ((impl_row.f k l0_1 a1).bind fun t333 => (if 0 ≤ t333 then (if t333 < (l0_1.length : Int) then (some ((rd_T27 l0_1 t333).f1, true)) else (none)) else (none))))) else (some (0, false))) = some (r1, r2) := H
 have A3 := Aside0.mk A30
 clear A30
 by_cases c4 : t331 = true
 rotate_left
 ·replace c4 := Bool.eq_false_iff.mpr c4
  subst c4
  rw [if_neg (show ¬ (false = true) by decide)] at H
  simp only [Option.some.injEq, Prod.mk.injEq] at H
  obtain ⟨rfl, rfl⟩ := H
  go_enter Try.func10, Try.ntmps10
  go_wp2_with (first | ((with_reducible refine gate_dst (N := 2) rfl ?_); refine box_event ?hg (N := 2) ?hd (cs := #[.int .i64 a0_0, .slice A0_1 l0_1.length c0_1]) (t := 25) ?hr ?_; (case hd => rfl); (case hg => rfl); (case hr => first | (go_simp; done) | (go_simp; rfl)); intro gb330 hg w22 hbox hb; have BK330 := Aside0.mk (hbox); have GW330 := gw_ hg HB; have GE330 := gw_ hg HB; replace HB := bst_ HB hb; clear hb hbox hg; obtain ⟨hcz23_0, hcz23_1⟩ := bcs2_ BK330) | (refine goesL_ (some 7) rfl rfl Try.func8 (by kernel_rfl) rfl #[.agg #[.int .i64 a0_0, .slice A0_1 l0_1.length c0_1]] rfl tm_ ?_; (with_reducible refine (impl_GoodTable.calls k a0_0 _ _ l0_1 false _ ?side1 ?side2 A3.out).mono ?_); (case side1 => exact cb_ HR0_1 HB); (case side2 => exact HC0_1.out); rintro e w24 ⟨rfl, hb⟩; refine ⟨_, rfl, ?_⟩; replace BK330 := bb_ BK330 hb; replace HB := bst_ HB hb; clear hb))
  go_ret2
  exact ⟨rt_, hB HB⟩
 subst c4
 rw [if_pos rfl] at H
 replace H := Option.bind_eq_some_iff.mp H
 obtain ⟨t332, A50, H⟩ := H
 replace H : (if t332 < 0 then (some (0, false)) else ((impl_row.f k l0_1 a1).bind fun t333 => (if 0 ≤ t333 then (if t333 < (l0_1.length : Int) then (some ((rd_T27 l0_1 t333).f1, true)) else (none)) else (none)))) = some (r1, r2) := H
 have A5 := Aside0.mk A50
 clear A50
 by_cases c6 : t332 < 0
 ·rw [if_pos c6] at H
  have c6b0 : decide (t332 < 0) = true := decide_eq_true c6
  clear c6
  simp only [Option.some.injEq, Prod.mk.injEq] at H
  obtain ⟨rfl, rfl⟩ := H
  go_enter Try.func10, Try.ntmps10
  go_wp2_with (first | ((with_reducible refine gate_dst (N := 2) rfl ?_); refine box_event ?hg (N := 2) ?hd (cs := #[.int .i64 a0_0, .slice A0_1 l0_1.length c0_1]) (t := 25) ?hr ?_; (case hd => rfl); (case hg => rfl); (case hr => first | (go_simp; done) | (go_simp; rfl)); intro gb330 hg w7 hbox hb; have BK330 := Aside0.mk (hbox); have GW330 := gw_ hg HB; have GE330 := gw_ hg HB; replace HB := bst_ HB hb; clear hb hbox hg; obtain ⟨hcz8_0, hcz8_1⟩ := bcs2_ BK330) | (refine goesL_ (some 7) rfl rfl Try.func8 (by kernel_rfl) rfl #[.agg #[.int .i64 a0_0, .slice A0_1 l0_1.length c0_1]] rfl tm_ ?_; (with_reducible refine (impl_GoodTable.calls k a0_0 _ _ l0_1 true _ ?side1 ?side2 A3.out).mono ?_); (case side1 => exact cb_ HR0_1 HB); (case side2 => exact HC0_1.out); rintro e w9 ⟨rfl, hb⟩; refine ⟨_, rfl, ?_⟩; replace BK330 := bb_ BK330 hb; replace HB := bst_ HB hb; clear hb; obtain ⟨hcz10_0, hcz10_1⟩ := bcs2_ BK330) | (go_at_call 27; (with_reducible refine (impl_row.calls k _ _ l0_1 a1 t332 _ ?side1 ?side2 A5.out).mono ?_); (case side1 => exact cb_ HR0_1 HB); (case side2 => exact HC0_1.out); rintro e w11 ⟨rfl, hb⟩; replace BK330 := bb_ BK330 hb; replace HB := bst_ HB hb; clear hb))
  go_ret2
  exact ⟨rt_, hB HB⟩
 rw [if_neg c6] at H
 have c6b0 : decide (t332 < 0) = false := decide_eq_false c6
 clear c6
 replace H := Option.bind_eq_some_iff.mp H
 obtain ⟨t333, A120, H⟩ := H
 replace H : (if 0 ≤ t333 then (if t333 < (l0_1.length : Int) then (some ((rd_T27 l0_1 t333).f1, true)) else (none)) else (none)) = some (r1, r2) := H
 have A12 := Aside0.mk A120
 clear A120
 by_cases c13 : 0 ≤ t333
 rotate_left
 ·rw [if_neg c13] at H
  exact absurd H (by simp)
 rw [if_pos c13] at H
 have c13b0 : decide (0 ≤ t333) = true := decide_eq_true c13
 clear c13
 by_cases c14 : t333 < (l0_1.length : Int)
 rotate_left
 ·rw [if_neg c14] at H
  exact absurd H (by simp)
 rw [if_pos c14] at H
 have c14b0 : decide (t333 < (l0_1.length : Int)) = true := decide_eq_true c14
 clear c14
 simp only [Option.some.injEq, Prod.mk.injEq] at H
 obtain ⟨rfl, rfl⟩ := H
 go_enter Try.func10, Try.ntmps10
 try go_wp2_with (first | ((with_reducible refine gate_dst (N := 2) rfl ?_); refine box_event ?hg (N := 2) ?hd (cs := #[.int .i64 a0_0, .slice A0_1 l0_1.length c0_1]) (t := 25) ?hr ?_; (case hd => rfl); (case hg => rfl); (case hr => first | (go_simp; done) | (go_simp; rfl)); intro gb330 hg w15 hbox hb; have BK330 := Aside0.mk (hbox); have GW330 := gw_ hg HB; have GE330 := gw_ hg HB; replace HB := bst_ HB hb; clear hb hbox hg; obtain ⟨hcz16_0, hcz16_1⟩ := bcs2_ BK330) | (refine goesL_ (some 7) rfl rfl Try.func8 (by kernel_rfl) rfl #[.agg #[.int .i64 a0_0, .slice A0_1 l0_1.length c0_1]] rfl tm_ ?_; (with_reducible refine (impl_GoodTable.calls k a0_0 _ _ l0_1 true _ ?side1 ?side2 A3.out).mono ?_); (case side1 => exact cb_ HR0_1 HB); (case side2 => exact HC0_1.out); rintro e w17 ⟨rfl, hb⟩; refine ⟨_, rfl, ?_⟩; replace BK330 := bb_ BK330 hb; replace HB := bst_ HB hb; clear hb; obtain ⟨hcz18_0, hcz18_1⟩ := bcs2_ BK330) | (go_at_call 27; (with_reducible refine (impl_row.calls k _ _ l0_1 a1 t332 _ ?side1 ?side2 A5.out).mono ?_); (case side1 => exact cb_ HR0_1 HB); (case side2 => exact HC0_1.out); rintro e w19 ⟨rfl, hb⟩; replace BK330 := bb_ BK330 hb; replace HB := bst_ HB hb; clear hb))
 replace BK330 := bd_ BK330
 replace HB := Aside0.mk (below_drew1 HB.out)
 have p334 : 0 ≤ (t333 : Int) := od_
 have q334 : t333 < (l0_1.length : Int) := od_
 obtain ⟨ad334, e334, hx334_0, hx334_1, hx334_2⟩ := at_T27 HR0_1.out t333 p334 q334
 have hw334_2 := hx334_2
 have hw334_1 := hx334_1
 have hw334_0 := hx334_0
 cases e334
 replace hx334_0 := hc_ HB hx334_0
 replace hx334_1 := hc_ HB hx334_1
 replace hx334_2 := hc_ HB hx334_2
 replace p334 := eq_true p334
 replace q334 := eq_true q334
 refine start_ (n := 11) (S := fun w' => w'.cell? ⟨gb330, 0, none⟩ = some (.int .i64 a0_0) ∧ w'.cell? ⟨gb330, 1, none⟩ = some (.slice (some ad334) l0_1.length c0_1) ∧ w'.cell? (ad334.add ((t333).toNat * 3)) = some (.int .i64 ((rd_T27 l0_1 t333).f0)) ∧ w'.cell? ⟨(ad334.add ((t333).toNat * 3)).block, (ad334.add ((t333).toNat * 3)).off + 1, none⟩ = some (.int .i64 ((rd_T27 l0_1 t333).f1)) ∧ w'.cell? ⟨(ad334.add ((t333).toNat * 3)).block, (ad334.add ((t333).toNat * 3)).off + 2, none⟩ = some (.int .i64 ((rd_T27 l0_1 t333).f2))) (ds := []) (bs 11 0) (by kernel_rfl) rfl rfl ⟨bc_ BK330 0, bc_ BK330 1, ((HB.out.cell (World.block_lt_of_cell? w _ hw334_0)).trans hw334_0), ((HB.out.cell (World.block_lt_of_cell? w _ hw334_1)).trans hw334_1), ((HB.out.cell (World.block_lt_of_cell? w _ hw334_2)).trans hw334_2)⟩ (fun hHeld => ?_); refine with_tabW impl_PortOf.tab3 impl_PortOf.bits3 (fun HT_ HW_ => ?_)
 generalize w19.drew = w20 at BK330 HB hx334_0 hx334_1 hx334_2 hHeld ⊢
 refine pu_ 0 16 (bs 11 1) HT_ ?_
 refine pu_ 2 18 (bs 11 5) HT_ ?_
 refine pu_ 4 20 (bs 11 21) HT_ ?_
 refine tk_ 1 17 (bs 11 23) HT_ HW_ hHeld ?_
 refine tk_ 3 19 (bs 11 31) HT_ HW_ hHeld ?_
 refine on_ 5 (some 21) (bs 11 63) HT_ (fun K hK => ?_)
 refine goes_ Try.func27 (by kernel_rfl) rfl #[.slice (some ad334) l0_1.length c0_1, .int .i64 a1] (by rfl) rfl rfl tm_ ?_
 with_reducible refine (impl_row.calls k _ _ l0_1 a1 t333 _ ?side1 ?side2 A12.out).mono ?_
 (case side1 => exact cb_ HR0_1 HB)
 (case side2 => exact HC0_1.out)
 rintro e w21 ⟨rfl, hb⟩
 refine ⟨_, rfl, ?_⟩
 replace BK330 := bb_ BK330 hb
 replace HB := bst_ HB hb
 clear hb
 refine hK.out _ _ ⟨bc_ BK330 0, bc_ BK330 1, ((HB.out.cell (World.block_lt_of_cell? w _ hw334_0)).trans hw334_0), ((HB.out.cell (World.block_lt_of_cell? w _ hw334_1)).trans hw334_1), ((HB.out.cell (World.block_lt_of_cell? w _ hw334_2)).trans hw334_2)⟩ (fun hHeld => ?_)
 clear hK K
 refine nm_ 21 ?_
 refine pu_ 6 22 (bs 11 127) HT_ ?_
 refine pu_ 7 23 (bs 11 255) HT_ ?_
 refine tk_ 8 24 (bs 11 511) HT_ HW_ hHeld ?_
 refine pu_ 9 4 (bs 11 1023) HT_ ?_
 refine pu_ 10 5 (bs 11 2047) HT_ ?_
 refine done_ (done_of HT_.out (by kernel_rfl)) ?_
 try go_wp2
 go_ret2
 exact ⟨rt_, hB HB⟩

def impl_FlushPort.f (k : Nat) (a0_0 : Int) (l0_1 : List (S27)) (a1 : Int) : Option (Int × (List (S27)) × Bool) := (impl_GoodTable.f k a0_0 l0_1).bind fun t338 => (if t338 = true then ((impl_in.f a1 0 9).bind fun t339 => (if t339 = true then ((impl_Table_kept.f k a0_0 l0_1 (fun _ y _ => some (y != a1))).bind fun bt340 => (some (bt340.1, bt340.2, true))) else (some (0, ([] : List (S27)), false)))) else (some (0, ([] : List (S27)), false)))
theorem impl_FlushPort.mono : ∀ a0 a1 a2 k, LeO (impl_FlushPort.f k a0 a1 a2) (impl_FlushPort.f (k + 1) a0 a1 a2) := by
 intro a0 a1 a2 k
 unfold impl_FlushPort.f
 repeat' first
   | (with_reducible exact impl_GoodTable.mono _ _ _)
   | (with_reducible exact impl_Table_kept.mono _ _ _ _)
   | with_reducible first | exact LeO.refl _ | exact LeO.none _ | refine LeO.ite ?_ ?_ | refine LeO.bind ?_ fun _ => ?_
set_option maxHeartbeats 2000000 in
theorem impl_FlushPort.pred (gB0 : Nat) (a1 : Int) (w : World) (hb0 : w.heap[gB0]? = some (.cells #[.int .i64 a1] 3 (0, 0))) (W : World) (x y z : Int) (t : Bool) (hW : Below w.heap.size w W) (ht : (fun _ y _ => some (y != a1)) x y z = some t) : Calls Try.prog 30 #[.agg #[.int .i64 x, .int .i64 y, .int .i64 z], .pointer (some ⟨gB0, 0, none⟩)] W fun e w' => e = .returned (.bool t) ∧ Below W.heap.size W w' := by
 have hu27 := Try.underlying27
 have BKB0 := Aside0.mk (blk_below hb0 hW)
 have HB := Aside0.mk (Below.refl W.heap.size W)
 obtain rfl := Option.some.inj ht
 clear hb0 hW ht
 go_enter Try.func30, Try.ntmps30
 go_wp2_with (first | ((with_reducible refine gate_dst (N := 2) rfl ?_); refine box_event ?hg (N := 2) ?hd (cs := #[.int .i64 x, .int .i64 y, .int .i64 z]) (t := 27) ?hr ?_; (case hd => rfl); (case hg => rfl); (case hr => first | (go_simp; done) | (go_simp; rfl)); intro gb1 hg w1 hbox hb; have BK1 := Aside0.mk (hbox); replace BKB0 := bb_ BKB0 hb; replace HB := bst_ HB hb; clear hb hbox hg; obtain ⟨hc0, hc1, hc2⟩ := bcs3_ BK1; have hcb0 : w1.cell? ⟨gB0, 0, none⟩ = some (.int .i64 a1) := bc_ BKB0 0))
 go_ret
 exact ⟨by first | rfl | (simp [i64_w]; done) | (simp [i64_w] <;> rfl), hB HB⟩
set_option maxHeartbeats 8000000 in
set_option maxRecDepth 100000 in
theorem impl_FlushPort.calls (k : Nat) (a0_0 : Int) (A0_1 : Option Addr) (c0_1 : Nat) (l0_1 : List (S27)) (a1 : Int) (r1 : Int) (r2 : List (S27)) (r3 : Bool) (w : World) (hr0_1 : Kd.C k27 w A0_1 l0_1.length l0_1) (hc0_1 : l0_1.length ≤ c0_1) (h : impl_FlushPort.f k a0_0 l0_1 a1 = some (r1, r2, r3)) :
  Calls Try.prog 11 #[.agg #[.int .i64 a0_0, .slice A0_1 l0_1.length c0_1], .int .i64 a1] w fun e w' => ∃ v1_ : Value, e = .returned (.tuple #[.agg #[.int .i64 r1, v1_], .bool r3]) ∧ Kd.R k27 27 w' w.heap.size (fun _ => True) v1_ r2 ∧ Below w.heap.size w w' := by
 have hu25 := Try.underlying25
 have HR0_1 := Aside0.mk hr0_1
 have HC0_1 := Aside0.mk hc0_1
 clear hr0_1 hc0_1
 have HB := Aside0.mk (Below.refl w.heap.size w)
 have H : ((impl_GoodTable.f k a0_0 l0_1).bind fun t338 => (if t338 = true then ((impl_in.f a1 0 9).bind fun t339 => (if t339 = true then ((impl_Table_kept.f k a0_0 l0_1 (fun _ y _ => some (y != a1))).bind fun bt340 => (some (bt340.1, bt340.2, true))) else (some (0, ([] : List (S27)), false)))) else (some (0, ([] : List (S27)), false)))) = some (r1, r2, r3) := h
 clear h
 replace H := Option.bind_eq_some_iff.mp H
 obtain ⟨t338, A30, H⟩ := H
 replace H : (if t338 = true then ((impl_in.f a1 0 9).bind fun t339 => (if t339 = true then ((impl_Table_kept.f k a0_0 l0_1 (fun _ y _ => some (y != a1))).bind fun bt340 => (some (bt340.1, bt340.2, true))) else (some (0, ([] : List (S27)), false)))) else (some (0, ([] : List (S27)), false))) = some (r1, r2, r3) := H
 have A3 := Aside0.mk A30
 clear A30
 by_cases c4 : t338 = true
 rotate_left
 ·replace c4 := Bool.eq_false_iff.mpr c4
  subst c4
  rw [if_neg (show ¬ (false = true) by decide)] at H
  simp only [Option.some.injEq, Prod.mk.injEq] at H
  obtain ⟨rfl, rfl, rfl⟩ := H
  go_enter Try.func11, Try.ntmps11
  go_wp2_with (first | ((with_reducible refine gate_dst (N := 2) rfl ?_); refine box_event ?hg (N := 2) ?hd (cs := #[.int .i64 a0_0, .slice A0_1 l0_1.length c0_1]) (t := 25) ?hr ?_; (case hd => rfl); (case hg => rfl); (case hr => first | (go_simp; done) | (go_simp; rfl)); intro gb335 hg w31 hbox hb; have BK335 := Aside0.mk (hbox); have GW335 := gw_ hg HB; have GE335 := gw_ hg HB; replace HB := bst_ HB hb; clear hb hbox hg) | ((with_reducible refine gate_dst (N := 3) rfl ?_); refine box_event ?hg (N := 3) ?hd (cs := #[.int .i64 a1]) (t := 3) ?hr ?_; (case hd => rfl); (case hg => rfl); (case hr => first | (go_simp; done) | (go_simp; rfl)); intro gb336 hg w32 hbox hb; have BK336 := Aside0.mk (hbox); have GW336 := gw_ hg HB; have GE336 := gw_ hg HB; have NB335_336 := nl_ hg BK335; have NB336_335 := ng_ hg BK335; replace BK335 := bb_ BK335 hb; replace HB := bst_ HB hb; clear hb hbox hg) | ((with_reducible refine gate_dst (N := 4) rfl ?_); refine box_event ?hg (N := 4) ?hd (cs := #[.int .i64 0, .slice none 0 0]) (t := 25) ?hr ?_; (case hd => rfl); (case hg => rfl); (case hr => first | (go_simp; done) | (go_simp; rfl)); intro gb337 hg w33 hbox hb; have BK337 := Aside0.mk (hbox); have GW337 := gw_ hg HB; have GE337 := gw_ hg HB; have NB335_337 := nl_ hg BK335; have NB337_335 := ng_ hg BK335; have NB336_337 := nl_ hg BK336; have NB337_336 := ng_ hg BK336; replace BK335 := bb_ BK335 hb; replace BK336 := bb_ BK336 hb; replace HB := bst_ HB hb; clear hb hbox hg; have hnb34 := NB335_336.out; have hnc34 := NB336_335.out; have hnb35 := NB335_337.out; have hnc35 := NB337_335.out; obtain ⟨hcz36_0, hcz36_1⟩ := bcs2_ BK335) | (refine goesL_ (some 7) rfl rfl Try.func8 (by kernel_rfl) rfl #[.agg #[.int .i64 a0_0, .slice A0_1 l0_1.length c0_1]] rfl tm_ ?_; (with_reducible refine (impl_GoodTable.calls k a0_0 _ _ l0_1 false _ ?side1 ?side2 A3.out).mono ?_); (case side1 => exact cb_ HR0_1 HB); (case side2 => exact HC0_1.out); rintro e w37 ⟨rfl, hb⟩; refine ⟨_, rfl, ?_⟩; replace BK335 := bb_ BK335 hb; replace BK336 := bb_ BK336 hb; replace BK337 := bb_ BK337 hb; replace HB := bst_ HB hb; clear hb; have hnb38 := NB337_336.out; have hnc38 := NB336_337.out; obtain ⟨hcz39_0, hcz39_1⟩ := bcs2_ BK337; have hfz39_0 := blk_frozen BK337.out 0; have hfz39_1 := blk_frozen BK337.out 1))
  refine bodyPost_ret (results_ct rfl _ _ gb337 25 #[.int .i64 0, .slice none 0 0] (0, 0) _ rfl (by (with_reducible repeat (first | refine blk_drewN ?_ _ | refine blk_drew ?_ | refine blk_alloc ?_ _)); refine blk_put (cs := #[.int .i64 0, .slice none 0 0]) ?_ 1 _ rfl; (with_reducible repeat (first | refine blk_drewN ?_ _ | refine blk_drew ?_ | refine blk_alloc ?_ _)); refine blk_put (cs := #[.int .i64 0, .slice none 0 0]) ?_ 0 _ rfl; (with_reducible repeat (first | refine blk_drewN ?_ _ | refine blk_drew ?_ | refine blk_alloc ?_ _)); exact BK337.out) Try.underlying25 rfl (by kernel_rfl)) rfl ?_
  exact ⟨_, rt_, by first | exact Kd.R_nil _ _ _ _ _ | exact Kd.N_nil _ _ _ _ _ | exact Kd.V_nil _ _ _ _ _ | exact Kd.Q_nil _ _ _ _ _ | exact Kd.S_nil _ _ _ _ _, hB HB⟩
 subst c4
 rw [if_pos rfl] at H
 replace H := Option.bind_eq_some_iff.mp H
 obtain ⟨t339, A50, H⟩ := H
 replace H : (if t339 = true then ((impl_Table_kept.f k a0_0 l0_1 (fun _ y _ => some (y != a1))).bind fun bt340 => (some (bt340.1, bt340.2, true))) else (some (0, ([] : List (S27)), false))) = some (r1, r2, r3) := H
 have A5 := Aside0.mk A50
 clear A50
 by_cases c6 : t339 = true
 rotate_left
 ·replace c6 := Bool.eq_false_iff.mpr c6
  subst c6
  rw [if_neg (show ¬ (false = true) by decide)] at H
  simp only [Option.some.injEq, Prod.mk.injEq] at H
  obtain ⟨rfl, rfl, rfl⟩ := H
  go_enter Try.func11, Try.ntmps11
  go_wp2_with (first | ((with_reducible refine gate_dst (N := 2) rfl ?_); refine box_event ?hg (N := 2) ?hd (cs := #[.int .i64 a0_0, .slice A0_1 l0_1.length c0_1]) (t := 25) ?hr ?_; (case hd => rfl); (case hg => rfl); (case hr => first | (go_simp; done) | (go_simp; rfl)); intro gb335 hg w21 hbox hb; have BK335 := Aside0.mk (hbox); have GW335 := gw_ hg HB; have GE335 := gw_ hg HB; replace HB := bst_ HB hb; clear hb hbox hg) | ((with_reducible refine gate_dst (N := 3) rfl ?_); refine box_event ?hg (N := 3) ?hd (cs := #[.int .i64 a1]) (t := 3) ?hr ?_; (case hd => rfl); (case hg => rfl); (case hr => first | (go_simp; done) | (go_simp; rfl)); intro gb336 hg w22 hbox hb; have BK336 := Aside0.mk (hbox); have GW336 := gw_ hg HB; have GE336 := gw_ hg HB; have NB335_336 := nl_ hg BK335; have NB336_335 := ng_ hg BK335; replace BK335 := bb_ BK335 hb; replace HB := bst_ HB hb; clear hb hbox hg) | ((with_reducible refine gate_dst (N := 4) rfl ?_); refine box_event ?hg (N := 4) ?hd (cs := #[.int .i64 0, .slice none 0 0]) (t := 25) ?hr ?_; (case hd => rfl); (case hg => rfl); (case hr => first | (go_simp; done) | (go_simp; rfl)); intro gb337 hg w23 hbox hb; have BK337 := Aside0.mk (hbox); have GW337 := gw_ hg HB; have GE337 := gw_ hg HB; have NB335_337 := nl_ hg BK335; have NB337_335 := ng_ hg BK335; have NB336_337 := nl_ hg BK336; have NB337_336 := ng_ hg BK336; replace BK335 := bb_ BK335 hb; replace BK336 := bb_ BK336 hb; replace HB := bst_ HB hb; clear hb hbox hg; have hnb24 := NB335_336.out; have hnc24 := NB336_335.out; have hnb25 := NB335_337.out; have hnc25 := NB337_335.out; obtain ⟨hcz26_0, hcz26_1⟩ := bcs2_ BK335) | (refine goesL_ (some 7) rfl rfl Try.func8 (by kernel_rfl) rfl #[.agg #[.int .i64 a0_0, .slice A0_1 l0_1.length c0_1]] rfl tm_ ?_; (with_reducible refine (impl_GoodTable.calls k a0_0 _ _ l0_1 true _ ?side1 ?side2 A3.out).mono ?_); (case side1 => exact cb_ HR0_1 HB); (case side2 => exact HC0_1.out); rintro e w27 ⟨rfl, hb⟩; refine ⟨_, rfl, ?_⟩; replace BK335 := bb_ BK335 hb; replace BK336 := bb_ BK336 hb; replace BK337 := bb_ BK337 hb; replace HB := bst_ HB hb; clear hb; have hnb28 := NB336_337.out; have hnc28 := NB337_336.out; have hcz29_0 : w27.cell? ⟨gb336, 0, none⟩ = some (.int .i64 a1) := bc_ BK336 0) | (go_at_call 26; (with_reducible refine (impl_in.calls a1 0 9 false _ A5.out).mono ?_); rintro e w' ⟨rfl, ⟨nd, rfl⟩⟩; (try (rw [drewN_self w27]; generalize hq_ : World.drewN w27 _ = w27; have n0_ : Aside0 (w27.heap[gb335]? = some (.cells #[.int .i64 a0_0, .slice A0_1 l0_1.length c0_1] 25 (0, 0))) := ⟨by rw [← hq_]; exact (ba BK335.out)⟩; have n1_ : Aside0 (w27.heap[gb336]? = some (.cells #[.int .i64 a1] 3 (0, 0))) := ⟨by rw [← hq_]; exact (ba BK336.out)⟩; have n2_ : Aside0 (w27.heap[gb337]? = some (.cells #[.int .i64 0, .slice none 0 0] 25 (0, 0))) := ⟨by rw [← hq_]; exact (ba BK337.out)⟩; have n3_ : Aside0 (Below w.heap.size w w27) := ⟨by rw [← hq_]; exact (hB HB)⟩; clear BK335 BK336 BK337 HB hq_; have BK335 := n0_; have BK336 := n1_; have BK337 := n2_; have HB := n3_; clear n0_ n1_ n2_ n3_)); obtain ⟨hcz30_0, hcz30_1⟩ := bcs2_ BK337; have hfz30_0 := blk_frozen BK337.out 0; have hfz30_1 := blk_frozen BK337.out 1))
  refine bodyPost_ret (results_ct rfl _ _ gb337 25 #[.int .i64 0, .slice none 0 0] (0, 0) _ rfl (by (with_reducible repeat (first | refine blk_drewN ?_ _ | refine blk_drew ?_ | refine blk_alloc ?_ _)); refine blk_put (cs := #[.int .i64 0, .slice none 0 0]) ?_ 1 _ rfl; (with_reducible repeat (first | refine blk_drewN ?_ _ | refine blk_drew ?_ | refine blk_alloc ?_ _)); refine blk_put (cs := #[.int .i64 0, .slice none 0 0]) ?_ 0 _ rfl; (with_reducible repeat (first | refine blk_drewN ?_ _ | refine blk_drew ?_ | refine blk_alloc ?_ _)); exact BK337.out) Try.underlying25 rfl (by kernel_rfl)) rfl ?_
  exact ⟨_, rt_, by first | exact Kd.R_nil _ _ _ _ _ | exact Kd.N_nil _ _ _ _ _ | exact Kd.V_nil _ _ _ _ _ | exact Kd.Q_nil _ _ _ _ _ | exact Kd.S_nil _ _ _ _ _, hB HB⟩
 subst c6
 rw [if_pos rfl] at H
 replace H := Option.bind_eq_some_iff.mp H
 obtain ⟨⟨t340, t341⟩, A70, H⟩ := H
 replace H : (some (t340, t341, true)) = some (r1, r2, r3) := H
 have A7 := Aside0.mk A70
 clear A70
 simp only [Option.some.injEq, Prod.mk.injEq] at H
 obtain ⟨rfl, rfl, rfl⟩ := H
 go_enter Try.func11, Try.ntmps11
 go_wp2_with (first | ((with_reducible refine gate_dst (N := 2) rfl ?_); refine box_event ?hg (N := 2) ?hd (cs := #[.int .i64 a0_0, .slice A0_1 l0_1.length c0_1]) (t := 25) ?hr ?_; (case hd => rfl); (case hg => rfl); (case hr => first | (go_simp; done) | (go_simp; rfl)); intro gb335 hg w8 hbox hb; have BK335 := Aside0.mk (hbox); have GW335 := gw_ hg HB; have GE335 := gw_ hg HB; replace HB := bst_ HB hb; clear hb hbox hg) | ((with_reducible refine gate_dst (N := 3) rfl ?_); refine box_event ?hg (N := 3) ?hd (cs := #[.int .i64 a1]) (t := 3) ?hr ?_; (case hd => rfl); (case hg => rfl); (case hr => first | (go_simp; done) | (go_simp; rfl)); intro gb336 hg w9 hbox hb; have BK336 := Aside0.mk (hbox); have GW336 := gw_ hg HB; have GE336 := gw_ hg HB; have NB335_336 := nl_ hg BK335; have NB336_335 := ng_ hg BK335; replace BK335 := bb_ BK335 hb; replace HB := bst_ HB hb; clear hb hbox hg) | ((with_reducible refine gate_dst (N := 4) rfl ?_); refine box_event ?hg (N := 4) ?hd (cs := #[.int .i64 0, .slice none 0 0]) (t := 25) ?hr ?_; (case hd => rfl); (case hg => rfl); (case hr => first | (go_simp; done) | (go_simp; rfl)); intro gb337 hg w10 hbox hb; have BK337 := Aside0.mk (hbox); have GW337 := gw_ hg HB; have GE337 := gw_ hg HB; have NB335_337 := nl_ hg BK335; have NB337_335 := ng_ hg BK335; have NB336_337 := nl_ hg BK336; have NB337_336 := ng_ hg BK336; replace BK335 := bb_ BK335 hb; replace BK336 := bb_ BK336 hb; replace HB := bst_ HB hb; clear hb hbox hg; have hnb11 := NB335_336.out; have hnc11 := NB336_335.out; have hnb12 := NB335_337.out; have hnc12 := NB337_335.out; obtain ⟨hcz13_0, hcz13_1⟩ := bcs2_ BK335) | (refine goesL_ (some 7) rfl rfl Try.func8 (by kernel_rfl) rfl #[.agg #[.int .i64 a0_0, .slice A0_1 l0_1.length c0_1]] rfl tm_ ?_; (with_reducible refine (impl_GoodTable.calls k a0_0 _ _ l0_1 true _ ?side1 ?side2 A3.out).mono ?_); (case side1 => exact cb_ HR0_1 HB); (case side2 => exact HC0_1.out); rintro e w14 ⟨rfl, hb⟩; refine ⟨_, rfl, ?_⟩; replace BK335 := bb_ BK335 hb; replace BK336 := bb_ BK336 hb; replace BK337 := bb_ BK337 hb; replace HB := bst_ HB hb; clear hb; have hnb15 := NB336_337.out; have hnc15 := NB337_336.out; have hcz16_0 : w14.cell? ⟨gb336, 0, none⟩ = some (.int .i64 a1) := bc_ BK336 0) | (go_at_call 26; (with_reducible refine (impl_in.calls a1 0 9 true _ A5.out).mono ?_); rintro e w' ⟨rfl, ⟨nd, rfl⟩⟩; (try (rw [drewN_self w14]; generalize hq_ : World.drewN w14 _ = w14; have n0_ : Aside0 (w14.heap[gb335]? = some (.cells #[.int .i64 a0_0, .slice A0_1 l0_1.length c0_1] 25 (0, 0))) := ⟨by rw [← hq_]; exact (ba BK335.out)⟩; have n1_ : Aside0 (w14.heap[gb336]? = some (.cells #[.int .i64 a1] 3 (0, 0))) := ⟨by rw [← hq_]; exact (ba BK336.out)⟩; have n2_ : Aside0 (w14.heap[gb337]? = some (.cells #[.int .i64 0, .slice none 0 0] 25 (0, 0))) := ⟨by rw [← hq_]; exact (ba BK337.out)⟩; have n3_ : Aside0 (Below w.heap.size w w14) := ⟨by rw [← hq_]; exact (hB HB)⟩; clear BK335 BK336 BK337 HB hq_; have BK335 := n0_; have BK336 := n1_; have BK337 := n2_; have HB := n3_; clear n0_ n1_ n2_ n3_)); obtain ⟨hcz17_0, hcz17_1⟩ := bcs2_ BK335) | (refine goesL_ (some 17) rfl rfl Try.func29 (by kernel_rfl) rfl #[.agg #[.int .i64 a0_0, .slice A0_1 l0_1.length c0_1], .func (.func 30) #[] #[.pointer (some ⟨gb336, 0, none⟩)]] rfl tm_ ?_; (with_reducible refine (impl_Table_kept.calls30 k a0_0 _ _ l0_1 (fun _ y _ => some (y != a1)) gb336 t340 t341 _ ?side1 ?side2 (impl_FlushPort.pred gb336 a1 _ (ba BK336.out)) A7.out).mono ?_); (case side1 => exact cb_ HR0_1 HB); (case side2 => exact HC0_1.out); rintro e w18 ⟨v342, rfl, ho0, hb⟩; refine ⟨_, rfl, ?_⟩; have HO343 := Aside0.mk (Kd.R_lower ho0 (below_size (hB HB))); replace BK335 := bb_ BK335 hb; replace BK336 := bb_ BK336 hb; replace BK337 := bb_ BK337 hb; replace HB := bst_ HB hb; clear hb ho0; obtain ⟨hcz19_0, hcz19_1⟩ := bcs2_ BK337; have hfz19_0 := blk_frozen BK337.out 0; have hfz19_1 := blk_frozen BK337.out 1; obtain ⟨Ao20, co20, eo20⟩ := Kd.R_slice HO343.out; subst eo20))
 refine bodyPost_ret (results_ct rfl _ _ gb337 25 #[.int .i64 t340, .slice Ao20 t341.length co20] (0, 0) _ rfl (by (with_reducible repeat (first | refine blk_drewN ?_ _ | refine blk_drew ?_ | refine blk_alloc ?_ _)); refine blk_put (cs := #[.int .i64 t340, .slice none 0 0]) ?_ 1 _ rfl; (with_reducible repeat (first | refine blk_drewN ?_ _ | refine blk_drew ?_ | refine blk_alloc ?_ _)); refine blk_put (cs := #[.int .i64 0, .slice none 0 0]) ?_ 0 _ rfl; (with_reducible repeat (first | refine blk_drewN ?_ _ | refine blk_drew ?_ | refine blk_alloc ?_ _)); exact BK337.out) Try.underlying25 rfl (by kernel_rfl)) rfl ?_
 exact ⟨_, rt_, by (with_reducible repeat (first | apply Kd.R_alloc | apply Kd.R_drewN | apply Kd.R_drew)); exact Kd.R_mono (fs2_ HO343.out BK337.out) (fun _ hk => trivial), hB HB⟩

end Go.Proofs.Ytenedmcobknefaa.P
