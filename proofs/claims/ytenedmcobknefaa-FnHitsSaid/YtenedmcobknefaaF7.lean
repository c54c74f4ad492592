import Derived.Test.YtenedmcobknefaaF0
import Derived.Test.YtenedmcobknefaaF4
import Derived.Test.YtenedmcobknefaaF5
import Derived.Test.YtenedmcobknefaaF6
namespace Go.Proofs.Ytenedmcobknefaa.P
open Go.RowKit Go.Proofs.YtenedmcobknefaaW.PrintWords Go.Proofs.YtenedmcobknefaaW.PrintLast Go.Proofs.YtenedmcobknefaaW.PrintMore
attribute [local go_sem] max2_int min2_int max_two min_two max_three min_three max_four min_four   -- for this text's walks alone
set_option linter.unusedVariables false
set_option linter.unusedSimpArgs false
attribute [local go_sem high] eqA27

def impl_Learn.f (k : Nat) (a0_0 : Int) (l0_1 : List (S27)) (a1_0 : Int) (a1_1 : Int) (a1_2 : Int) : Option (Int × (List (S27)) × Bool) := (impl_GoodTable.f k a0_0 l0_1).bind fun t289 => (if t289 = true then ((impl_isSeen.f a1_0 a1_1 a1_2).bind fun t290 => (if t290 = true then (if (l0_1.length : Int) > 0 then (if 0 < (l0_1.length : Int) then (if ((rd_T27 l0_1 0).f2) > a1_2 then (some (0, ([] : List (S27)), false)) else ((impl_Table_learn.f k a0_0 l0_1 a1_0 a1_1 a1_2).bind fun bt292 => (some (bt292.1, bt292.2, true)))) else (none)) else ((impl_Table_learn.f k a0_0 l0_1 a1_0 a1_1 a1_2).bind fun bt296 => (some (bt296.1, bt296.2, true)))) else (some (0, ([] : List (S27)), false)))) else (some (0, ([] : List (S27)), false)))
theorem impl_Learn.mono : ∀ a0 a1 a2 a3 a4 k, LeO (impl_Learn.f k a0 a1 a2 a3 a4) (impl_Learn.f (k + 1) a0 a1 a2 a3 a4) := by
 intro a0 a1 a2 a3 a4 k
 unfold impl_Learn.f
 repeat' first
   | (with_reducible exact impl_GoodTable.mono _ _ _)
   | (with_reducible exact impl_Table_learn.mono _ _ _ _ _ _)
   | with_reducible first | exact LeO.refl _ | exact LeO.none _ | refine LeO.ite ?_ ?_ | refine LeO.bind ?_ fun _ => ?_
def impl_Learn.T1 : Bool × List (List Nat × List Nat) := (true, [([], []), ([0], [0]), ([1], [1]), ([2, 1], [2]), ([3], [3]), ([4, 3, 3], [3, 4]), ([5, 3], [3, 5]), ([3, 6], [3, 6]), ([7, 5], [7]), ([8], [8]), ([9, 8], [8, 9]), ([10, 8], [8, 10]), ([11, 8], [8, 11]), ([12, 8, 8], [8, 12]), ([13], [13]), ([14, 13], [13, 14]), ([15, 13], [13, 15]), ([16, 13], [13, 16]), ([17, 13], [13, 17]), ([13], [13]), ([19, 13], [13, 19]), ([18, 20, 13], [13, 18, 20]), ([13, 21, 8], [8, 13, 21]), ([8, 22], [8, 22])])
def impl_Learn.B1 : List Nat := [0, 1, 3, 7, 15, 31, 63, 127, 255, 511, 1023, 2047, 4095, 8191, 16383, 32767, 65535, 131071, 262143, 16383, 540671, 2097151, 4194303, 8388607]
theorem impl_Learn.tab1 : rtab .any (opsOf Try.f5 1) = impl_Learn.T1 := by kernel_rfl
theorem impl_Learn.bits1 : waitsOk impl_Learn.T1.2 impl_Learn.B1 = true := by kernel_rfl
set_option maxHeartbeats 8000000 in
set_option maxRecDepth 100000 in
theorem impl_Learn.calls (k : Nat) (a0_0 : Int) (A0_1 : Option Addr) (c0_1 : Nat) (l0_1 : List (S27)) (a1_0 : Int) (a1_1 : Int) (a1_2 : Int) (r1 : Int) (r2 : List (S27)) (r3 : Bool) (w : World) (hr0_1 : Kd.C k27 w A0_1 l0_1.length l0_1) (hc0_1 : l0_1.length ≤ c0_1) (h : impl_Learn.f k a0_0 l0_1 a1_0 a1_1 a1_2 = some (r1, r2, r3)) :
  Calls Try.prog 5 #[.agg #[.int .i64 a0_0, .slice A0_1 l0_1.length c0_1], .agg #[.int .i64 a1_0, .int .i64 a1_1, .int .i64 a1_2]] w fun e w' => ∃ v1_ : Value, e = .returned (.tuple #[.agg #[.int .i64 r1, v1_], .bool r3]) ∧ Kd.R k27 27 w' w.heap.size (fun _ => True) v1_ r2 ∧ Below w.heap.size w w' := by
 have hu25 := Try.underlying25
 have hu27 := Try.underlying27
 have HR0_1 := Aside0.mk hr0_1
 have HC0_1 := Aside0.mk hc0_1
 clear hr0_1 hc0_1
 have HB := Aside0.mk (Below.refl w.heap.size w)
 have H : ((impl_GoodTable.f k a0_0 l0_1).bind fun t289 => (if t289 = true then ((impl_isSeen.f a1_0 a1_1 a1_2).bind fun t290 => (if t290 = true then (if (l0_1.length : Int) > 0 then (if 0 < (l0_1.length : Int) then (if ((rd_T27 l0_1 0).f2) > a1_2 then (some (0, ([] : List (S27)), false)) else ((impl_Table_learn.f k a0_0 l0_1 a1_0 a1_1 a1_2).bind fun bt292 => (some (bt292.1, bt292.2, true)))) else (none)) else ((impl_Table_learn.f k a0_0 l0_1 a1_0 a1_1 a1_2).bind fun bt296 => (some (bt296.1, bt296.2, true)))) else (some (0, ([] : List (S27)), false)))) else (some (0, ([] : List (S27)), false)))) = some (r1, r2, r3) := h
 clear h
 replace H := Option.bind_eq_some_iff.mp H
 obtain ⟨t289, A30, H⟩ := H
 replace H : (if t289 = true then ((impl_isSeen.f a1_0 a1_1 a1_2).bind fun t290 => (if t290 = true then (if (l0_1.length : Int) > 0 then (if 0 < (l0_1.length : Int) then (if ((rd_T27 l0_1 0).f2) > a1_2 then (some (0, ([] : List (S27)), false)) else ((impl_Table_learn.f k a0_0 l0_1 a1_0 a1_1 a1_2).bind fun bt292 => (some (bt292.1, bt292.2, true)))) else (none)) else ((impl_Table_learn.f k a0_0 l0_1 a1_0 a1_1 a1_2).bind fun bt296 => (some (bt296.1, bt296.2, true)))) else (some (0, ([] : List (S27)), false)))) else (some (0, ([] : List (S27)), false))) = some (r1, r2, r3) := H
 have A3 := Aside0.mk A30
 clear A30
 by_cases c4 : t289 = true
 rotate_left
 ·replace c4 := Bool.eq_false_iff.mpr c4
  subst c4
  rw [if_neg (show ¬ (false = true) by decide)] at H
  simp only [Option.some.injEq, Prod.mk.injEq] at H
  obtain ⟨rfl, rfl, rfl⟩ := H
  go_enter Try.func5, Try.ntmps5
  try go_wp2_with (first | ((with_reducible refine gate_dst (N := 2) rfl ?_); (try (refine gate_guard (by rfl) ?_; dsimp only)); refine box_event ?hg (N := 2) ?hd (cs := #[.int .i64 a0_0, .slice A0_1 l0_1.length c0_1]) (t := 25) ?hr ?_; (case hd => rfl); (case hg => rfl); (case hr => first | (go_simp; done) | (go_simp; rfl)); intro gb286 hg w58 hbox hb; have BK286 := Aside0.mk (hbox); have GW286 := gw_ hg HB; have GE286 := gw_ hg HB; replace HB := bst_ HB hb; clear hb hbox hg) | ((with_reducible refine gate_dst (N := 3) rfl ?_); (try (refine gate_guard (by rfl) ?_; dsimp only)); refine box_event ?hg (N := 3) ?hd (cs := #[.int .i64 a1_0, .int .i64 a1_1, .int .i64 a1_2]) (t := 27) ?hr ?_; (case hd => rfl); (case hg => rfl); (case hr => first | (go_simp; done) | (go_simp; rfl)); intro gb287 hg w59 hbox hb; have BK287 := Aside0.mk (hbox); have GW287 := gw_ hg HB; have GE287 := gw_ hg HB; have NB286_287 := nl_ hg BK286; have NB287_286 := ng_ hg BK286; replace BK286 := bb_ BK286 hb; replace HB := bst_ HB hb; clear hb hbox hg) | ((with_reducible refine gate_dst (N := 4) rfl ?_); (try (refine gate_guard (by rfl) ?_; dsimp only)); refine box_event ?hg (N := 4) ?hd (cs := #[.int .i64 0, .slice none 0 0]) (t := 25) ?hr ?_; (case hd => rfl); (case hg => rfl); (case hr => first | (go_simp; done) | (go_simp; rfl)); intro gb288 hg w60 hbox hb; have BK288 := Aside0.mk (hbox); have GW288 := gw_ hg HB; have GE288 := gw_ hg HB; have NB286_288 := nl_ hg BK286; have NB288_286 := ng_ hg BK286; have NB287_288 := nl_ hg BK287; have NB288_287 := ng_ hg BK287; replace BK286 := bb_ BK286 hb; replace BK287 := bb_ BK287 hb; replace HB := bst_ HB hb; clear hb hbox hg))
  replace BK286 := bd_ BK286
  replace BK287 := bd_ BK287
  replace BK288 := bd_ BK288
  replace HB := Aside0.mk (below_drew1 HB.out)
  refine start_ (n := 24) (S := fun w' => w'.cell? ⟨gb286, 0, none⟩ = some (.int .i64 a0_0) ∧ w'.cell? ⟨gb286, 1, none⟩ = some (.slice A0_1 l0_1.length c0_1)) (ds := []) (bs 24 0) (by kernel_rfl) rfl rfl ⟨bc_ BK286 0, bc_ BK286 1⟩ (fun hHeld => ?_); refine with_tabW impl_Learn.tab1 impl_Learn.bits1 (fun HT_ HW_ => ?_)
  generalize w60.drew = w61 at BK286 BK287 BK288 HB hHeld ⊢
  refine tk_ 0 6 (bs 24 1) HT_ HW_ hHeld ?_
  refine on_ 1 (some 7) (bs 24 3) HT_ (fun K hK => ?_)
  refine goes_ Try.func8 (by kernel_rfl) rfl #[.agg #[.int .i64 a0_0, .slice A0_1 l0_1.length c0_1]] (by rfl) rfl rfl tm_ ?_
  with_reducible refine (impl_GoodTable.calls k a0_0 _ _ l0_1 false _ ?side1 ?side2 A3.out).mono ?_
  (case side1 => exact cb_ HR0_1 HB)
  (case side2 => exact HC0_1.out)
  rintro e w62 ⟨rfl, hb⟩
  refine ⟨_, rfl, ?_⟩
  replace BK286 := bb_ BK286 hb
  replace BK287 := bb_ BK287 hb
  replace BK288 := bb_ BK288 hb
  replace HB := bst_ HB hb
  clear hb
  refine hK.out _ _ ⟨bc_ BK286 0, bc_ BK286 1⟩ (fun hHeld => ?_)
  clear hK K
  refine nm_ 7 ?_
  refine pu_ 2 8 (bs 24 7) HT_ ?_
  refine pu_ 3 9 (bs 24 15) HT_ ?_
  refine pn_ 4 10 (bs 24 31) HT_ ?_
  refine pn_ 5 11 (bs 24 63) HT_ ?_
  refine pn_ 6 12 (bs 24 127) HT_ ?_
  refine pu_ 7 13 (bs 24 255) HT_ ?_
  refine pu_ 8 14 (bs 24 511) HT_ ?_
  refine pn_ 9 15 (bs 24 1023) HT_ ?_
  refine pn_ 10 16 (bs 24 2047) HT_ ?_
  refine pn_ 11 17 (bs 24 4095) HT_ ?_
  refine pn_ 12 18 (bs 24 8191) HT_ ?_
  refine pn_ 13 19 (bs 24 16383) HT_ ?_
  refine pn_ 14 20 (bs 24 32767) HT_ ?_
  refine pn_ 15 21 (bs 24 65535) HT_ ?_
  refine pn_ 16 22 (bs 24 131071) HT_ ?_
  refine pn_ 17 23 (bs 24 262143) HT_ ?_
  refine pn_ 18 24 (bs 24 524287) HT_ ?_
  refine pn_ 19 25 (bs 24 1048575) HT_ ?_
  refine pn_ 20 26 (bs 24 2097151) HT_ ?_
  refine pn_ 21 27 (bs 24 4194303) HT_ ?_
  refine pn_ 22 28 (bs 24 8388607) HT_ ?_
  refine pu_ 23 29 (bs 24 16777215) HT_ ?_
  refine done_ (done_of HT_.out (by kernel_rfl)) ?_
  have hnb63 := NB288_286.out
  have hnc63 := NB286_288.out
  have hnb64 := NB288_287.out
  have hnc64 := NB287_288.out
  have hcz65_0 : w62.cell? ⟨gb288, 0, none⟩ = some (.int .i64 0) := bc_ BK288 0
  have hcz65_1 : w62.cell? ⟨gb288, 1, none⟩ = some (.slice none 0 0) := bc_ BK288 1
  have hfz65_0 := blk_frozen BK288.out 0
  have hfz65_1 := blk_frozen BK288.out 1
  try go_wp2
  refine bodyPost_ret (results_ct rfl _ _ gb288 25 #[.int .i64 0, .slice none 0 0] (0, 0) _ rfl (by (with_reducible repeat (first | refine blk_drewN ?_ _ | refine blk_drew ?_ | refine blk_alloc ?_ _)); refine blk_put (cs := #[.int .i64 0, .slice none 0 0]) ?_ 1 _ rfl; (with_reducible repeat (first | refine blk_drewN ?_ _ | refine blk_drew ?_ | refine blk_alloc ?_ _)); refine blk_put (cs := #[.int .i64 0, .slice none 0 0]) ?_ 0 _ rfl; (with_reducible repeat (first | refine blk_drewN ?_ _ | refine blk_drew ?_ | refine blk_alloc ?_ _)); exact BK288.out) Try.underlying25 rfl (by kernel_rfl)) rfl ?_
  exact ⟨_, rt_, by first | exact Kd.R_nil _ _ _ _ _ | exact Kd.N_nil _ _ _ _ _ | exact Kd.V_nil _ _ _ _ _ | exact Kd.Q_nil _ _ _ _ _ | exact Kd.S_nil _ _ _ _ _, hB HB⟩
 subst c4
 rw [if_pos rfl] at H
 replace H := Option.bind_eq_some_iff.mp H
 obtain ⟨t290, A50, H⟩ := H
 replace H : (if t290 = true then (if (l0_1.length : Int) > 0 then (if 0 < (l0_1.length : Int) then (if ((rd_T27 l0_1 0).f2) > a1_2 then (some (0, ([] : List (S27)), false)) else ((impl_Table_learn.f k a0_0 l0_1 a1_0 a1_1 a1_2).bind fun bt292 => (some (bt292.1, bt292.2, true)))) else (none)) else ((impl_Table_learn.f k a0_0 l0_1 a1_0 a1_1 a1_2).bind fun bt296 => (some (bt296.1, bt296.2, true)))) else (some (0, ([] : List (S27)), false))) = some (r1, r2, r3) := H
 have A5 := Aside0.mk A50
 clear A50
 by_cases c6 : t290 = true
 rotate_left
 ·replace c6 := Bool.eq_false_iff.mpr c6
  subst c6
  rw [if_neg (show ¬ (false = true) by decide)] at H
  simp only [Option.some.injEq, Prod.mk.injEq] at H
  obtain ⟨rfl, rfl, rfl⟩ := H
  go_enter Try.func5, Try.ntmps5
  try go_wp2_with (first | ((with_reducible refine gate_dst (N := 2) rfl ?_); (try (refine gate_guard (by rfl) ?_; dsimp only)); refine box_event ?hg (N := 2) ?hd (cs := #[.int .i64 a0_0, .slice A0_1 l0_1.length c0_1]) (t := 25) ?hr ?_; (case hd => rfl); (case hg => rfl); (case hr => first | (go_simp; done) | (go_simp; rfl)); intro gb286 hg w49 hbox hb; have BK286 := Aside0.mk (hbox); have GW286 := gw_ hg HB; have GE286 := gw_ hg HB; replace HB := bst_ HB hb; clear hb hbox hg) | ((with_reducible refine gate_dst (N := 3) rfl ?_); (try (refine gate_guard (by rfl) ?_; dsimp only)); refine box_event ?hg (N := 3) ?hd (cs := #[.int .i64 a1_0, .int .i64 a1_1, .int .i64 a1_2]) (t := 27) ?hr ?_; (case hd => rfl); (case hg => rfl); (case hr => first | (go_simp; done) | (go_simp; rfl)); intro gb287 hg w50 hbox hb; have BK287 := Aside0.mk (hbox); have GW287 := gw_ hg HB; have GE287 := gw_ hg HB; have NB286_287 := nl_ hg BK286; have NB287_286 := ng_ hg BK286; replace BK286 := bb_ BK286 hb; replace HB := bst_ HB hb; clear hb hbox hg) | ((with_reducible refine gate_dst (N := 4) rfl ?_); (try (refine gate_guard (by rfl) ?_; dsimp only)); refine box_event ?hg (N := 4) ?hd (cs := #[.int .i64 0, .slice none 0 0]) (t := 25) ?hr ?_; (case hd => rfl); (case hg => rfl); (case hr => first | (go_simp; done) | (go_simp; rfl)); intro gb288 hg w51 hbox hb; have BK288 := Aside0.mk (hbox); have GW288 := gw_ hg HB; have GE288 := gw_ hg HB; have NB286_288 := nl_ hg BK286; have NB288_286 := ng_ hg BK286; have NB287_288 := nl_ hg BK287; have NB288_287 := ng_ hg BK287; replace BK286 := bb_ BK286 hb; replace BK287 := bb_ BK287 hb; replace HB := bst_ HB hb; clear hb hbox hg))
  replace BK286 := bd_ BK286
  replace BK287 := bd_ BK287
  replace BK288 := bd_ BK288
  replace HB := Aside0.mk (below_drew1 HB.out)
  refine start_ (n := 24) (S := fun w' => w'.cell? ⟨gb286, 0, none⟩ = some (.int .i64 a0_0) ∧ w'.cell? ⟨gb286, 1, none⟩ = some (.slice A0_1 l0_1.length c0_1) ∧ w'.cell? ⟨gb287, 0, none⟩ = some (.int .i64 a1_0) ∧ w'.cell? ⟨gb287, 1, none⟩ = some (.int .i64 a1_1) ∧ w'.cell? ⟨gb287, 2, none⟩ = some (.int .i64 a1_2)) (ds := []) (bs 24 0) (by kernel_rfl) rfl rfl ⟨bc_ BK286 0, bc_ BK286 1, bc_ BK287 0, bc_ BK287 1, bc_ BK287 2⟩ (fun hHeld => ?_); refine with_tabW impl_Learn.tab1 impl_Learn.bits1 (fun HT_ HW_ => ?_)
  generalize w51.drew = w52 at BK286 BK287 BK288 HB hHeld ⊢
  refine tk_ 0 6 (bs 24 1) HT_ HW_ hHeld ?_
  refine on_ 1 (some 7) (bs 24 3) HT_ (fun K hK => ?_)
  refine goes_ Try.func8 (by kernel_rfl) rfl #[.agg #[.int .i64 a0_0, .slice A0_1 l0_1.length c0_1]] (by rfl) rfl rfl tm_ ?_
  with_reducible refine (impl_GoodTable.calls k a0_0 _ _ l0_1 true _ ?side1 ?side2 A3.out).mono ?_
  (case side1 => exact cb_ HR0_1 HB)
  (case side2 => exact HC0_1.out)
  rintro e w53 ⟨rfl, hb⟩
  refine ⟨_, rfl, ?_⟩
  replace BK286 := bb_ BK286 hb
  replace BK287 := bb_ BK287 hb
  replace BK288 := bb_ BK288 hb
  replace HB := bst_ HB hb
  clear hb
  refine hK.out _ _ ⟨bc_ BK286 0, bc_ BK286 1, bc_ BK287 0, bc_ BK287 1, bc_ BK287 2⟩ (fun hHeld => ?_)
  clear hK K
  refine nm_ 7 ?_
  refine pu_ 2 8 (bs 24 7) HT_ ?_
  refine pu_ 3 9 (bs 24 15) HT_ ?_
  refine tk_ 4 10 (bs 24 31) HT_ HW_ hHeld ?_
  refine on_ 5 (some 11) (bs 24 63) HT_ (fun K hK => ?_)
  refine goes_ Try.func22 (by kernel_rfl) rfl #[.agg #[.int .i64 a1_0, .int .i64 a1_1, .int .i64 a1_2]] (by rfl) rfl rfl tm_ ?_
  with_reducible refine (impl_isSeen.calls a1_0 a1_1 a1_2 false _ A5.out).mono ?_
  rintro e w54 ⟨rfl, hb⟩
  refine ⟨_, rfl, ?_⟩
  replace BK286 := bb_ BK286 hb
  replace BK287 := bb_ BK287 hb
  replace BK288 := bb_ BK288 hb
  replace HB := bst_ HB hb
  clear hb
  refine hK.out _ _ ⟨bc_ BK286 0, bc_ BK286 1, bc_ BK287 0, bc_ BK287 1, bc_ BK287 2⟩ (fun hHeld => ?_)
  clear hK K
  refine nm_ 11 ?_
  refine pu_ 6 12 (bs 24 127) HT_ ?_
  refine pu_ 7 13 (bs 24 255) HT_ ?_
  refine pu_ 8 14 (bs 24 511) HT_ ?_
  refine pn_ 9 15 (bs 24 1023) HT_ ?_
  refine pn_ 10 16 (bs 24 2047) HT_ ?_
  refine pn_ 11 17 (bs 24 4095) HT_ ?_
  refine pn_ 12 18 (bs 24 8191) HT_ ?_
  refine pn_ 13 19 (bs 24 16383) HT_ ?_
  refine pn_ 14 20 (bs 24 32767) HT_ ?_
  refine pn_ 15 21 (bs 24 65535) HT_ ?_
  refine pn_ 16 22 (bs 24 131071) HT_ ?_
  refine pn_ 17 23 (bs 24 262143) HT_ ?_
  refine pn_ 18 24 (bs 24 524287) HT_ ?_
  refine pn_ 19 25 (bs 24 1048575) HT_ ?_
  refine pn_ 20 26 (bs 24 2097151) HT_ ?_
  refine pn_ 21 27 (bs 24 4194303) HT_ ?_
  refine pn_ 22 28 (bs 24 8388607) HT_ ?_
  refine pu_ 23 29 (bs 24 16777215) HT_ ?_
  refine done_ (done_of HT_.out (by kernel_rfl)) ?_
  have hnb55 := NB288_286.out
  have hnc55 := NB286_288.out
  have hnb56 := NB288_287.out
  have hnc56 := NB287_288.out
  have hcz57_0 : w54.cell? ⟨gb288, 0, none⟩ = some (.int .i64 0) := bc_ BK288 0
  have hcz57_1 : w54.cell? ⟨gb288, 1, none⟩ = some (.slice none 0 0) := bc_ BK288 1
  have hfz57_0 := blk_frozen BK288.out 0
  have hfz57_1 := blk_frozen BK288.out 1
  try go_wp2
  refine bodyPost_ret (results_ct rfl _ _ gb288 25 #[.int .i64 0, .slice none 0 0] (0, 0) _ rfl (by (with_reducible repeat (first | refine blk_drewN ?_ _ | refine blk_drew ?_ | refine blk_alloc ?_ _)); refine blk_put (cs := #[.int .i64 0, .slice none 0 0]) ?_ 1 _ rfl; (with_reducible repeat (first | refine blk_drewN ?_ _ | refine blk_drew ?_ | refine blk_alloc ?_ _)); refine blk_put (cs := #[.int .i64 0, .slice none 0 0]) ?_ 0 _ rfl; (with_reducible repeat (first | refine blk_drewN ?_ _ | refine blk_drew ?_ | refine blk_alloc ?_ _)); exact BK288.out) Try.underlying25 rfl (by kernel_rfl)) rfl ?_
  exact ⟨_, rt_, by first | exact Kd.R_nil _ _ _ _ _ | exact Kd.N_nil _ _ _ _ _ | exact Kd.V_nil _ _ _ _ _ | exact Kd.Q_nil _ _ _ _ _ | exact Kd.S_nil _ _ _ _ _, hB HB⟩
 subst c6
 rw [if_pos rfl] at H
 by_cases c7 : (l0_1.length : Int) > 0
 rotate_left
 ·rw [if_neg c7] at H
  have c7b0 : decide (0 < (l0_1.length : Int)) = false := decide_eq_false c7
  have c7b1 : decide (0 < l0_1.length) = false := decide_eq_false (by omega)
  clear c7
  replace H := Option.bind_eq_some_iff.mp H
  obtain ⟨⟨t296, t297⟩, A340, H⟩ := H
  replace H : (some (t296, t297, true)) = some (r1, r2, r3) := H
  have A34 := Aside0.mk A340
  clear A340
  simp only [Option.some.injEq, Prod.mk.injEq] at H
  obtain ⟨rfl, rfl, rfl⟩ := H
  go_enter Try.func5, Try.ntmps5
  try go_wp2_with (first | ((with_reducible refine gate_dst (N := 2) rfl ?_); (try (refine gate_guard (by rfl) ?_; dsimp only)); refine box_event ?hg (N := 2) ?hd (cs := #[.int .i64 a0_0, .slice A0_1 l0_1.length c0_1]) (t := 25) ?hr ?_; (case hd => rfl); (case hg => rfl); (case hr => first | (go_simp; done) | (go_simp; rfl)); intro gb286 hg w35 hbox hb; have BK286 := Aside0.mk (hbox); have GW286 := gw_ hg HB; have GE286 := gw_ hg HB; replace HB := bst_ HB hb; clear hb hbox hg) | ((with_reducible refine gate_dst (N := 3) rfl ?_); (try (refine gate_guard (by rfl) ?_; dsimp only)); refine box_event ?hg (N := 3) ?hd (cs := #[.int .i64 a1_0, .int .i64 a1_1, .int .i64 a1_2]) (t := 27) ?hr ?_; (case hd => rfl); (case hg => rfl); (case hr => first | (go_simp; done) | (go_simp; rfl)); intro gb287 hg w36 hbox hb; have BK287 := Aside0.mk (hbox); have GW287 := gw_ hg HB; have GE287 := gw_ hg HB; have NB286_287 := nl_ hg BK286; have NB287_286 := ng_ hg BK286; replace BK286 := bb_ BK286 hb; replace HB := bst_ HB hb; clear hb hbox hg) | ((with_reducible refine gate_dst (N := 4) rfl ?_); (try (refine gate_guard (by rfl) ?_; dsimp only)); refine box_event ?hg (N := 4) ?hd (cs := #[.int .i64 0, .slice none 0 0]) (t := 25) ?hr ?_; (case hd => rfl); (case hg => rfl); (case hr => first | (go_simp; done) | (go_simp; rfl)); intro gb288 hg w37 hbox hb; have BK288 := Aside0.mk (hbox); have GW288 := gw_ hg HB; have GE288 := gw_ hg HB; have NB286_288 := nl_ hg BK286; have NB288_286 := ng_ hg BK286; have NB287_288 := nl_ hg BK287; have NB288_287 := ng_ hg BK287; replace BK286 := bb_ BK286 hb; replace BK287 := bb_ BK287 hb; replace HB := bst_ HB hb; clear hb hbox hg))
  replace BK286 := bd_ BK286
  replace BK287 := bd_ BK287
  replace BK288 := bd_ BK288
  replace HB := Aside0.mk (below_drew1 HB.out)
  refine start_ (n := 24) (S := fun w' => w'.cell? ⟨gb286, 0, none⟩ = some (.int .i64 a0_0) ∧ w'.cell? ⟨gb286, 1, none⟩ = some (.slice A0_1 l0_1.length c0_1) ∧ w'.cell? ⟨gb287, 0, none⟩ = some (.int .i64 a1_0) ∧ w'.cell? ⟨gb287, 1, none⟩ = some (.int .i64 a1_1) ∧ w'.cell? ⟨gb287, 2, none⟩ = some (.int .i64 a1_2)) (ds := []) (bs 24 0) (by kernel_rfl) rfl rfl ⟨bc_ BK286 0, bc_ BK286 1, bc_ BK287 0, bc_ BK287 1, bc_ BK287 2⟩ (fun hHeld => ?_); refine with_tabW impl_Learn.tab1 impl_Learn.bits1 (fun HT_ HW_ => ?_)
  generalize w37.drew = w38 at BK286 BK287 BK288 HB hHeld ⊢
  refine tk_ 0 6 (bs 24 1) HT_ HW_ hHeld ?_
  refine on_ 1 (some 7) (bs 24 3) HT_ (fun K hK => ?_)
  refine goes_ Try.func8 (by kernel_rfl) rfl #[.agg #[.int .i64 a0_0, .slice A0_1 l0_1.length c0_1]] (by rfl) rfl rfl tm_ ?_
  with_reducible refine (impl_GoodTable.calls k a0_0 _ _ l0_1 true _ ?side1 ?side2 A3.out).mono ?_
  (case side1 => exact cb_ HR0_1 HB)
  (case side2 => exact HC0_1.out)
  rintro e w39 ⟨rfl, hb⟩
  refine ⟨_, rfl, ?_⟩
  replace BK286 := bb_ BK286 hb
  replace BK287 := bb_ BK287 hb
  replace BK288 := bb_ BK288 hb
  replace HB := bst_ HB hb
  clear hb
  refine hK.out _ _ ⟨bc_ BK286 0, bc_ BK286 1, bc_ BK287 0, bc_ BK287 1, bc_ BK287 2⟩ (fun hHeld => ?_)
  clear hK K
  refine nm_ 7 ?_
  refine pu_ 2 8 (bs 24 7) HT_ ?_
  refine pu_ 3 9 (bs 24 15) HT_ ?_
  refine tk_ 4 10 (bs 24 31) HT_ HW_ hHeld ?_
  refine on_ 5 (some 11) (bs 24 63) HT_ (fun K hK => ?_)
  refine goes_ Try.func22 (by kernel_rfl) rfl #[.agg #[.int .i64 a1_0, .int .i64 a1_1, .int .i64 a1_2]] (by rfl) rfl rfl tm_ ?_
  with_reducible refine (impl_isSeen.calls a1_0 a1_1 a1_2 true _ A5.out).mono ?_
  rintro e w40 ⟨rfl, hb⟩
  refine ⟨_, rfl, ?_⟩
  replace BK286 := bb_ BK286 hb
  replace BK287 := bb_ BK287 hb
  replace BK288 := bb_ BK288 hb
  replace HB := bst_ HB hb
  clear hb
  refine hK.out _ _ ⟨bc_ BK286 0, bc_ BK286 1, bc_ BK287 0, bc_ BK287 1, bc_ BK287 2⟩ (fun hHeld => ?_)
  clear hK K
  refine nm_ 11 ?_
  refine pu_ 6 12 (bs 24 127) HT_ ?_
  refine pu_ 7 13 (bs 24 255) HT_ ?_
  refine pu_ 8 14 (bs 24 511) HT_ ?_
  refine pu_ 9 15 (bs 24 1023) HT_ ?_
  refine tk_ 10 16 (bs 24 2047) HT_ HW_ hHeld ?_
  refine pu_ 11 17 (bs 24 4095) HT_ ?_
  refine pu_ 12 18 (bs 24 8191) HT_ ?_
  refine pu_ 13 19 (bs 24 16383) HT_ ?_
  refine pn_ 14 20 (bs 24 32767) HT_ ?_
  refine pn_ 15 21 (bs 24 65535) HT_ ?_
  refine pn_ 16 22 (bs 24 131071) HT_ ?_
  refine pn_ 17 23 (bs 24 262143) HT_ ?_
  refine pn_ 18 24 (bs 24 524287) HT_ ?_
  refine pn_ 19 25 (bs 24 1048575) HT_ ?_
  refine pn_ 20 26 (bs 24 2097151) HT_ ?_
  refine pn_ 21 27 (bs 24 4194303) HT_ ?_
  refine pu_ 22 28 (bs 24 8388607) HT_ ?_
  refine pu_ 23 29 (bs 24 16777215) HT_ ?_
  refine done_ (done_of HT_.out (by kernel_rfl)) ?_
  have hnb41 := NB286_287.out
  have hnc41 := NB287_286.out
  have hnb42 := NB286_288.out
  have hnc42 := NB288_286.out
  have hcz43_0 : w40.cell? ⟨gb286, 0, none⟩ = some (.int .i64 a0_0) := bc_ BK286 0
  have hcz43_1 : w40.cell? ⟨gb286, 1, none⟩ = some (.slice A0_1 l0_1.length c0_1) := bc_ BK286 1
  have hfz43_0 := blk_frozen BK286.out 0
  have hfz43_1 := blk_frozen BK286.out 1
  have hnb44 := NB287_288.out
  have hnc44 := NB288_287.out
  have hcz45_0 : w40.cell? ⟨gb287, 0, none⟩ = some (.int .i64 a1_0) := bc_ BK287 0
  have hcz45_1 : w40.cell? ⟨gb287, 1, none⟩ = some (.int .i64 a1_1) := bc_ BK287 1
  have hcz45_2 : w40.cell? ⟨gb287, 2, none⟩ = some (.int .i64 a1_2) := bc_ BK287 2
  have hfz45_0 := blk_frozen BK287.out 0
  have hfz45_1 := blk_frozen BK287.out 1
  have hfz45_2 := blk_frozen BK287.out 2
  try go_wp2_with (first | (refine goesL_ (some 33) rfl rfl Try.func23 (by kernel_rfl) rfl #[.agg #[.int .i64 a0_0, .slice A0_1 l0_1.length c0_1], .agg #[.int .i64 a1_0, .int .i64 a1_1, .int .i64 a1_2]] rfl tm_ ?_; (with_reducible refine (impl_Table_learn.calls k a0_0 _ _ l0_1 a1_0 a1_1 a1_2 t296 t297 _ ?side1 ?side2 A34.out).mono ?_); (case side1 => exact cb_ HR0_1 HB); (case side2 => exact HC0_1.out); rintro e w46 ⟨v298, rfl, ho0, hb⟩; refine ⟨_, rfl, ?_⟩; have HO299 := Aside0.mk (Kd.R_lower (Kd.R_newB ho0 (g := gb287) (o := .cells #[.int .i64 a1_0, .int .i64 a1_1, .int .i64 a1_2] 27 (0, 0)) (ba BK287.out)) (below_size (hB HB))); replace BK286 := bb_ BK286 hb; replace BK287 := bb_ BK287 hb; replace BK288 := bb_ BK288 hb; replace HB := bst_ HB hb; clear hb ho0; obtain ⟨hcz47_0, hcz47_1⟩ := bcs2_ BK288; have hfz47_0 := blk_frozen BK288.out 0; have hfz47_1 := blk_frozen BK288.out 1; obtain ⟨Ao48, co48, eo48⟩ := Kd.R_slice HO299.out; subst eo48))
  refine bodyPost_ret (results_ct rfl _ _ gb288 25 #[.int .i64 t296, .slice Ao48 t297.length co48] (0, 0) _ rfl (by (with_reducible repeat (first | refine blk_drewN ?_ _ | refine blk_drew ?_ | refine blk_alloc ?_ _)); refine blk_put (cs := #[.int .i64 t296, .slice none 0 0]) ?_ 1 _ rfl; (with_reducible repeat (first | refine blk_drewN ?_ _ | refine blk_drew ?_ | refine blk_alloc ?_ _)); refine blk_put (cs := #[.int .i64 0, .slice none 0 0]) ?_ 0 _ rfl; (with_reducible repeat (first | refine blk_drewN ?_ _ | refine blk_drew ?_ | refine blk_alloc ?_ _)); exact BK288.out) Try.underlying25 rfl (by kernel_rfl)) rfl ?_
  exact ⟨_, rt_, by (with_reducible repeat (first | apply Kd.R_alloc | apply Kd.R_drewN | apply Kd.R_drew)); exact Kd.R_mono (fs2_ HO299.out BK288.out) (fun _ hk => trivial), hB HB⟩
 rw [if_pos c7] at H
 have c7b0 : decide (0 < (l0_1.length : Int)) = true := decide_eq_true c7
 have c7b1 : decide (0 < l0_1.length) = true := decide_eq_true (by omega)
 clear c7
 by_cases c8 : 0 < (l0_1.length : Int)
 rotate_left
 ·rw [if_neg c8] at H
  exact absurd H (by simp)
 rw [if_pos c8] at H
 have c8b0 : decide (0 < (l0_1.length : Int)) = true := decide_eq_true c8
 have c8b1 : decide (0 < l0_1.length) = true := decide_eq_true (by omega)
 clear c8
 by_cases c9 : ((rd_T27 l0_1 0).f2) > a1_2
 ·rw [if_pos c9] at H
  have c9b0 : decide (a1_2 < ((rd_T27 l0_1 0).f2)) = true := decide_eq_true c9
  clear c9
  simp only [Option.some.injEq, Prod.mk.injEq] at H
  obtain ⟨rfl, rfl, rfl⟩ := H
  go_enter Try.func5, Try.ntmps5
  try go_wp2_with (first | ((with_reducible refine gate_dst (N := 2) rfl ?_); (try (refine gate_guard (by rfl) ?_; dsimp only)); refine box_event ?hg (N := 2) ?hd (cs := #[.int .i64 a0_0, .slice A0_1 l0_1.length c0_1]) (t := 25) ?hr ?_; (case hd => rfl); (case hg => rfl); (case hr => first | (go_simp; done) | (go_simp; rfl)); intro gb286 hg w10 hbox hb; have BK286 := Aside0.mk (hbox); have GW286 := gw_ hg HB; have GE286 := gw_ hg HB; replace HB := bst_ HB hb; clear hb hbox hg) | ((with_reducible refine gate_dst (N := 3) rfl ?_); (try (refine gate_guard (by rfl) ?_; dsimp only)); refine box_event ?hg (N := 3) ?hd (cs := #[.int .i64 a1_0, .int .i64 a1_1, .int .i64 a1_2]) (t := 27) ?hr ?_; (case hd => rfl); (case hg => rfl); (case hr => first | (go_simp; done) | (go_simp; rfl)); intro gb287 hg w11 hbox hb; have BK287 := Aside0.mk (hbox); have GW287 := gw_ hg HB; have GE287 := gw_ hg HB; have NB286_287 := nl_ hg BK286; have NB287_286 := ng_ hg BK286; replace BK286 := bb_ BK286 hb; replace HB := bst_ HB hb; clear hb hbox hg) | ((with_reducible refine gate_dst (N := 4) rfl ?_); (try (refine gate_guard (by rfl) ?_; dsimp only)); refine box_event ?hg (N := 4) ?hd (cs := #[.int .i64 0, .slice none 0 0]) (t := 25) ?hr ?_; (case hd => rfl); (case hg => rfl); (case hr => first | (go_simp; done) | (go_simp; rfl)); intro gb288 hg w12 hbox hb; have BK288 := Aside0.mk (hbox); have GW288 := gw_ hg HB; have GE288 := gw_ hg HB; have NB286_288 := nl_ hg BK286; have NB288_286 := ng_ hg BK286; have NB287_288 := nl_ hg BK287; have NB288_287 := ng_ hg BK287; replace BK286 := bb_ BK286 hb; replace BK287 := bb_ BK287 hb; replace HB := bst_ HB hb; clear hb hbox hg))
  replace BK286 := bd_ BK286
  replace BK287 := bd_ BK287
  replace BK288 := bd_ BK288
  replace HB := Aside0.mk (below_drew1 HB.out)
  have p291 : 0 ≤ (0 : Int) := (by omega)
  have q291 : 0 < (l0_1.length : Int) := od_
  obtain ⟨ad291, e291, hx291_0, hx291_1, hx291_2⟩ := at_T27 HR0_1.out 0 p291 q291
  have hw291_2 := hx291_2
  (try rw [show ((0 : Int)).toNat = 0 from rfl] at hw291_2)
  (try rw [show 0 * 3 = 0 from rfl] at hw291_2)
  (try rw [Addr.add_zero'] at hw291_2)
  have hw291_1 := hx291_1
  (try rw [show ((0 : Int)).toNat = 0 from rfl] at hw291_1)
  (try rw [show 0 * 3 = 0 from rfl] at hw291_1)
  (try rw [Addr.add_zero'] at hw291_1)
  have hw291_0 := hx291_0
  (try rw [show ((0 : Int)).toNat = 0 from rfl] at hw291_0)
  (try rw [show 0 * 3 = 0 from rfl] at hw291_0)
  (try rw [Addr.add_zero'] at hw291_0)
  cases e291
  have qi291 : (0 < l0_1.length) = True := eq_true (by omega)
  (try rw [show ((0 : Int)).toNat = 0 from rfl] at hx291_0)
  (try rw [show 0 * 3 = 0 from rfl] at hx291_0)
  (try rw [Addr.add_zero'] at hx291_0)
  (try rw [show ((0 : Int)).toNat = 0 from rfl] at hx291_1)
  (try rw [show 0 * 3 = 0 from rfl] at hx291_1)
  (try rw [Addr.add_zero'] at hx291_1)
  (try rw [show ((0 : Int)).toNat = 0 from rfl] at hx291_2)
  (try rw [show 0 * 3 = 0 from rfl] at hx291_2)
  (try rw [Addr.add_zero'] at hx291_2)
  replace hx291_0 := hc_ HB hx291_0
  replace hx291_1 := hc_ HB hx291_1
  replace hx291_2 := hc_ HB hx291_2
  replace p291 := eq_true p291
  replace q291 := eq_true q291
  refine start_ (n := 24) (S := fun w' => w'.cell? ⟨gb286, 0, none⟩ = some (.int .i64 a0_0) ∧ w'.cell? ⟨gb286, 1, none⟩ = some (.slice (some ad291) l0_1.length c0_1) ∧ w'.cell? ⟨gb287, 0, none⟩ = some (.int .i64 a1_0) ∧ w'.cell? ⟨gb287, 1, none⟩ = some (.int .i64 a1_1) ∧ w'.cell? ⟨gb287, 2, none⟩ = some (.int .i64 a1_2) ∧ w'.cell? ad291 = some (.int .i64 ((rd_T27 l0_1 0).f0)) ∧ w'.cell? ⟨ad291.block, ad291.off + 1, none⟩ = some (.int .i64 ((rd_T27 l0_1 0).f1)) ∧ w'.cell? ⟨ad291.block, ad291.off + 2, none⟩ = some (.int .i64 ((rd_T27 l0_1 0).f2))) (ds := []) (bs 24 0) (by kernel_rfl) rfl rfl ⟨bc_ BK286 0, bc_ BK286 1, bc_ BK287 0, bc_ BK287 1, bc_ BK287 2, ((HB.out.cell (World.block_lt_of_cell? w _ hw291_0)).trans hw291_0), ((HB.out.cell (World.block_lt_of_cell? w _ hw291_1)).trans hw291_1), ((HB.out.cell (World.block_lt_of_cell? w _ hw291_2)).trans hw291_2)⟩ (fun hHeld => ?_); refine with_tabW impl_Learn.tab1 impl_Learn.bits1 (fun HT_ HW_ => ?_)
  generalize w12.drew = w13 at BK286 BK287 BK288 HB hx291_0 hx291_1 hx291_2 hHeld ⊢
  refine tk_ 0 6 (bs 24 1) HT_ HW_ hHeld ?_
  refine on_ 1 (some 7) (bs 24 3) HT_ (fun K hK => ?_)
  refine goes_ Try.func8 (by kernel_rfl) rfl #[.agg #[.int .i64 a0_0, .slice (some ad291) l0_1.length c0_1]] (by rfl) rfl rfl tm_ ?_
  with_reducible refine (impl_GoodTable.calls k a0_0 _ _ l0_1 true _ ?side1 ?side2 A3.out).mono ?_
  (case side1 => exact cb_ HR0_1 HB)
  (case side2 => exact HC0_1.out)
  rintro e w14 ⟨rfl, hb⟩
  refine ⟨_, rfl, ?_⟩
  replace BK286 := bb_ BK286 hb
  replace BK287 := bb_ BK287 hb
  replace BK288 := bb_ BK288 hb
  replace HB := bst_ HB hb
  clear hb
  refine hK.out _ _ ⟨bc_ BK286 0, bc_ BK286 1, bc_ BK287 0, bc_ BK287 1, bc_ BK287 2, ((HB.out.cell (World.block_lt_of_cell? w _ hw291_0)).trans hw291_0), ((HB.out.cell (World.block_lt_of_cell? w _ hw291_1)).trans hw291_1), ((HB.out.cell (World.block_lt_of_cell? w _ hw291_2)).trans hw291_2)⟩ (fun hHeld => ?_)
  clear hK K
  refine nm_ 7 ?_
  refine pu_ 2 8 (bs 24 7) HT_ ?_
  refine pu_ 3 9 (bs 24 15) HT_ ?_
  refine tk_ 4 10 (bs 24 31) HT_ HW_ hHeld ?_
  refine on_ 5 (some 11) (bs 24 63) HT_ (fun K hK => ?_)
  refine goes_ Try.func22 (by kernel_rfl) rfl #[.agg #[.int .i64 a1_0, .int .i64 a1_1, .int .i64 a1_2]] (by rfl) rfl rfl tm_ ?_
  with_reducible refine (impl_isSeen.calls a1_0 a1_1 a1_2 true _ A5.out).mono ?_
  rintro e w15 ⟨rfl, hb⟩
  refine ⟨_, rfl, ?_⟩
  replace BK286 := bb_ BK286 hb
  replace BK287 := bb_ BK287 hb
  replace BK288 := bb_ BK288 hb
  replace HB := bst_ HB hb
  clear hb
  refine hK.out _ _ ⟨bc_ BK286 0, bc_ BK286 1, bc_ BK287 0, bc_ BK287 1, bc_ BK287 2, ((HB.out.cell (World.block_lt_of_cell? w _ hw291_0)).trans hw291_0), ((HB.out.cell (World.block_lt_of_cell? w _ hw291_1)).trans hw291_1), ((HB.out.cell (World.block_lt_of_cell? w _ hw291_2)).trans hw291_2)⟩ (fun hHeld => ?_)
  clear hK K
  refine nm_ 11 ?_
  refine pu_ 6 12 (bs 24 127) HT_ ?_
  refine pu_ 7 13 (bs 24 255) HT_ ?_
  refine pu_ 8 14 (bs 24 511) HT_ ?_
  refine pu_ 9 15 (bs 24 1023) HT_ ?_
  refine tk_ 10 16 (bs 24 2047) HT_ HW_ hHeld ?_
  refine pu_ 11 17 (bs 24 4095) HT_ ?_
  refine pu_ 12 18 (bs 24 8191) HT_ ?_
  refine pu_ 13 19 (bs 24 16383) HT_ ?_
  refine pu_ 14 20 (bs 24 32767) HT_ ?_
  refine pu_ 19 25 (bs 24 557055) HT_ ?_
  refine tk_ 15 21 (bs 24 589823) HT_ HW_ hHeld ?_
  refine pu_ 16 22 (bs 24 655359) HT_ ?_
  refine pu_ 17 23 (bs 24 786431) HT_ ?_
  refine tk_ 18 24 (bs 24 1048575) HT_ HW_ hHeld ?_
  refine tk_ 20 26 (bs 24 2097151) HT_ HW_ hHeld ?_
  refine pu_ 21 27 (bs 24 4194303) HT_ ?_
  refine pu_ 22 28 (bs 24 8388607) HT_ ?_
  refine pu_ 23 29 (bs 24 16777215) HT_ ?_
  refine done_ (done_of HT_.out (by kernel_rfl)) ?_
  have hnb16 := NB288_286.out
  have hnc16 := NB286_288.out
  have hnb17 := NB288_287.out
  have hnc17 := NB287_288.out
  have hcz18_0 : w15.cell? ⟨gb288, 0, none⟩ = some (.int .i64 0) := bc_ BK288 0
  have hcz18_1 : w15.cell? ⟨gb288, 1, none⟩ = some (.slice none 0 0) := bc_ BK288 1
  have hfz18_0 := blk_frozen BK288.out 0
  have hfz18_1 := blk_frozen BK288.out 1
  try go_wp2
  refine bodyPost_ret (results_ct rfl _ _ gb288 25 #[.int .i64 0, .slice none 0 0] (0, 0) _ rfl (by (with_reducible repeat (first | refine blk_drewN ?_ _ | refine blk_drew ?_ | refine blk_alloc ?_ _)); refine blk_put (cs := #[.int .i64 0, .slice none 0 0]) ?_ 1 _ rfl; (with_reducible repeat (first | refine blk_drewN ?_ _ | refine blk_drew ?_ | refine blk_alloc ?_ _)); refine blk_put (cs := #[.int .i64 0, .slice none 0 0]) ?_ 0 _ rfl; (with_reducible repeat (first | refine blk_drewN ?_ _ | refine blk_drew ?_ | refine blk_alloc ?_ _)); exact BK288.out) Try.underlying25 rfl (by kernel_rfl)) rfl ?_
  exact ⟨_, rt_, by first | exact Kd.R_nil _ _ _ _ _ | exact Kd.N_nil _ _ _ _ _ | exact Kd.V_nil _ _ _ _ _ | exact Kd.Q_nil _ _ _ _ _ | exact Kd.S_nil _ _ _ _ _, hB HB⟩
 rw [if_neg c9] at H
 have c9b0 : decide (a1_2 < ((rd_T27 l0_1 0).f2)) = false := decide_eq_false c9
 clear c9
 replace H := Option.bind_eq_some_iff.mp H
 obtain ⟨⟨t292, t293⟩, A190, H⟩ := H
 replace H : (some (t292, t293, true)) = some (r1, r2, r3) := H
 have A19 := Aside0.mk A190
 clear A190
 simp only [Option.some.injEq, Prod.mk.injEq] at H
 obtain ⟨rfl, rfl, rfl⟩ := H
 go_enter Try.func5, Try.ntmps5
 try go_wp2_with (first | ((with_reducible refine gate_dst (N := 2) rfl ?_); (try (refine gate_guard (by rfl) ?_; dsimp only)); refine box_event ?hg (N := 2) ?hd (cs := #[.int .i64 a0_0, .slice A0_1 l0_1.length c0_1]) (t := 25) ?hr ?_; (case hd => rfl); (case hg => rfl); (case hr => first | (go_simp; done) | (go_simp; rfl)); intro gb286 hg w20 hbox hb; have BK286 := Aside0.mk (hbox); have GW286 := gw_ hg HB; have GE286 := gw_ hg HB; replace HB := bst_ HB hb; clear hb hbox hg) | ((with_reducible refine gate_dst (N := 3) rfl ?_); (try (refine gate_guard (by rfl) ?_; dsimp only)); refine box_event ?hg (N := 3) ?hd (cs := #[.int .i64 a1_0, .int .i64 a1_1, .int .i64 a1_2]) (t := 27) ?hr ?_; (case hd => rfl); (case hg => rfl); (case hr => first | (go_simp; done) | (go_simp; rfl)); intro gb287 hg w21 hbox hb; have BK287 := Aside0.mk (hbox); have GW287 := gw_ hg HB; have GE287 := gw_ hg HB; have NB286_287 := nl_ hg BK286; have NB287_286 := ng_ hg BK286; replace BK286 := bb_ BK286 hb; replace HB := bst_ HB hb; clear hb hbox hg) | ((with_reducible refine gate_dst (N := 4) rfl ?_); (try (refine gate_guard (by rfl) ?_; dsimp only)); refine box_event ?hg (N := 4) ?hd (cs := #[.int .i64 0, .slice none 0 0]) (t := 25) ?hr ?_; (case hd => rfl); (case hg => rfl); (case hr => first | (go_simp; done) | (go_simp; rfl)); intro gb288 hg w22 hbox hb; have BK288 := Aside0.mk (hbox); have GW288 := gw_ hg HB; have GE288 := gw_ hg HB; have NB286_288 := nl_ hg BK286; have NB288_286 := ng_ hg BK286; have NB287_288 := nl_ hg BK287; have NB288_287 := ng_ hg BK287; replace BK286 := bb_ BK286 hb; replace BK287 := bb_ BK287 hb; replace HB := bst_ HB hb; clear hb hbox hg))
 replace BK286 := bd_ BK286
 replace BK287 := bd_ BK287
 replace BK288 := bd_ BK288
 replace HB := Aside0.mk (below_drew1 HB.out)
 have p291 : 0 ≤ (0 : Int) := (by omega)
 have q291 : 0 < (l0_1.length : Int) := od_
 obtain ⟨ad291, e291, hx291_0, hx291_1, hx291_2⟩ := at_T27 HR0_1.out 0 p291 q291
 have hw291_2 := hx291_2
 (try rw [show ((0 : Int)).toNat = 0 from rfl] at hw291_2)
 (try rw [show 0 * 3 = 0 from rfl] at hw291_2)
 (try rw [Addr.add_zero'] at hw291_2)
 have hw291_1 := hx291_1
 (try rw [show ((0 : Int)).toNat = 0 from rfl] at hw291_1)
 (try rw [show 0 * 3 = 0 from rfl] at hw291_1)
 (try rw [Addr.add_zero'] at hw291_1)
 have hw291_0 := hx291_0
 (try rw [show ((0 : Int)).toNat = 0 from rfl] at hw291_0)
 (try rw [show 0 * 3 = 0 from rfl] at hw291_0)
 (try rw [Addr.add_zero'] at hw291_0)
 cases e291
 have qi291 : (0 < l0_1.length) = True := eq_true (by omega)
 (try rw [show ((0 : Int)).toNat = 0 from rfl] at hx291_0)
 (try rw [show 0 * 3 = 0 from rfl] at hx291_0)
 (try rw [Addr.add_zero'] at hx291_0)
 (try rw [show ((0 : Int)).toNat = 0 from rfl] at hx291_1)
 (try rw [show 0 * 3 = 0 from rfl] at hx291_1)
 (try rw [Addr.add_zero'] at hx291_1)
 (try rw [show ((0 : Int)).toNat = 0 from rfl] at hx291_2)
 (try rw [show 0 * 3 = 0 from rfl] at hx291_2)
 (try rw [Addr.add_zero'] at hx291_2)
 replace hx291_0 := hc_ HB hx291_0
 replace hx291_1 := hc_ HB hx291_1
 replace hx291_2 := hc_ HB hx291_2
 replace p291 := eq_true p291
 replace q291 := eq_true q291
 refine start_ (n := 24) (S := fun w' => w'.cell? ⟨gb286, 0, none⟩ = some (.int .i64 a0_0) ∧ w'.cell? ⟨gb286, 1, none⟩ = some (.slice (some ad291) l0_1.length c0_1) ∧ w'.cell? ⟨gb287, 0, none⟩ = some (.int .i64 a1_0) ∧ w'.cell? ⟨gb287, 1, none⟩ = some (.int .i64 a1_1) ∧ w'.cell? ⟨gb287, 2, none⟩ = some (.int .i64 a1_2) ∧ w'.cell? ad291 = some (.int .i64 ((rd_T27 l0_1 0).f0)) ∧ w'.cell? ⟨ad291.block, ad291.off + 1, none⟩ = some (.int .i64 ((rd_T27 l0_1 0).f1)) ∧ w'.cell? ⟨ad291.block, ad291.off + 2, none⟩ = some (.int .i64 ((rd_T27 l0_1 0).f2))) (ds := []) (bs 24 0) (by kernel_rfl) rfl rfl ⟨bc_ BK286 0, bc_ BK286 1, bc_ BK287 0, bc_ BK287 1, bc_ BK287 2, ((HB.out.cell (World.block_lt_of_cell? w _ hw291_0)).trans hw291_0), ((HB.out.cell (World.block_lt_of_cell? w _ hw291_1)).trans hw291_1), ((HB.out.cell (World.block_lt_of_cell? w _ hw291_2)).trans hw291_2)⟩ (fun hHeld => ?_); refine with_tabW impl_Learn.tab1 impl_Learn.bits1 (fun HT_ HW_ => ?_)
 generalize w22.drew = w23 at BK286 BK287 BK288 HB hx291_0 hx291_1 hx291_2 hHeld ⊢
 refine tk_ 0 6 (bs 24 1) HT_ HW_ hHeld ?_
 refine on_ 1 (some 7) (bs 24 3) HT_ (fun K hK => ?_)
 refine goes_ Try.func8 (by kernel_rfl) rfl #[.agg #[.int .i64 a0_0, .slice (some ad291) l0_1.length c0_1]] (by rfl) rfl rfl tm_ ?_
 with_reducible refine (impl_GoodTable.calls k a0_0 _ _ l0_1 true _ ?side1 ?side2 A3.out).mono ?_
 (case side1 => exact cb_ HR0_1 HB)
 (case side2 => exact HC0_1.out)
 rintro e w24 ⟨rfl, hb⟩
 refine ⟨_, rfl, ?_⟩
 replace BK286 := bb_ BK286 hb
 replace BK287 := bb_ BK287 hb
 replace BK288 := bb_ BK288 hb
 replace HB := bst_ HB hb
 clear hb
 refine hK.out _ _ ⟨bc_ BK286 0, bc_ BK286 1, bc_ BK287 0, bc_ BK287 1, bc_ BK287 2, ((HB.out.cell (World.block_lt_of_cell? w _ hw291_0)).trans hw291_0), ((HB.out.cell (World.block_lt_of_cell? w _ hw291_1)).trans hw291_1), ((HB.out.cell (World.block_lt_of_cell? w _ hw291_2)).trans hw291_2)⟩ (fun hHeld => ?_)
 clear hK K
 refine nm_ 7 ?_
 refine pu_ 2 8 (bs 24 7) HT_ ?_
 refine pu_ 3 9 (bs 24 15) HT_ ?_
 refine tk_ 4 10 (bs 24 31) HT_ HW_ hHeld ?_
 refine on_ 5 (some 11) (bs 24 63) HT_ (fun K hK => ?_)
 refine goes_ Try.func22 (by kernel_rfl) rfl #[.agg #[.int .i64 a1_0, .int .i64 a1_1, .int .i64 a1_2]] (by rfl) rfl rfl tm_ ?_
 with_reducible refine (impl_isSeen.calls a1_0 a1_1 a1_2 true _ A5.out).mono ?_
 rintro e w25 ⟨rfl, hb⟩
 refine ⟨_, rfl, ?_⟩
 replace BK286 := bb_ BK286 hb
 replace BK287 := bb_ BK287 hb
 replace BK288 := bb_ BK288 hb
 replace HB := bst_ HB hb
 clear hb
 refine hK.out _ _ ⟨bc_ BK286 0, bc_ BK286 1, bc_ BK287 0, bc_ BK287 1, bc_ BK287 2, ((HB.out.cell (World.block_lt_of_cell? w _ hw291_0)).trans hw291_0), ((HB.out.cell (World.block_lt_of_cell? w _ hw291_1)).trans hw291_1), ((HB.out.cell (World.block_lt_of_cell? w _ hw291_2)).trans hw291_2)⟩ (fun hHeld => ?_)
 clear hK K
 refine nm_ 11 ?_
 refine pu_ 6 12 (bs 24 127) HT_ ?_
 refine pu_ 7 13 (bs 24 255) HT_ ?_
 refine pu_ 8 14 (bs 24 511) HT_ ?_
 refine pu_ 9 15 (bs 24 1023) HT_ ?_
 refine tk_ 10 16 (bs 24 2047) HT_ HW_ hHeld ?_
 refine pu_ 11 17 (bs 24 4095) HT_ ?_
 refine pu_ 12 18 (bs 24 8191) HT_ ?_
 refine pu_ 13 19 (bs 24 16383) HT_ ?_
 refine pu_ 14 20 (bs 24 32767) HT_ ?_
 refine pu_ 19 25 (bs 24 557055) HT_ ?_
 refine tk_ 15 21 (bs 24 589823) HT_ HW_ hHeld ?_
 refine pu_ 16 22 (bs 24 655359) HT_ ?_
 refine pu_ 17 23 (bs 24 786431) HT_ ?_
 refine tk_ 18 24 (bs 24 1048575) HT_ HW_ hHeld ?_
 refine tk_ 20 26 (bs 24 2097151) HT_ HW_ hHeld ?_
 refine pu_ 21 27 (bs 24 4194303) HT_ ?_
 refine pu_ 22 28 (bs 24 8388607) HT_ ?_
 refine pu_ 23 29 (bs 24 16777215) HT_ ?_
 refine done_ (done_of HT_.out (by kernel_rfl)) ?_
 have hnb26 := NB286_287.out
 have hnc26 := NB287_286.out
 have hnb27 := NB286_288.out
 have hnc27 := NB288_286.out
 have hcz28_0 : w25.cell? ⟨gb286, 0, none⟩ = some (.int .i64 a0_0) := bc_ BK286 0
 have hcz28_1 : w25.cell? ⟨gb286, 1, none⟩ = some (.slice (some ad291) l0_1.length c0_1) := bc_ BK286 1
 have hfz28_0 := blk_frozen BK286.out 0
 have hfz28_1 := blk_frozen BK286.out 1
 have hnb29 := NB287_288.out
 have hnc29 := NB288_287.out
 have hcz30_0 : w25.cell? ⟨gb287, 0, none⟩ = some (.int .i64 a1_0) := bc_ BK287 0
 have hcz30_1 : w25.cell? ⟨gb287, 1, none⟩ = some (.int .i64 a1_1) := bc_ BK287 1
 have hcz30_2 : w25.cell? ⟨gb287, 2, none⟩ = some (.int .i64 a1_2) := bc_ BK287 2
 have hfz30_0 := blk_frozen BK287.out 0
 have hfz30_1 := blk_frozen BK287.out 1
 have hfz30_2 := blk_frozen BK287.out 2
 try go_wp2_with (first | (refine goesL_ (some 33) rfl rfl Try.func23 (by kernel_rfl) rfl #[.agg #[.int .i64 a0_0, .slice (some ad291) l0_1.length c0_1], .agg #[.int .i64 a1_0, .int .i64 a1_1, .int .i64 a1_2]] rfl tm_ ?_; (with_reducible refine (impl_Table_learn.calls k a0_0 _ _ l0_1 a1_0 a1_1 a1_2 t292 t293 _ ?side1 ?side2 A19.out).mono ?_); (case side1 => exact cb_ HR0_1 HB); (case side2 => exact HC0_1.out); rintro e w31 ⟨v294, rfl, ho0, hb⟩; refine ⟨_, rfl, ?_⟩; have HO295 := Aside0.mk (Kd.R_lower (Kd.R_newB ho0 (g := gb287) (o := .cells #[.int .i64 a1_0, .int .i64 a1_1, .int .i64 a1_2] 27 (0, 0)) (ba BK287.out)) (below_size (hB HB))); replace BK286 := bb_ BK286 hb; replace BK287 := bb_ BK287 hb; replace BK288 := bb_ BK288 hb; replace HB := bst_ HB hb; clear hb ho0; obtain ⟨hcz32_0, hcz32_1⟩ := bcs2_ BK288; have hfz32_0 := blk_frozen BK288.out 0; have hfz32_1 := blk_frozen BK288.out 1; obtain ⟨Ao33, co33, eo33⟩ := Kd.R_slice HO295.out; subst eo33))
 refine bodyPost_ret (results_ct rfl _ _ gb288 25 #[.int .i64 t292, .slice Ao33 t293.length co33] (0, 0) _ rfl (by (with_reducible repeat (first | refine blk_drewN ?_ _ | refine blk_drew ?_ | refine blk_alloc ?_ _)); refine blk_put (cs := #[.int .i64 t292, .slice none 0 0]) ?_ 1 _ rfl; (with_reducible repeat (first | refine blk_drewN ?_ _ | refine blk_drew ?_ | refine blk_alloc ?_ _)); refine blk_put (cs := #[.int .i64 0, .slice none 0 0]) ?_ 0 _ rfl; (with_reducible repeat (first | refine blk_drewN ?_ _ | refine blk_drew ?_ | refine blk_alloc ?_ _)); exact BK288.out) Try.underlying25 rfl (by kernel_rfl)) rfl ?_
 exact ⟨_, rt_, by (with_reducible repeat (first | apply Kd.R_alloc | apply Kd.R_drewN | apply Kd.R_drew)); exact Kd.R_mono (fs2_ HO295.out BK288.out) (fun _ hk => trivial), hB HB⟩

end Go.Proofs.Ytenedmcobknefaa.P
