import Derived.Test.YtolncjkfcmbieaaF0
import Derived.Test.YtolncjkfcmbieaaF34
import Derived.Test.YtolncjkfcmbieaaF35
import Derived.Test.YtolncjkfcmbieaaF40
namespace Go.Proofs.Ytolncjkfcmbieaa.P
open Go.RowKit Go.Proofs.YtolncjkfcmbieaaW.PrintWords Go.Proofs.YtolncjkfcmbieaaW.PrintLast Go.Proofs.YtolncjkfcmbieaaW.PrintMore
attribute [local go_sem] max2_int min2_int max_two min_two max_three min_three max_four min_four   -- for this text's walks alone
set_option linter.unusedVariables false
set_option linter.unusedSimpArgs false

def spec_StepPair.f (k : Nat) (l0_0 : List Int) (l0_1 : List Int) (l0_2 : List (S127)) (a1_0 : Int) (a1_1 : Int) : Option (List Int × List Int × (List (S127)) × Bool) := (spec_GoodPair.f k l0_0 l0_1 l0_2).bind fun t450 => (if t450 = true then ((spec_l3Own.f l0_0 l0_1 l0_2).bind fun bt451 => ((spec_l3Step.f k bt451.1 bt451.2.1 bt451.2.2 a1_0 a1_1).bind fun bt460 => (if bt460.2.2.2 = true then ((spec_l3Own.f bt460.1 bt460.2.1 bt460.2.2.1).bind fun bt471 => (some (bt471.1, bt471.2.1, bt471.2.2, true))) else (some (([] : List Int), ([] : List Int), ([] : List (S127)), false))))) else (some (([] : List Int), ([] : List Int), ([] : List (S127)), false)))
theorem spec_StepPair.mono : ∀ a0 a1 a2 a3 a4 k, LeO (spec_StepPair.f k a0 a1 a2 a3 a4) (spec_StepPair.f (k + 1) a0 a1 a2 a3 a4) := by
 intro a0 a1 a2 a3 a4 k
 unfold spec_StepPair.f
 repeat' first
   | (with_reducible exact spec_GoodPair.mono _ _ _ _)
   | (with_reducible exact spec_l3Step.mono _ _ _ _ _ _)
   | (with_reducible exact LeO.refl _)
   | (with_reducible exact LeO.none _)
   | (with_reducible refine LeO.ite ?_ ?_)
   | (with_reducible refine LeO.bind ?_ (fun _ => ?_))
def spec_StepPair.T3 : Bool × List (List Nat × List Nat) := (true, [([], []), ([0], [0]), ([], []), ([1, 2, 1], [1, 2]), ([3], [3]), ([4], [4]), ([4], [4]), ([], []), ([7, 5, 3, 0, 1, 2, 3, 4, 5, 7], [5, 7]), ([6, 8, 0, 1, 2, 3, 4, 5, 6, 7, 8], [6])])
def spec_StepPair.B3 : List Nat := [0, 1, 0, 7, 15, 31, 31, 0, 191, 511]
theorem spec_StepPair.tab3 : rtab .any (opsOf Try.f30 3) = spec_StepPair.T3 := by kernel_rfl
theorem spec_StepPair.bits3 : waitsOk spec_StepPair.T3.2 spec_StepPair.B3 = true := by kernel_rfl
set_option maxHeartbeats 8000000 in
set_option maxRecDepth 100000 in
theorem spec_StepPair.calls (k : Nat) (A0_0 : Option Addr) (c0_0 : Nat) (l0_0 : List Int) (A0_1 : Option Addr) (c0_1 : Nat) (l0_1 : List Int) (A0_2 : Option Addr) (c0_2 : Nat) (l0_2 : List (S127)) (a1_0 : Int) (a1_1 : Int) (r1 : List Int) (r2 : List Int) (r3 : List (S127)) (r4 : Bool) (w : World) (hr0_0 : Kd.C (Kd.int .i64) w A0_0 l0_0.length l0_0) (hc0_0 : l0_0.length ≤ c0_0) (hr0_1 : Kd.C (Kd.int .i64) w A0_1 l0_1.length l0_1) (hc0_1 : l0_1.length ≤ c0_1) (hr0_2 : Kd.C k127 w A0_2 l0_2.length l0_2) (hc0_2 : l0_2.length ≤ c0_2) (h : spec_StepPair.f k l0_0 l0_1 l0_2 a1_0 a1_1 = some (r1, r2, r3, r4)) :
  Calls Try.prog 30 #[.agg #[.slice A0_0 l0_0.length c0_0, .slice A0_1 l0_1.length c0_1, .slice A0_2 l0_2.length c0_2], .agg #[.int .i64 a1_0, .int .i64 a1_1]] w fun e w' => ∃ v0_ v1_ v2_ : Value, e = .returned (.tuple #[.agg #[v0_, v1_, v2_], .bool r4]) ∧ Kd.R (Kd.int .i64) 3 w' w.heap.size (fun k_ => no_ v1_ k_) v0_ r1 ∧ Kd.R (Kd.int .i64) 3 w' w.heap.size (fun k_ => no_ v0_ k_) v1_ r2 ∧ Kd.R k127 127 w' w.heap.size (fun _ => True) v2_ r3 ∧ Below w.heap.size w w' := by
 have hu47 := Try.underlying47
 have hu51 := Try.underlying51
 have HR0_0 := Aside0.mk hr0_0
 have HC0_0 := Aside0.mk hc0_0
 clear hr0_0 hc0_0
 have HR0_1 := Aside0.mk hr0_1
 have HC0_1 := Aside0.mk hc0_1
 clear hr0_1 hc0_1
 have HR0_2 := Aside0.mk hr0_2
 have HC0_2 := Aside0.mk hc0_2
 clear hr0_2 hc0_2
 have HB := Aside0.mk (Below.refl w.heap.size w)
 have H : ((spec_GoodPair.f k l0_0 l0_1 l0_2).bind fun t450 => (if t450 = true then ((spec_l3Own.f l0_0 l0_1 l0_2).bind fun bt451 => ((spec_l3Step.f k bt451.1 bt451.2.1 bt451.2.2 a1_0 a1_1).bind fun bt460 => (if bt460.2.2.2 = true then ((spec_l3Own.f bt460.1 bt460.2.1 bt460.2.2.1).bind fun bt471 => (some (bt471.1, bt471.2.1, bt471.2.2, true))) else (some (([] : List Int), ([] : List Int), ([] : List (S127)), false))))) else (some (([] : List Int), ([] : List Int), ([] : List (S127)), false)))) = some (r1, r2, r3, r4) := h
 clear h
 replace H := Option.bind_eq_some_iff.mp H
 obtain ⟨t450, A30, H⟩ := H
 replace H : (if t450 = true then ((spec_l3Own.f l0_0 l0_1 l0_2).bind fun bt451 => ((spec_l3Step.f k bt451.1 bt451.2.1 bt451.2.2 a1_0 a1_1).bind fun bt460 => (if bt460.2.2.2 = true then ((spec_l3Own.f bt460.1 bt460.2.1 bt460.2.2.1).bind fun bt471 => (some (bt471.1, bt471.2.1, bt471.2.2, true))) else (some (([] : List Int), ([] : List Int), ([] : List (S127)), false))))) else (some (([] : List Int), ([] : List Int), ([] : List (S127)), false))) = some (r1, r2, r3, r4) := H
 have A3 := Aside0.mk A30
 clear A30
 by_cases c4 : t450 = true
 rotate_left
 ·replace c4 := Bool.eq_false_iff.mpr c4
  subst c4
  rw [if_neg (show ¬ (false = true) by decide)] at H
  simp only [Option.some.injEq, Prod.mk.injEq] at H
  obtain ⟨rfl, rfl, rfl, rfl⟩ := H
  go_enter Try.func30, Try.ntmps30
  go_wp2_with (first | ((with_reducible refine gate_dst (N := 2) rfl ?_); refine box_event ?hg (N := 2) ?hd (cs := #[.slice A0_0 l0_0.length c0_0, .slice A0_1 l0_1.length c0_1, .slice A0_2 l0_2.length c0_2]) (t := 47) ?hr ?_; (case hd => rfl); (case hg => rfl); (case hr => first | (go_simp; done) | (go_simp; rfl)); intro gb447 hg w64 hbox hb; have BK447 := Aside0.mk (hbox); have GW447 := gw_ hg HB; have GE447 := gw_ hg HB; replace HB := bst_ HB hb; clear hb hbox hg) | ((with_reducible refine gate_dst (N := 3) rfl ?_); refine box_event ?hg (N := 3) ?hd (cs := #[.int .i64 a1_0, .int .i64 a1_1]) (t := 51) ?hr ?_; (case hd => rfl); (case hg => rfl); (case hr => first | (go_simp; done) | (go_simp; rfl)); intro gb448 hg w65 hbox hb; have BK448 := Aside0.mk (hbox); have GW448 := gw_ hg HB; have GE448 := gw_ hg HB; have NB447_448 := nl_ hg BK447; have NB448_447 := ng_ hg BK447; replace BK447 := bb_ BK447 hb; replace HB := bst_ HB hb; clear hb hbox hg) | ((with_reducible refine gate_dst (N := 4) rfl ?_); refine box_event ?hg (N := 4) ?hd (cs := #[.slice none 0 0, .slice none 0 0, .slice none 0 0]) (t := 47) ?hr ?_; (case hd => rfl); (case hg => rfl); (case hr => first | (go_simp; done) | (go_simp; rfl)); intro gb449 hg w66 hbox hb; have BK449 := Aside0.mk (hbox); have GW449 := gw_ hg HB; have GE449 := gw_ hg HB; have NB447_449 := nl_ hg BK447; have NB449_447 := ng_ hg BK447; have NB448_449 := nl_ hg BK448; have NB449_448 := ng_ hg BK448; replace BK447 := bb_ BK447 hb; replace BK448 := bb_ BK448 hb; replace HB := bst_ HB hb; clear hb hbox hg; have hnb67 := NB447_448.out; have hnc67 := NB448_447.out; have hnb68 := NB447_449.out; have hnc68 := NB449_447.out; have hcz69_0 : w66.cell? ⟨gb447, 0, none⟩ = some (.slice A0_0 l0_0.length c0_0) := bc_ BK447 0; have hcz69_1 : w66.cell? ⟨gb447, 1, none⟩ = some (.slice A0_1 l0_1.length c0_1) := bc_ BK447 1; have hcz69_2 : w66.cell? ⟨gb447, 2, none⟩ = some (.slice A0_2 l0_2.length c0_2) := bc_ BK447 2; have hfz69_0 := blk_frozen BK447.out 0; have hfz69_1 := blk_frozen BK447.out 1; have hfz69_2 := blk_frozen BK447.out 2) | ((with_reducible refine gate_callee (f := 86) rfl ?_); refine goesL_ (some 9) rfl rfl Try.func86 (by kernel_rfl) rfl #[.agg #[.slice A0_0 l0_0.length c0_0, .slice A0_1 l0_1.length c0_1, .slice A0_2 l0_2.length c0_2]] rfl tm_ ?_; (with_reducible refine (spec_GoodPair.calls k _ _ l0_0 _ _ l0_1 _ _ l0_2 false _ ?side1 ?side2 ?side3 ?side4 ?side5 ?side6 A3.out).mono ?_); (case side1 => exact ca (Kd.C_below HR0_0.out HB.out)); (case side2 => exact HC0_0.out); (case side3 => exact ca (Kd.C_below HR0_1.out HB.out)); (case side4 => exact HC0_1.out); (case side5 => exact ca (Kd.C_below HR0_2.out HB.out)); (case side6 => exact HC0_2.out); rintro e w70 ⟨rfl, hb⟩; refine ⟨_, rfl, ?_⟩; replace BK447 := bb_ BK447 hb; replace BK448 := bb_ BK448 hb; replace BK449 := bb_ BK449 hb; replace HB := bst_ HB hb; clear hb; have hnb71 := NB449_448.out; have hnc71 := NB448_449.out; have hcz72_0 : w70.cell? ⟨gb449, 0, none⟩ = some (.slice none 0 0) := bc_ BK449 0; have hcz72_1 : w70.cell? ⟨gb449, 1, none⟩ = some (.slice none 0 0) := bc_ BK449 1; have hcz72_2 : w70.cell? ⟨gb449, 2, none⟩ = some (.slice none 0 0) := bc_ BK449 2; have hfz72_0 := blk_frozen BK449.out 0; have hfz72_1 := blk_frozen BK449.out 1; have hfz72_2 := blk_frozen BK449.out 2))
  refine bodyPost_ret (results_ct rfl _ _ gb449 47 #[.slice none 0 0, .slice none 0 0, .slice none 0 0] (0, 0) _ rfl (by (with_reducible repeat (first | refine blk_drewN ?_ _ | refine blk_drew ?_ | refine blk_alloc ?_ _)); refine blk_put (cs := #[.slice none 0 0, .slice none 0 0, .slice none 0 0]) ?_ 2 _ rfl; (with_reducible repeat (first | refine blk_drewN ?_ _ | refine blk_drew ?_ | refine blk_alloc ?_ _)); refine blk_put (cs := #[.slice none 0 0, .slice none 0 0, .slice none 0 0]) ?_ 1 _ rfl; (with_reducible repeat (first | refine blk_drewN ?_ _ | refine blk_drew ?_ | refine blk_alloc ?_ _)); refine blk_put (cs := #[.slice none 0 0, .slice none 0 0, .slice none 0 0]) ?_ 0 _ rfl; (with_reducible repeat (first | refine blk_drewN ?_ _ | refine blk_drew ?_ | refine blk_alloc ?_ _)); exact BK449.out) Try.underlying47 rfl (by kernel_rfl)) rfl ?_
  exact ⟨_, _, _, by first | rfl | (simp [errW_none, errW_some] <;> rfl) | (simp [*, errW_none, errW_some] <;> rfl), by first | exact Kd.R_nil _ _ _ _ _ | exact Kd.N_nil _ _ _ _ _ | exact Kd.V_nil _ _ _ _ _ | exact Kd.Q_nil _ _ _ _ _ | exact Kd.S_nil _ _ _ _ _, by first | exact Kd.R_nil _ _ _ _ _ | exact Kd.N_nil _ _ _ _ _ | exact Kd.V_nil _ _ _ _ _ | exact Kd.Q_nil _ _ _ _ _ | exact Kd.S_nil _ _ _ _ _, by first | exact Kd.R_nil _ _ _ _ _ | exact Kd.N_nil _ _ _ _ _ | exact Kd.V_nil _ _ _ _ _ | exact Kd.Q_nil _ _ _ _ _ | exact Kd.S_nil _ _ _ _ _, by repeat (first | (with_reducible first | exact HB.out | apply below_alloc | apply pw_below_drewN | apply below_drew1 | refine below_set ?_ GE447.out | refine below_set ?_ GE448.out | refine below_set ?_ GE449.out) | exact HB.out)⟩
 subst c4
 rw [if_pos rfl] at H
 replace H := Option.bind_eq_some_iff.mp H
 obtain ⟨⟨t451, t454, t457⟩, A50, H⟩ := H
 replace H : ((spec_l3Step.f k t451 t454 t457 a1_0 a1_1).bind fun bt460 => (if bt460.2.2.2 = true then ((spec_l3Own.f bt460.1 bt460.2.1 bt460.2.2.1).bind fun bt471 => (some (bt471.1, bt471.2.1, bt471.2.2, true))) else (some (([] : List Int), ([] : List Int), ([] : List (S127)), false)))) = some (r1, r2, r3, r4) := H
 have A5 := Aside0.mk A50
 clear A50
 replace H := Option.bind_eq_some_iff.mp H
 obtain ⟨⟨t460, t463, t466, t469⟩, A60, H⟩ := H
 replace H : (if t469 = true then ((spec_l3Own.f t460 t463 t466).bind fun bt471 => (some (bt471.1, bt471.2.1, bt471.2.2, true))) else (some (([] : List Int), ([] : List Int), ([] : List (S127)), false))) = some (r1, r2, r3, r4) := H
 have A6 := Aside0.mk A60
 clear A60
 by_cases c7 : t469 = true
 rotate_left
 ·replace c7 := Bool.eq_false_iff.mpr c7
  subst c7
  rw [if_neg (show ¬ (false = true) by decide)] at H
  simp only [Option.some.injEq, Prod.mk.injEq] at H
  obtain ⟨rfl, rfl, rfl, rfl⟩ := H
  go_enter Try.func30, Try.ntmps30
  try go_wp2_with (first | ((with_reducible refine gate_dst (N := 2) rfl ?_); refine box_event ?hg (N := 2) ?hd (cs := #[.slice A0_0 l0_0.length c0_0, .slice A0_1 l0_1.length c0_1, .slice A0_2 l0_2.length c0_2]) (t := 47) ?hr ?_; (case hd => rfl); (case hg => rfl); (case hr => first | (go_simp; done) | (go_simp; rfl)); intro gb447 hg w40 hbox hb; have BK447 := Aside0.mk (hbox); have GW447 := gw_ hg HB; have GE447 := gw_ hg HB; replace HB := bst_ HB hb; clear hb hbox hg) | ((with_reducible refine gate_dst (N := 3) rfl ?_); refine box_event ?hg (N := 3) ?hd (cs := #[.int .i64 a1_0, .int .i64 a1_1]) (t := 51) ?hr ?_; (case hd => rfl); (case hg => rfl); (case hr => first | (go_simp; done) | (go_simp; rfl)); intro gb448 hg w41 hbox hb; have BK448 := Aside0.mk (hbox); have GW448 := gw_ hg HB; have GE448 := gw_ hg HB; have NB447_448 := nl_ hg BK447; have NB448_447 := ng_ hg BK447; replace BK447 := bb_ BK447 hb; replace HB := bst_ HB hb; clear hb hbox hg) | ((with_reducible refine gate_dst (N := 4) rfl ?_); refine box_event ?hg (N := 4) ?hd (cs := #[.slice none 0 0, .slice none 0 0, .slice none 0 0]) (t := 47) ?hr ?_; (case hd => rfl); (case hg => rfl); (case hr => first | (go_simp; done) | (go_simp; rfl)); intro gb449 hg w42 hbox hb; have BK449 := Aside0.mk (hbox); have GW449 := gw_ hg HB; have GE449 := gw_ hg HB; have NB447_449 := nl_ hg BK447; have NB449_447 := ng_ hg BK447; have NB448_449 := nl_ hg BK448; have NB449_448 := ng_ hg BK448; replace BK447 := bb_ BK447 hb; replace BK448 := bb_ BK448 hb; replace HB := bst_ HB hb; clear hb hbox hg; have hnb43 := NB447_448.out; have hnc43 := NB448_447.out; have hnb44 := NB447_449.out; have hnc44 := NB449_447.out; have hcz45_0 : w42.cell? ⟨gb447, 0, none⟩ = some (.slice A0_0 l0_0.length c0_0) := bc_ BK447 0; have hcz45_1 : w42.cell? ⟨gb447, 1, none⟩ = some (.slice A0_1 l0_1.length c0_1) := bc_ BK447 1; have hcz45_2 : w42.cell? ⟨gb447, 2, none⟩ = some (.slice A0_2 l0_2.length c0_2) := bc_ BK447 2; have hfz45_0 := blk_frozen BK447.out 0; have hfz45_1 := blk_frozen BK447.out 1; have hfz45_2 := blk_frozen BK447.out 2) | ((with_reducible refine gate_callee (f := 86) rfl ?_); refine goesL_ (some 9) rfl rfl Try.func86 (by kernel_rfl) rfl #[.agg #[.slice A0_0 l0_0.length c0_0, .slice A0_1 l0_1.length c0_1, .slice A0_2 l0_2.length c0_2]] rfl tm_ ?_; (with_reducible refine (spec_GoodPair.calls k _ _ l0_0 _ _ l0_1 _ _ l0_2 true _ ?side1 ?side2 ?side3 ?side4 ?side5 ?side6 A3.out).mono ?_); (case side1 => exact ca (Kd.C_below HR0_0.out HB.out)); (case side2 => exact HC0_0.out); (case side3 => exact ca (Kd.C_below HR0_1.out HB.out)); (case side4 => exact HC0_1.out); (case side5 => exact ca (Kd.C_below HR0_2.out HB.out)); (case side6 => exact HC0_2.out); rintro e w46 ⟨rfl, hb⟩; refine ⟨_, rfl, ?_⟩; replace BK447 := bb_ BK447 hb; replace BK448 := bb_ BK448 hb; replace BK449 := bb_ BK449 hb; replace HB := bst_ HB hb; clear hb))
  replace BK447 := bd_ BK447
  replace BK448 := bd_ BK448
  replace BK449 := bd_ BK449
  replace HB := Aside0.mk (below_drew1 HB.out)
  refine start_ (n := 10) (S := fun w' => w'.cell? ⟨gb447, 0, none⟩ = some (.slice A0_0 l0_0.length c0_0) ∧ w'.cell? ⟨gb447, 1, none⟩ = some (.slice A0_1 l0_1.length c0_1) ∧ w'.cell? ⟨gb447, 2, none⟩ = some (.slice A0_2 l0_2.length c0_2) ∧ w'.cell? ⟨gb448, 0, none⟩ = some (.int .i64 a1_0) ∧ w'.cell? ⟨gb448, 1, none⟩ = some (.int .i64 a1_1)) (ds := []) (bs 10 0) (by kernel_rfl) rfl rfl ⟨bc_ BK447 0, bc_ BK447 1, bc_ BK447 2, bc_ BK448 0, bc_ BK448 1⟩ (fun hHeld => ?_); refine with_tabW spec_StepPair.tab3 spec_StepPair.bits3 (fun HT_ HW_ => ?_)
  generalize w46.drew = w47 at BK447 BK448 BK449 HB hHeld ⊢
  refine tk_ 0 13 (bs 10 1) HT_ HW_ hHeld ?_
  refine tk_ 2 15 (bs 10 5) HT_ HW_ hHeld ?_
  refine join_ (σ := Value × Value × Value × Value × Value × Value × Nat) 2 (bs 10 255) (fun s_ => [(14, .agg #[s_.1, s_.2.1, s_.2.2.1]), (16, .tuple #[.agg #[s_.2.2.2.1, s_.2.2.2.2.1, s_.2.2.2.2.2.1], .bool false]), (6, .pointer (some ⟨s_.2.2.2.2.2.2, 0, none⟩)), (12, .tuple #[.agg #[s_.2.2.2.1, s_.2.2.2.2.1, s_.2.2.2.2.2.1], .bool false]), (17, .agg #[s_.2.2.2.1, s_.2.2.2.2.1, s_.2.2.2.2.2.1]), (18, .bool false)]) (fun s_ w' => (w'.cell? ⟨gb447, 0, none⟩ = some (.slice A0_0 l0_0.length c0_0) ∧ w'.cell? ⟨gb447, 1, none⟩ = some (.slice A0_1 l0_1.length c0_1) ∧ w'.cell? ⟨gb447, 2, none⟩ = some (.slice A0_2 l0_2.length c0_2) ∧ w'.cell? ⟨gb448, 0, none⟩ = some (.int .i64 a1_0) ∧ w'.cell? ⟨gb448, 1, none⟩ = some (.int .i64 a1_1)) ∧ (Kd.R (Kd.int .i64) 3 w' w.heap.size (fun k_ => no_ s_.2.2.2.2.1 k_) s_.2.2.2.1 t460) ∧ (Kd.R (Kd.int .i64) 3 w' w.heap.size (fun k_ => no_ s_.2.2.2.1 k_) s_.2.2.2.2.1 t463) ∧ (Kd.R k127 127 w' w.heap.size (fun _ => True) s_.2.2.2.2.2.1 t466) ∧ (w'.heap[gb447]? = some (.cells #[.slice A0_0 l0_0.length c0_0, .slice A0_1 l0_1.length c0_1, .slice A0_2 l0_2.length c0_2] 47 (0, 0))) ∧ (w'.heap[gb448]? = some (.cells #[.int .i64 a1_0, .int .i64 a1_1] 51 (0, 0))) ∧ (w'.heap[gb449]? = some (.cells #[.slice none 0 0, .slice none 0 0, .slice none 0 0] 47 (0, 0))) ∧ (w'.heap[s_.2.2.2.2.2.2]? = some (.cells #[.slice none 0 0, .slice none 0 0, .slice none 0 0] 47 (0, 0))) ∧ (w.heap.size ≤ s_.2.2.2.2.2.2) ∧ (w.heap.size ≤ s_.2.2.2.2.2.2) ∧ (gb447 ≠ s_.2.2.2.2.2.2) ∧ (s_.2.2.2.2.2.2 ≠ gb447) ∧ (gb448 ≠ s_.2.2.2.2.2.2) ∧ (s_.2.2.2.2.2.2 ≠ gb448) ∧ (gb449 ≠ s_.2.2.2.2.2.2) ∧ (s_.2.2.2.2.2.2 ≠ gb449) ∧ (Below w.heap.size w w')) ?_ ?_
  rotate_left
  ·intro hCont
   refine two_ (i := 1) (j := 7) (Ni := some 14) (Nj := some 6) (bs 10 7) (bs 10 133) rfl rfl rfl rfl (two_of HT_.out (by kernel_rfl)) (by decide) (by decide) (fun K hK => ?_) (fun K hK => ?_)
   rotate_left
   ·skip
    refine box_step ?hg (N := 6) ?hd (cs := #[.slice none 0 0, .slice none 0 0, .slice none 0 0]) (t := 47) ?hr ?_; (case hd => rfl); (case hg => rfl); (case hr => first | (go_simp; done) | (go_simp; rfl))
    intro gb470 hg w48 hbox hb
    have BK470 := Aside0.mk (hbox)
    have GW470 := gw_ hg HB
    have GE470 := gw_ hg HB
    have NB447_470 := nl_ hg BK447
    have NB470_447 := ng_ hg BK447
    have NB448_470 := nl_ hg BK448
    have NB470_448 := ng_ hg BK448
    have NB449_470 := nl_ hg BK449
    have NB470_449 := ng_ hg BK449
    replace BK447 := bb_ BK447 hb
    replace BK448 := bb_ BK448 hb
    replace BK449 := bb_ BK449 hb
    replace HB := bst_ HB hb
    clear hb hbox hg
    refine hK.out _ _ ⟨bc_ BK447 0, bc_ BK447 1, bc_ BK447 2, bc_ BK448 0, bc_ BK448 1⟩ (fun hHeld => ?_)
    clear hK K
    refine nm_ 6 ?_
    refine one_ (i := 1) (N := some 14) (bs 10 135) rfl rfl (one_of HT_.out (by kernel_rfl)) (by decide) (fun K hK => ?_)
    refine goes_ Try.func88 (by kernel_rfl) rfl #[.agg #[.slice A0_0 l0_0.length c0_0, .slice A0_1 l0_1.length c0_1, .slice A0_2 l0_2.length c0_2]] (by rfl) rfl rfl tm_ ?_
    with_reducible refine (spec_l3Own.calls _ _ l0_0 _ _ l0_1 _ _ l0_2 t451 t454 t457 _ ?side1 ?side2 ?side3 ?side4 ?side5 ?side6 A5.out).mono ?_
    (case side1 => exact ca (Kd.C_below HR0_0.out HB.out))
    (case side2 => exact HC0_0.out)
    (case side3 => exact ca (Kd.C_below HR0_1.out HB.out))
    (case side4 => exact HC0_1.out)
    (case side5 => exact ca (Kd.C_below HR0_2.out HB.out))
    (case side6 => exact HC0_2.out)
    rintro e w49 ⟨v452, v455, v458, rfl, ho0, ho1, ho2, hb⟩
    refine ⟨_, rfl, ?_⟩
    have HO453 := Aside0.mk (Kd.R_lower ho0 (below_size (hB HB)))
    have HO456 := Aside0.mk (Kd.R_lower ho1 (below_size (hB HB)))
    have HO459 := Aside0.mk (Kd.R_lower ho2 (below_size (hB HB)))
    replace BK447 := bb_ BK447 hb
    replace BK448 := bb_ BK448 hb
    replace BK449 := bb_ BK449 hb
    replace BK470 := bb_ BK470 hb
    replace HB := bst_ HB hb
    clear hb ho0 ho1 ho2
    obtain ⟨Ao50, co50, eo50⟩ := Kd.R_slice HO453.out
    (first | subst eo50 | (injection eo50 with f1_ f2_ f3_; have f4_ := f1_.symm; have f5_ := f3_.symm; clear f1_ f2_ f3_; subst f4_; subst f5_))
    obtain ⟨Ao51, co51, eo51⟩ := Kd.R_slice HO456.out
    (first | subst eo51 | (injection eo51 with f1_ f2_ f3_; have f4_ := f1_.symm; have f5_ := f3_.symm; clear f1_ f2_ f3_; subst f4_; subst f5_))
    obtain ⟨Ao52, co52, eo52⟩ := Kd.R_slice HO459.out
    (first | subst eo52 | (injection eo52 with f1_ f2_ f3_; have f4_ := f1_.symm; have f5_ := f3_.symm; clear f1_ f2_ f3_; subst f4_; subst f5_))
    refine hK.out _ _ ⟨bc_ BK447 0, bc_ BK447 1, bc_ BK447 2, bc_ BK448 0, bc_ BK448 1⟩ (fun hHeld => ?_)
    clear hK K
    refine nm_ 14 ?_
    refine one_ (i := 3) (N := some 16) (bs 10 143) rfl rfl (one_of HT_.out (by kernel_rfl)) (by decide) (fun K hK => ?_)
    refine goes_ Try.func87 (by kernel_rfl) rfl #[.agg #[.slice Ao50 t451.length co50, .slice Ao51 t454.length co51, .slice Ao52 t457.length co52], .agg #[.int .i64 a1_0, .int .i64 a1_1]] (by rfl) rfl rfl tm_ ?_
    with_reducible refine (spec_l3Step.calls k (fun k_ => some k_ = (.slice Ao50 t451.length co50 : Value).ownBlock) (.slice Ao50 t451.length co50) t451 (fun k_ => some k_ = (.slice Ao51 t454.length co51 : Value).ownBlock) (.slice Ao51 t454.length co51) t454 (fun k_ => some k_ = (.slice Ao52 t457.length co52 : Value).ownBlock) (.slice Ao52 t457.length co52) t457 a1_0 a1_1 t460 t463 t466 false w _ ?side1 ?side2 ?side3 ?side4 ?side5 ?side6 A6.out).mono ?_
    (case side1 => repeat (first | (with_reducible first | exact HB.out | apply below_alloc | apply pw_below_drewN | apply below_drew1 | refine below_set ?_ GE447.out | refine below_set ?_ GE448.out | refine below_set ?_ GE449.out | refine below_set ?_ GE470.out) | exact HB.out))
    (case side2 => exact Kd.R_tight rfl HO453.out)
    (case side3 => exact fun k_ e_ => (HO453.out.1 k_ e_.symm))
    (case side4 => exact Kd.R_tight rfl HO456.out)
    (case side5 => exact fun k_ e_ => (HO456.out.1 k_ e_.symm))
    (case side6 => exact Kd.R_tight rfl HO459.out)
    rintro e w53 ⟨v461, v464, v467, rfl, ho0, ho1, ho2, hb, hkp⟩
    refine ⟨_, rfl, ?_⟩
    have HO462 := Aside0.mk (Kd.R_mono (ok' := fun k_ => no_ v464 k_) ho0 (fun k_ hk_ => hk_.2))
    have HO465 := Aside0.mk (Kd.R_mono (ok' := fun k_ => no_ v461 k_) ho1 (fun k_ hk_ => hk_.2))
    have HO468 := Aside0.mk (Kd.R_mono (ok' := fun k_ => True) ho2 (fun k_ hk_ => trivial))
    replace BK447 := Aside0.mk (blk_kept (ba BK447.out) hkp (fun hs_ => Or.elim hs_ (kne_ HO453 BK447) (fun e_ => Or.elim e_ (kne_ HO456 BK447) (kne_ HO459 BK447))))
    replace BK448 := Aside0.mk (blk_kept (ba BK448.out) hkp (fun hs_ => Or.elim hs_ (kne_ HO453 BK448) (fun e_ => Or.elim e_ (kne_ HO456 BK448) (kne_ HO459 BK448))))
    replace BK449 := Aside0.mk (blk_kept (ba BK449.out) hkp (fun hs_ => Or.elim hs_ (kne_ HO453 BK449) (fun e_ => Or.elim e_ (kne_ HO456 BK449) (kne_ HO459 BK449))))
    replace BK470 := Aside0.mk (blk_kept (ba BK470.out) hkp (fun hs_ => Or.elim hs_ (kne_ HO453 BK470) (fun e_ => Or.elim e_ (kne_ HO456 BK470) (kne_ HO459 BK470))))
    replace HB := Aside0.mk (hb)
    clear HO453 HO456 HO459
    clear hb ho0 ho1 ho2
    refine hK.out _ _ ⟨bc_ BK447 0, bc_ BK447 1, bc_ BK447 2, bc_ BK448 0, bc_ BK448 1⟩ (fun hHeld => ?_)
    clear hK K
    refine nm_ 16 ?_
    refine pu_ 4 12 (bs 10 159) HT_ ?_
    refine pu_ 5 17 (bs 10 191) HT_ ?_
    refine pu_ 6 18 (bs 10 255) HT_ ?_
    exact norm_ (by simp only [putAll, Act.put, List.setIfInBounds_toArray, List.set_cons_zero, List.set_cons_succ]) (hCont (.slice Ao50 t451.length co50, .slice Ao51 t454.length co51, .slice Ao52 t457.length co52, v461, v464, v467, gb470) _ ⟨hHeld, (ra HO462.out), (ra HO465.out), (ra HO468.out), (ba BK447.out), (ba BK448.out), (ba BK449.out), (ba BK470.out), GW470.out, GE470.out, NB447_470.out, NB470_447.out, NB448_470.out, NB470_448.out, NB449_470.out, NB470_449.out, (hB HB)⟩)
   skip
   refine goes_ Try.func88 (by kernel_rfl) rfl #[.agg #[.slice A0_0 l0_0.length c0_0, .slice A0_1 l0_1.length c0_1, .slice A0_2 l0_2.length c0_2]] (by rfl) rfl rfl tm_ ?_
   with_reducible refine (spec_l3Own.calls _ _ l0_0 _ _ l0_1 _ _ l0_2 t451 t454 t457 _ ?side1 ?side2 ?side3 ?side4 ?side5 ?side6 A5.out).mono ?_
   (case side1 => exact ca (Kd.C_below HR0_0.out HB.out))
   (case side2 => exact HC0_0.out)
   (case side3 => exact ca (Kd.C_below HR0_1.out HB.out))
   (case side4 => exact HC0_1.out)
   (case side5 => exact ca (Kd.C_below HR0_2.out HB.out))
   (case side6 => exact HC0_2.out)
   rintro e w48 ⟨v452, v455, v458, rfl, ho0, ho1, ho2, hb⟩
   refine ⟨_, rfl, ?_⟩
   have HO453 := Aside0.mk (Kd.R_lower ho0 (below_size (hB HB)))
   have HO456 := Aside0.mk (Kd.R_lower ho1 (below_size (hB HB)))
   have HO459 := Aside0.mk (Kd.R_lower ho2 (below_size (hB HB)))
   replace BK447 := bb_ BK447 hb
   replace BK448 := bb_ BK448 hb
   replace BK449 := bb_ BK449 hb
   replace HB := bst_ HB hb
   clear hb ho0 ho1 ho2
   obtain ⟨Ao49, co49, eo49⟩ := Kd.R_slice HO453.out
   (first | subst eo49 | (injection eo49 with f1_ f2_ f3_; have f4_ := f1_.symm; have f5_ := f3_.symm; clear f1_ f2_ f3_; subst f4_; subst f5_))
   obtain ⟨Ao50, co50, eo50⟩ := Kd.R_slice HO456.out
   (first | subst eo50 | (injection eo50 with f1_ f2_ f3_; have f4_ := f1_.symm; have f5_ := f3_.symm; clear f1_ f2_ f3_; subst f4_; subst f5_))
   obtain ⟨Ao51, co51, eo51⟩ := Kd.R_slice HO459.out
   (first | subst eo51 | (injection eo51 with f1_ f2_ f3_; have f4_ := f1_.symm; have f5_ := f3_.symm; clear f1_ f2_ f3_; subst f4_; subst f5_))
   refine hK.out _ _ ⟨bc_ BK447 0, bc_ BK447 1, bc_ BK447 2, bc_ BK448 0, bc_ BK448 1⟩ (fun hHeld => ?_)
   clear hK K
   refine nm_ 14 ?_
   refine two_ (i := 3) (j := 7) (Ni := some 16) (Nj := some 6) (bs 10 15) (bs 10 135) rfl rfl rfl rfl (two_of HT_.out (by kernel_rfl)) (by decide) (by decide) (fun K hK => ?_) (fun K hK => ?_)
   ·skip
    refine goes_ Try.func87 (by kernel_rfl) rfl #[.agg #[.slice Ao49 t451.length co49, .slice Ao50 t454.length co50, .slice Ao51 t457.length co51], .agg #[.int .i64 a1_0, .int .i64 a1_1]] (by rfl) rfl rfl tm_ ?_
    with_reducible refine (spec_l3Step.calls k (fun k_ => some k_ = (.slice Ao49 t451.length co49 : Value).ownBlock) (.slice Ao49 t451.length co49) t451 (fun k_ => some k_ = (.slice Ao50 t454.length co50 : Value).ownBlock) (.slice Ao50 t454.length co50) t454 (fun k_ => some k_ = (.slice Ao51 t457.length co51 : Value).ownBlock) (.slice Ao51 t457.length co51) t457 a1_0 a1_1 t460 t463 t466 false w _ ?side1 ?side2 ?side3 ?side4 ?side5 ?side6 A6.out).mono ?_
    (case side1 => repeat (first | (with_reducible first | exact HB.out | apply below_alloc | apply pw_below_drewN | apply below_drew1 | refine below_set ?_ GE447.out | refine below_set ?_ GE448.out | refine below_set ?_ GE449.out) | exact HB.out))
    (case side2 => exact Kd.R_tight rfl HO453.out)
    (case side3 => exact fun k_ e_ => (HO453.out.1 k_ e_.symm))
    (case side4 => exact Kd.R_tight rfl HO456.out)
    (case side5 => exact fun k_ e_ => (HO456.out.1 k_ e_.symm))
    (case side6 => exact Kd.R_tight rfl HO459.out)
    rintro e w52 ⟨v461, v464, v467, rfl, ho0, ho1, ho2, hb, hkp⟩
    refine ⟨_, rfl, ?_⟩
    have HO462 := Aside0.mk (Kd.R_mono (ok' := fun k_ => no_ v464 k_) ho0 (fun k_ hk_ => hk_.2))
    have HO465 := Aside0.mk (Kd.R_mono (ok' := fun k_ => no_ v461 k_) ho1 (fun k_ hk_ => hk_.2))
    have HO468 := Aside0.mk (Kd.R_mono (ok' := fun k_ => True) ho2 (fun k_ hk_ => trivial))
    replace BK447 := Aside0.mk (blk_kept (ba BK447.out) hkp (fun hs_ => Or.elim hs_ (kne_ HO453 BK447) (fun e_ => Or.elim e_ (kne_ HO456 BK447) (kne_ HO459 BK447))))
    replace BK448 := Aside0.mk (blk_kept (ba BK448.out) hkp (fun hs_ => Or.elim hs_ (kne_ HO453 BK448) (fun e_ => Or.elim e_ (kne_ HO456 BK448) (kne_ HO459 BK448))))
    replace BK449 := Aside0.mk (blk_kept (ba BK449.out) hkp (fun hs_ => Or.elim hs_ (kne_ HO453 BK449) (fun e_ => Or.elim e_ (kne_ HO456 BK449) (kne_ HO459 BK449))))
    replace HB := Aside0.mk (hb)
    clear HO453 HO456 HO459
    clear hb ho0 ho1 ho2
    refine hK.out _ _ ⟨bc_ BK447 0, bc_ BK447 1, bc_ BK447 2, bc_ BK448 0, bc_ BK448 1⟩ (fun hHeld => ?_)
    clear hK K
    refine nm_ 16 ?_
    refine pu_ 4 12 (bs 10 31) HT_ ?_
    refine pu_ 5 17 (bs 10 63) HT_ ?_
    refine pu_ 6 18 (bs 10 127) HT_ ?_
    refine one_ (i := 7) (N := some 6) (bs 10 255) rfl rfl (one_of HT_.out (by kernel_rfl)) (by decide) (fun K hK => ?_)
    refine box_step ?hg (N := 6) ?hd (cs := #[.slice none 0 0, .slice none 0 0, .slice none 0 0]) (t := 47) ?hr ?_; (case hd => rfl); (case hg => rfl); (case hr => first | (go_simp; done) | (go_simp; rfl))
    intro gb470 hg w53 hbox hb
    have BK470 := Aside0.mk (hbox)
    have GW470 := gw_ hg HB
    have GE470 := gw_ hg HB
    have NB447_470 := nl_ hg BK447
    have NB470_447 := ng_ hg BK447
    have NB448_470 := nl_ hg BK448
    have NB470_448 := ng_ hg BK448
    have NB449_470 := nl_ hg BK449
    have NB470_449 := ng_ hg BK449
    replace HO462 := rb_ HO462 hb
    replace HO465 := rb_ HO465 hb
    replace HO468 := rb_ HO468 hb
    replace BK447 := bb_ BK447 hb
    replace BK448 := bb_ BK448 hb
    replace BK449 := bb_ BK449 hb
    replace HB := bst_ HB hb
    clear hb hbox hg
    refine hK.out _ _ ⟨bc_ BK447 0, bc_ BK447 1, bc_ BK447 2, bc_ BK448 0, bc_ BK448 1⟩ (fun hHeld => ?_)
    clear hK K
    refine nm_ 6 ?_
    exact norm_ (by simp only [putAll, Act.put, List.setIfInBounds_toArray, List.set_cons_zero, List.set_cons_succ]) (hCont (.slice Ao49 t451.length co49, .slice Ao50 t454.length co50, .slice Ao51 t457.length co51, v461, v464, v467, gb470) _ ⟨hHeld, (ra HO462.out), (ra HO465.out), (ra HO468.out), (ba BK447.out), (ba BK448.out), (ba BK449.out), (ba BK470.out), GW470.out, GE470.out, NB447_470.out, NB470_447.out, NB448_470.out, NB470_448.out, NB449_470.out, NB470_449.out, (hB HB)⟩)
   skip
   refine box_step ?hg (N := 6) ?hd (cs := #[.slice none 0 0, .slice none 0 0, .slice none 0 0]) (t := 47) ?hr ?_; (case hd => rfl); (case hg => rfl); (case hr => first | (go_simp; done) | (go_simp; rfl))
   intro gb470 hg w49 hbox hb
   have BK470 := Aside0.mk (hbox)
   have GW470 := gw_ hg HB
   have GE470 := gw_ hg HB
   have NB447_470 := nl_ hg BK447
   have NB470_447 := ng_ hg BK447
   have NB448_470 := nl_ hg BK448
   have NB470_448 := ng_ hg BK448
   have NB449_470 := nl_ hg BK449
   have NB470_449 := ng_ hg BK449
   replace HO453 := rb_ HO453 hb
   replace HO456 := rb_ HO456 hb
   replace HO459 := rb_ HO459 hb
   replace BK447 := bb_ BK447 hb
   replace BK448 := bb_ BK448 hb
   replace BK449 := bb_ BK449 hb
   replace HB := bst_ HB hb
   clear hb hbox hg
   obtain ⟨Ao50, co50, eo50⟩ := Kd.R_slice HO453.out
   (first | subst eo50 | (injection eo50 with f1_ f2_ f3_; have f4_ := f1_.symm; have f5_ := f3_.symm; clear f1_ f2_ f3_; subst f4_; subst f5_))
   obtain ⟨Ao51, co51, eo51⟩ := Kd.R_slice HO456.out
   (first | subst eo51 | (injection eo51 with f1_ f2_ f3_; have f4_ := f1_.symm; have f5_ := f3_.symm; clear f1_ f2_ f3_; subst f4_; subst f5_))
   obtain ⟨Ao52, co52, eo52⟩ := Kd.R_slice HO459.out
   (first | subst eo52 | (injection eo52 with f1_ f2_ f3_; have f4_ := f1_.symm; have f5_ := f3_.symm; clear f1_ f2_ f3_; subst f4_; subst f5_))
   refine hK.out _ _ ⟨bc_ BK447 0, bc_ BK447 1, bc_ BK447 2, bc_ BK448 0, bc_ BK448 1⟩ (fun hHeld => ?_)
   clear hK K
   refine nm_ 6 ?_
   refine one_ (i := 3) (N := some 16) (bs 10 143) rfl rfl (one_of HT_.out (by kernel_rfl)) (by decide) (fun K hK => ?_)
   refine goes_ Try.func87 (by kernel_rfl) rfl #[.agg #[.slice Ao50 t451.length co50, .slice Ao51 t454.length co51, .slice Ao52 t457.length co52], .agg #[.int .i64 a1_0, .int .i64 a1_1]] (by rfl) rfl rfl tm_ ?_
   with_reducible refine (spec_l3Step.calls k (fun k_ => some k_ = (.slice Ao50 t451.length co50 : Value).ownBlock) (.slice Ao50 t451.length co50) t451 (fun k_ => some k_ = (.slice Ao51 t454.length co51 : Value).ownBlock) (.slice Ao51 t454.length co51) t454 (fun k_ => some k_ = (.slice Ao52 t457.length co52 : Value).ownBlock) (.slice Ao52 t457.length co52) t457 a1_0 a1_1 t460 t463 t466 false w _ ?side1 ?side2 ?side3 ?side4 ?side5 ?side6 A6.out).mono ?_
   (case side1 => repeat (first | (with_reducible first | exact HB.out | apply below_alloc | apply pw_below_drewN | apply below_drew1 | refine below_set ?_ GE447.out | refine below_set ?_ GE448.out | refine below_set ?_ GE449.out | refine below_set ?_ GE470.out) | exact HB.out))
   (case side2 => exact Kd.R_tight rfl HO453.out)
   (case side3 => exact fun k_ e_ => (HO453.out.1 k_ e_.symm))
   (case side4 => exact Kd.R_tight rfl HO456.out)
   (case side5 => exact fun k_ e_ => (HO456.out.1 k_ e_.symm))
   (case side6 => exact Kd.R_tight rfl HO459.out)
   rintro e w53 ⟨v461, v464, v467, rfl, ho0, ho1, ho2, hb, hkp⟩
   refine ⟨_, rfl, ?_⟩
   have HO462 := Aside0.mk (Kd.R_mono (ok' := fun k_ => no_ v464 k_) ho0 (fun k_ hk_ => hk_.2))
   have HO465 := Aside0.mk (Kd.R_mono (ok' := fun k_ => no_ v461 k_) ho1 (fun k_ hk_ => hk_.2))
   have HO468 := Aside0.mk (Kd.R_mono (ok' := fun k_ => True) ho2 (fun k_ hk_ => trivial))
   replace BK447 := Aside0.mk (blk_kept (ba BK447.out) hkp (fun hs_ => Or.elim hs_ (kne_ HO453 BK447) (fun e_ => Or.elim e_ (kne_ HO456 BK447) (kne_ HO459 BK447))))
   replace BK448 := Aside0.mk (blk_kept (ba BK448.out) hkp (fun hs_ => Or.elim hs_ (kne_ HO453 BK448) (fun e_ => Or.elim e_ (kne_ HO456 BK448) (kne_ HO459 BK448))))
   replace BK449 := Aside0.mk (blk_kept (ba BK449.out) hkp (fun hs_ => Or.elim hs_ (kne_ HO453 BK449) (fun e_ => Or.elim e_ (kne_ HO456 BK449) (kne_ HO459 BK449))))
   replace BK470 := Aside0.mk (blk_kept (ba BK470.out) hkp (fun hs_ => Or.elim hs_ (kne_ HO453 BK470) (fun e_ => Or.elim e_ (kne_ HO456 BK470) (kne_ HO459 BK470))))
   replace HB := Aside0.mk (hb)
   clear HO453 HO456 HO459
   clear hb ho0 ho1 ho2
   refine hK.out _ _ ⟨bc_ BK447 0, bc_ BK447 1, bc_ BK447 2, bc_ BK448 0, bc_ BK448 1⟩ (fun hHeld => ?_)
   clear hK K
   refine nm_ 16 ?_
   refine pu_ 4 12 (bs 10 159) HT_ ?_
   refine pu_ 5 17 (bs 10 191) HT_ ?_
   refine pu_ 6 18 (bs 10 255) HT_ ?_
   exact norm_ (by simp only [putAll, Act.put, List.setIfInBounds_toArray, List.set_cons_zero, List.set_cons_succ]) (hCont (.slice Ao50 t451.length co50, .slice Ao51 t454.length co51, .slice Ao52 t457.length co52, v461, v464, v467, gb470) _ ⟨hHeld, (ra HO462.out), (ra HO465.out), (ra HO468.out), (ba BK447.out), (ba BK448.out), (ba BK449.out), (ba BK470.out), GW470.out, GE470.out, NB447_470.out, NB470_447.out, NB448_470.out, NB470_448.out, NB449_470.out, NB470_449.out, (hB HB)⟩)
  rintro ⟨v452, v455, v458, v461, v464, v467, gb470⟩ w54 ⟨hS_, h0_, h1_, h2_, h3_, h4_, h5_, h6_, h7_, h8_, h9_, h10_, h11_, h12_, h13_, h14_, h15_⟩
  try dsimp only at h0_ h1_ h2_ h3_ h4_ h5_ h6_ h7_ h8_ h9_ h10_ h11_ h12_ h13_ h14_ h15_
  have HO462 := Aside0.mk h0_
  have HO465 := Aside0.mk h1_
  have HO468 := Aside0.mk h2_
  have BK470 := Aside0.mk h6_
  have GW470 := Aside0.mk h7_
  have GE470 := Aside0.mk h8_
  have NB447_470 := Aside0.mk h9_
  have NB470_447 := Aside0.mk h10_
  have NB448_470 := Aside0.mk h11_
  have NB470_448 := Aside0.mk h12_
  have NB449_470 := Aside0.mk h13_
  have NB470_449 := Aside0.mk h14_
  replace BK447 := Aside0.mk h3_
  replace BK448 := Aside0.mk h4_
  replace BK449 := Aside0.mk h5_
  replace HB := Aside0.mk h15_
  clear h0_ h1_ h2_ h3_ h4_ h5_ h6_ h7_ h8_ h9_ h10_ h11_ h12_ h13_ h14_ h15_
  have hHeld : w54.cell? ⟨gb447, 0, none⟩ = some (.slice A0_0 l0_0.length c0_0) ∧ w54.cell? ⟨gb447, 1, none⟩ = some (.slice A0_1 l0_1.length c0_1) ∧ w54.cell? ⟨gb447, 2, none⟩ = some (.slice A0_2 l0_2.length c0_2) ∧ w54.cell? ⟨gb448, 0, none⟩ = some (.int .i64 a1_0) ∧ w54.cell? ⟨gb448, 1, none⟩ = some (.int .i64 a1_1) := hS_
  obtain ⟨Ao55, co55, eo55⟩ := Kd.R_slice HO462.out
  (first | subst eo55 | (injection eo55 with f1_ f2_ f3_; have f4_ := f1_.symm; have f5_ := f3_.symm; clear f1_ f2_ f3_; subst f4_; subst f5_))
  obtain ⟨Ao57, co57, eo57⟩ := Kd.R_slice HO465.out
  (first | subst eo57 | (injection eo57 with f1_ f2_ f3_; have f4_ := f1_.symm; have f5_ := f3_.symm; clear f1_ f2_ f3_; subst f4_; subst f5_))
  obtain ⟨Ao59, co59, eo59⟩ := Kd.R_slice HO468.out
  (first | subst eo59 | (injection eo59 with f1_ f2_ f3_; have f4_ := f1_.symm; have f5_ := f3_.symm; clear f1_ f2_ f3_; subst f4_; subst f5_))
  refine norm_ (a' := ?_) ?_ ?_
  rotate_left
  ·simp only [putAll, Act.put, List.setIfInBounds_toArray, List.set_cons_zero, List.set_cons_succ]
   rfl
  refine one_ (i := 8) (N := none) (bs 10 511) rfl rfl (one_of HT_.out (by kernel_rfl)) (by decide) (fun K hK => ?_)
  have hs56 : w54.cell? ⟨gb470, 0, none⟩ = some (.slice none 0 0) := bc_ BK470 0
  have hfs56 := blk_frozen BK470.out 0
  have hns56_0 := NB447_470.out
  have hns56_1 := NB448_470.out
  have hns56_2 := NB449_470.out
  have hms56_0 := NB470_447.out
  have hms56_1 := NB470_448.out
  have hms56_2 := NB470_449.out
  have hs58 : w54.cell? ⟨gb470, 1, none⟩ = some (.slice none 0 0) := bc_ BK470 1
  have hfs58 := blk_frozen BK470.out 1
  have hns58_0 := NB447_470.out
  have hns58_1 := NB448_470.out
  have hns58_2 := NB449_470.out
  have hms58_0 := NB470_447.out
  have hms58_1 := NB470_448.out
  have hms58_2 := NB470_449.out
  have hs60 : w54.cell? ⟨gb470, 2, none⟩ = some (.slice none 0 0) := bc_ BK470 2
  have hfs60 := blk_frozen BK470.out 2
  have hns60_0 := NB447_470.out
  have hns60_1 := NB448_470.out
  have hns60_2 := NB449_470.out
  have hms60_0 := NB470_447.out
  have hms60_1 := NB470_448.out
  have hms60_2 := NB470_449.out
  refine skip_ (w1 := ?_) (by rfl) rfl ?_ ?_
  rotate_left
  ·go_simp
   rfl
  refine hK.out _ _ ⟨((cell_far (p := ⟨gb470, _, none⟩) NB447_470.out _).trans (((cell_far (p := ⟨gb470, _, none⟩) NB447_470.out _).trans (((cell_far (p := ⟨gb470, _, none⟩) NB447_470.out _).trans (hHeld.1)))))), ((cell_far (p := ⟨gb470, _, none⟩) NB447_470.out _).trans (((cell_far (p := ⟨gb470, _, none⟩) NB447_470.out _).trans (((cell_far (p := ⟨gb470, _, none⟩) NB447_470.out _).trans (hHeld.2.1)))))), ((cell_far (p := ⟨gb470, _, none⟩) NB447_470.out _).trans (((cell_far (p := ⟨gb470, _, none⟩) NB447_470.out _).trans (((cell_far (p := ⟨gb470, _, none⟩) NB447_470.out _).trans (hHeld.2.2.1)))))), ((cell_far (p := ⟨gb470, _, none⟩) NB448_470.out _).trans (((cell_far (p := ⟨gb470, _, none⟩) NB448_470.out _).trans (((cell_far (p := ⟨gb470, _, none⟩) NB448_470.out _).trans (hHeld.2.2.2.1)))))), ((cell_far (p := ⟨gb470, _, none⟩) NB448_470.out _).trans (((cell_far (p := ⟨gb470, _, none⟩) NB448_470.out _).trans (((cell_far (p := ⟨gb470, _, none⟩) NB448_470.out _).trans (hHeld.2.2.2.2))))))⟩ (fun hHeld => ?_)
  clear hK K
  refine pu_ 9 7 (bs 10 1023) HT_ ?_
  refine done_ (done_of HT_.out (by kernel_rfl)) ?_
  have hnb61 := NB449_448.out
  have hnc61 := NB448_449.out
  have hnb62 := NB449_470.out
  have hnc62 := NB470_449.out
  have hcz63_0 : w54.cell? ⟨gb449, 0, none⟩ = some (.slice none 0 0) := bc_ BK449 0
  have hcz63_1 : w54.cell? ⟨gb449, 1, none⟩ = some (.slice none 0 0) := bc_ BK449 1
  have hcz63_2 : w54.cell? ⟨gb449, 2, none⟩ = some (.slice none 0 0) := bc_ BK449 2
  have hfz63_0 := blk_frozen BK449.out 0
  have hfz63_1 := blk_frozen BK449.out 1
  have hfz63_2 := blk_frozen BK449.out 2
  try go_wp2
  refine bodyPost_ret (results_ct rfl _ _ gb449 47 #[.slice none 0 0, .slice none 0 0, .slice none 0 0] (0, 0) _ rfl (by (with_reducible repeat (first | refine blk_drewN ?_ _ | refine blk_drew ?_ | refine blk_alloc ?_ _)); refine blk_put (cs := #[.slice none 0 0, .slice none 0 0, .slice none 0 0]) ?_ 2 _ rfl; (with_reducible repeat (first | refine blk_drewN ?_ _ | refine blk_drew ?_ | refine blk_alloc ?_ _)); refine blk_put (cs := #[.slice none 0 0, .slice none 0 0, .slice none 0 0]) ?_ 1 _ rfl; (with_reducible repeat (first | refine blk_drewN ?_ _ | refine blk_drew ?_ | refine blk_alloc ?_ _)); refine blk_put (cs := #[.slice none 0 0, .slice none 0 0, .slice none 0 0]) ?_ 0 _ rfl; (with_reducible repeat (first | refine blk_drewN ?_ _ | refine blk_drew ?_ | refine blk_alloc ?_ _)); refine blk_far ?_ NB449_470.out _; (with_reducible repeat (first | refine blk_drewN ?_ _ | refine blk_drew ?_ | refine blk_alloc ?_ _)); refine blk_far ?_ NB449_470.out _; (with_reducible repeat (first | refine blk_drewN ?_ _ | refine blk_drew ?_ | refine blk_alloc ?_ _)); refine blk_far ?_ NB449_470.out _; (with_reducible repeat (first | refine blk_drewN ?_ _ | refine blk_drew ?_ | refine blk_alloc ?_ _)); exact BK449.out) Try.underlying47 rfl (by kernel_rfl)) rfl ?_
  exact ⟨_, _, _, by first | rfl | (simp [errW_none, errW_some] <;> rfl) | (simp [*, errW_none, errW_some] <;> rfl), by first | exact Kd.R_nil _ _ _ _ _ | exact Kd.N_nil _ _ _ _ _ | exact Kd.V_nil _ _ _ _ _ | exact Kd.Q_nil _ _ _ _ _ | exact Kd.S_nil _ _ _ _ _, by first | exact Kd.R_nil _ _ _ _ _ | exact Kd.N_nil _ _ _ _ _ | exact Kd.V_nil _ _ _ _ _ | exact Kd.Q_nil _ _ _ _ _ | exact Kd.S_nil _ _ _ _ _, by first | exact Kd.R_nil _ _ _ _ _ | exact Kd.N_nil _ _ _ _ _ | exact Kd.V_nil _ _ _ _ _ | exact Kd.Q_nil _ _ _ _ _ | exact Kd.S_nil _ _ _ _ _, by repeat (first | (with_reducible first | exact HB.out | apply below_alloc | apply pw_below_drewN | apply below_drew1 | refine below_set ?_ GE447.out | refine below_set ?_ GE448.out | refine below_set ?_ GE449.out | refine below_set ?_ GE470.out) | exact HB.out)⟩
 subst c7
 rw [if_pos rfl] at H
 replace H := Option.bind_eq_some_iff.mp H
 obtain ⟨⟨t471, t474, t477⟩, A80, H⟩ := H
 replace H : (some (t471, t474, t477, true)) = some (r1, r2, r3, r4) := H
 have A8 := Aside0.mk A80
 clear A80
 simp only [Option.some.injEq, Prod.mk.injEq] at H
 obtain ⟨rfl, rfl, rfl, rfl⟩ := H
 go_enter Try.func30, Try.ntmps30
 try go_wp2_with (first | ((with_reducible refine gate_dst (N := 2) rfl ?_); refine box_event ?hg (N := 2) ?hd (cs := #[.slice A0_0 l0_0.length c0_0, .slice A0_1 l0_1.length c0_1, .slice A0_2 l0_2.length c0_2]) (t := 47) ?hr ?_; (case hd => rfl); (case hg => rfl); (case hr => first | (go_simp; done) | (go_simp; rfl)); intro gb447 hg w9 hbox hb; have BK447 := Aside0.mk (hbox); have GW447 := gw_ hg HB; have GE447 := gw_ hg HB; replace HB := bst_ HB hb; clear hb hbox hg) | ((with_reducible refine gate_dst (N := 3) rfl ?_); refine box_event ?hg (N := 3) ?hd (cs := #[.int .i64 a1_0, .int .i64 a1_1]) (t := 51) ?hr ?_; (case hd => rfl); (case hg => rfl); (case hr => first | (go_simp; done) | (go_simp; rfl)); intro gb448 hg w10 hbox hb; have BK448 := Aside0.mk (hbox); have GW448 := gw_ hg HB; have GE448 := gw_ hg HB; have NB447_448 := nl_ hg BK447; have NB448_447 := ng_ hg BK447; replace BK447 := bb_ BK447 hb; replace HB := bst_ HB hb; clear hb hbox hg) | ((with_reducible refine gate_dst (N := 4) rfl ?_); refine box_event ?hg (N := 4) ?hd (cs := #[.slice none 0 0, .slice none 0 0, .slice none 0 0]) (t := 47) ?hr ?_; (case hd => rfl); (case hg => rfl); (case hr => first | (go_simp; done) | (go_simp; rfl)); intro gb449 hg w11 hbox hb; have BK449 := Aside0.mk (hbox); have GW449 := gw_ hg HB; have GE449 := gw_ hg HB; have NB447_449 := nl_ hg BK447; have NB449_447 := ng_ hg BK447; have NB448_449 := nl_ hg BK448; have NB449_448 := ng_ hg BK448; replace BK447 := bb_ BK447 hb; replace BK448 := bb_ BK448 hb; replace HB := bst_ HB hb; clear hb hbox hg; have hnb12 := NB447_448.out; have hnc12 := NB448_447.out; have hnb13 := NB447_449.out; have hnc13 := NB449_447.out; have hcz14_0 : w11.cell? ⟨gb447, 0, none⟩ = some (.slice A0_0 l0_0.length c0_0) := bc_ BK447 0; have hcz14_1 : w11.cell? ⟨gb447, 1, none⟩ = some (.slice A0_1 l0_1.length c0_1) := bc_ BK447 1; have hcz14_2 : w11.cell? ⟨gb447, 2, none⟩ = some (.slice A0_2 l0_2.length c0_2) := bc_ BK447 2; have hfz14_0 := blk_frozen BK447.out 0; have hfz14_1 := blk_frozen BK447.out 1; have hfz14_2 := blk_frozen BK447.out 2) | ((with_reducible refine gate_callee (f := 86) rfl ?_); refine goesL_ (some 9) rfl rfl Try.func86 (by kernel_rfl) rfl #[.agg #[.slice A0_0 l0_0.length c0_0, .slice A0_1 l0_1.length c0_1, .slice A0_2 l0_2.length c0_2]] rfl tm_ ?_; (with_reducible refine (spec_GoodPair.calls k _ _ l0_0 _ _ l0_1 _ _ l0_2 true _ ?side1 ?side2 ?side3 ?side4 ?side5 ?side6 A3.out).mono ?_); (case side1 => exact ca (Kd.C_below HR0_0.out HB.out)); (case side2 => exact HC0_0.out); (case side3 => exact ca (Kd.C_below HR0_1.out HB.out)); (case side4 => exact HC0_1.out); (case side5 => exact ca (Kd.C_below HR0_2.out HB.out)); (case side6 => exact HC0_2.out); rintro e w15 ⟨rfl, hb⟩; refine ⟨_, rfl, ?_⟩; replace BK447 := bb_ BK447 hb; replace BK448 := bb_ BK448 hb; replace BK449 := bb_ BK449 hb; replace HB := bst_ HB hb; clear hb))
 replace BK447 := bd_ BK447
 replace BK448 := bd_ BK448
 replace BK449 := bd_ BK449
 replace HB := Aside0.mk (below_drew1 HB.out)
 refine start_ (n := 10) (S := fun w' => w'.cell? ⟨gb447, 0, none⟩ = some (.slice A0_0 l0_0.length c0_0) ∧ w'.cell? ⟨gb447, 1, none⟩ = some (.slice A0_1 l0_1.length c0_1) ∧ w'.cell? ⟨gb447, 2, none⟩ = some (.slice A0_2 l0_2.length c0_2) ∧ w'.cell? ⟨gb448, 0, none⟩ = some (.int .i64 a1_0) ∧ w'.cell? ⟨gb448, 1, none⟩ = some (.int .i64 a1_1)) (ds := []) (bs 10 0) (by kernel_rfl) rfl rfl ⟨bc_ BK447 0, bc_ BK447 1, bc_ BK447 2, bc_ BK448 0, bc_ BK448 1⟩ (fun hHeld => ?_); refine with_tabW spec_StepPair.tab3 spec_StepPair.bits3 (fun HT_ HW_ => ?_)
 generalize w15.drew = w16 at BK447 BK448 BK449 HB hHeld ⊢
 refine tk_ 0 13 (bs 10 1) HT_ HW_ hHeld ?_
 refine tk_ 2 15 (bs 10 5) HT_ HW_ hHeld ?_
 refine join_ (σ := Value × Value × Value × Value × Value × Value × Nat) 2 (bs 10 255) (fun s_ => [(14, .agg #[s_.1, s_.2.1, s_.2.2.1]), (16, .tuple #[.agg #[s_.2.2.2.1, s_.2.2.2.2.1, s_.2.2.2.2.2.1], .bool true]), (6, .pointer (some ⟨s_.2.2.2.2.2.2, 0, none⟩)), (12, .tuple #[.agg #[s_.2.2.2.1, s_.2.2.2.2.1, s_.2.2.2.2.2.1], .bool true]), (17, .agg #[s_.2.2.2.1, s_.2.2.2.2.1, s_.2.2.2.2.2.1]), (18, .bool true)]) (fun s_ w' => (w'.cell? ⟨gb447, 0, none⟩ = some (.slice A0_0 l0_0.length c0_0) ∧ w'.cell? ⟨gb447, 1, none⟩ = some (.slice A0_1 l0_1.length c0_1) ∧ w'.cell? ⟨gb447, 2, none⟩ = some (.slice A0_2 l0_2.length c0_2) ∧ w'.cell? ⟨gb448, 0, none⟩ = some (.int .i64 a1_0) ∧ w'.cell? ⟨gb448, 1, none⟩ = some (.int .i64 a1_1)) ∧ (Kd.R (Kd.int .i64) 3 w' w.heap.size (fun k_ => no_ s_.2.2.2.2.1 k_) s_.2.2.2.1 t460) ∧ (Kd.R (Kd.int .i64) 3 w' w.heap.size (fun k_ => no_ s_.2.2.2.1 k_) s_.2.2.2.2.1 t463) ∧ (Kd.R k127 127 w' w.heap.size (fun _ => True) s_.2.2.2.2.2.1 t466) ∧ (w'.heap[gb447]? = some (.cells #[.slice A0_0 l0_0.length c0_0, .slice A0_1 l0_1.length c0_1, .slice A0_2 l0_2.length c0_2] 47 (0, 0))) ∧ (w'.heap[gb448]? = some (.cells #[.int .i64 a1_0, .int .i64 a1_1] 51 (0, 0))) ∧ (w'.heap[gb449]? = some (.cells #[.slice none 0 0, .slice none 0 0, .slice none 0 0] 47 (0, 0))) ∧ (w'.heap[s_.2.2.2.2.2.2]? = some (.cells #[.slice none 0 0, .slice none 0 0, .slice none 0 0] 47 (0, 0))) ∧ (w.heap.size ≤ s_.2.2.2.2.2.2) ∧ (w.heap.size ≤ s_.2.2.2.2.2.2) ∧ (gb447 ≠ s_.2.2.2.2.2.2) ∧ (s_.2.2.2.2.2.2 ≠ gb447) ∧ (gb448 ≠ s_.2.2.2.2.2.2) ∧ (s_.2.2.2.2.2.2 ≠ gb448) ∧ (gb449 ≠ s_.2.2.2.2.2.2) ∧ (s_.2.2.2.2.2.2 ≠ gb449) ∧ (Below w.heap.size w w')) ?_ ?_
 rotate_left
 ·intro hCont
  refine two_ (i := 1) (j := 7) (Ni := some 14) (Nj := some 6) (bs 10 7) (bs 10 133) rfl rfl rfl rfl (two_of HT_.out (by kernel_rfl)) (by decide) (by decide) (fun K hK => ?_) (fun K hK => ?_)
  rotate_left
  ·skip
   refine box_step ?hg (N := 6) ?hd (cs := #[.slice none 0 0, .slice none 0 0, .slice none 0 0]) (t := 47) ?hr ?_; (case hd => rfl); (case hg => rfl); (case hr => first | (go_simp; done) | (go_simp; rfl))
   intro gb470 hg w17 hbox hb
   have BK470 := Aside0.mk (hbox)
   have GW470 := gw_ hg HB
   have GE470 := gw_ hg HB
   have NB447_470 := nl_ hg BK447
   have NB470_447 := ng_ hg BK447
   have NB448_470 := nl_ hg BK448
   have NB470_448 := ng_ hg BK448
   have NB449_470 := nl_ hg BK449
   have NB470_449 := ng_ hg BK449
   replace BK447 := bb_ BK447 hb
   replace BK448 := bb_ BK448 hb
   replace BK449 := bb_ BK449 hb
   replace HB := bst_ HB hb
   clear hb hbox hg
   refine hK.out _ _ ⟨bc_ BK447 0, bc_ BK447 1, bc_ BK447 2, bc_ BK448 0, bc_ BK448 1⟩ (fun hHeld => ?_)
   clear hK K
   refine nm_ 6 ?_
   refine one_ (i := 1) (N := some 14) (bs 10 135) rfl rfl (one_of HT_.out (by kernel_rfl)) (by decide) (fun K hK => ?_)
   refine goes_ Try.func88 (by kernel_rfl) rfl #[.agg #[.slice A0_0 l0_0.length c0_0, .slice A0_1 l0_1.length c0_1, .slice A0_2 l0_2.length c0_2]] (by rfl) rfl rfl tm_ ?_
   with_reducible refine (spec_l3Own.calls _ _ l0_0 _ _ l0_1 _ _ l0_2 t451 t454 t457 _ ?side1 ?side2 ?side3 ?side4 ?side5 ?side6 A5.out).mono ?_
   (case side1 => exact ca (Kd.C_below HR0_0.out HB.out))
   (case side2 => exact HC0_0.out)
   (case side3 => exact ca (Kd.C_below HR0_1.out HB.out))
   (case side4 => exact HC0_1.out)
   (case side5 => exact ca (Kd.C_below HR0_2.out HB.out))
   (case side6 => exact HC0_2.out)
   rintro e w18 ⟨v452, v455, v458, rfl, ho0, ho1, ho2, hb⟩
   refine ⟨_, rfl, ?_⟩
   have HO453 := Aside0.mk (Kd.R_lower ho0 (below_size (hB HB)))
   have HO456 := Aside0.mk (Kd.R_lower ho1 (below_size (hB HB)))
   have HO459 := Aside0.mk (Kd.R_lower ho2 (below_size (hB HB)))
   replace BK447 := bb_ BK447 hb
   replace BK448 := bb_ BK448 hb
   replace BK449 := bb_ BK449 hb
   replace BK470 := bb_ BK470 hb
   replace HB := bst_ HB hb
   clear hb ho0 ho1 ho2
   obtain ⟨Ao19, co19, eo19⟩ := Kd.R_slice HO453.out
   (first | subst eo19 | (injection eo19 with f1_ f2_ f3_; have f4_ := f1_.symm; have f5_ := f3_.symm; clear f1_ f2_ f3_; subst f4_; subst f5_))
   obtain ⟨Ao20, co20, eo20⟩ := Kd.R_slice HO456.out
   (first | subst eo20 | (injection eo20 with f1_ f2_ f3_; have f4_ := f1_.symm; have f5_ := f3_.symm; clear f1_ f2_ f3_; subst f4_; subst f5_))
   obtain ⟨Ao21, co21, eo21⟩ := Kd.R_slice HO459.out
   (first | subst eo21 | (injection eo21 with f1_ f2_ f3_; have f4_ := f1_.symm; have f5_ := f3_.symm; clear f1_ f2_ f3_; subst f4_; subst f5_))
   refine hK.out _ _ ⟨bc_ BK447 0, bc_ BK447 1, bc_ BK447 2, bc_ BK448 0, bc_ BK448 1⟩ (fun hHeld => ?_)
   clear hK K
   refine nm_ 14 ?_
   refine one_ (i := 3) (N := some 16) (bs 10 143) rfl rfl (one_of HT_.out (by kernel_rfl)) (by decide) (fun K hK => ?_)
   refine goes_ Try.func87 (by kernel_rfl) rfl #[.agg #[.slice Ao19 t451.length co19, .slice Ao20 t454.length co20, .slice Ao21 t457.length co21], .agg #[.int .i64 a1_0, .int .i64 a1_1]] (by rfl) rfl rfl tm_ ?_
   with_reducible refine (spec_l3Step.calls k (fun k_ => some k_ = (.slice Ao19 t451.length co19 : Value).ownBlock) (.slice Ao19 t451.length co19) t451 (fun k_ => some k_ = (.slice Ao20 t454.length co20 : Value).ownBlock) (.slice Ao20 t454.length co20) t454 (fun k_ => some k_ = (.slice Ao21 t457.length co21 : Value).ownBlock) (.slice Ao21 t457.length co21) t457 a1_0 a1_1 t460 t463 t466 true w _ ?side1 ?side2 ?side3 ?side4 ?side5 ?side6 A6.out).mono ?_
   (case side1 => repeat (first | (with_reducible first | exact HB.out | apply below_alloc | apply pw_below_drewN | apply below_drew1 | refine below_set ?_ GE447.out | refine below_set ?_ GE448.out | refine below_set ?_ GE449.out | refine below_set ?_ GE470.out) | exact HB.out))
   (case side2 => exact Kd.R_tight rfl HO453.out)
   (case side3 => exact fun k_ e_ => (HO453.out.1 k_ e_.symm))
   (case side4 => exact Kd.R_tight rfl HO456.out)
   (case side5 => exact fun k_ e_ => (HO456.out.1 k_ e_.symm))
   (case side6 => exact Kd.R_tight rfl HO459.out)
   rintro e w22 ⟨v461, v464, v467, rfl, ho0, ho1, ho2, hb, hkp⟩
   refine ⟨_, rfl, ?_⟩
   have HO462 := Aside0.mk (Kd.R_mono (ok' := fun k_ => no_ v464 k_) ho0 (fun k_ hk_ => hk_.2))
   have HO465 := Aside0.mk (Kd.R_mono (ok' := fun k_ => no_ v461 k_) ho1 (fun k_ hk_ => hk_.2))
   have HO468 := Aside0.mk (Kd.R_mono (ok' := fun k_ => True) ho2 (fun k_ hk_ => trivial))
   replace BK447 := Aside0.mk (blk_kept (ba BK447.out) hkp (fun hs_ => Or.elim hs_ (kne_ HO453 BK447) (fun e_ => Or.elim e_ (kne_ HO456 BK447) (kne_ HO459 BK447))))
   replace BK448 := Aside0.mk (blk_kept (ba BK448.out) hkp (fun hs_ => Or.elim hs_ (kne_ HO453 BK448) (fun e_ => Or.elim e_ (kne_ HO456 BK448) (kne_ HO459 BK448))))
   replace BK449 := Aside0.mk (blk_kept (ba BK449.out) hkp (fun hs_ => Or.elim hs_ (kne_ HO453 BK449) (fun e_ => Or.elim e_ (kne_ HO456 BK449) (kne_ HO459 BK449))))
   replace BK470 := Aside0.mk (blk_kept (ba BK470.out) hkp (fun hs_ => Or.elim hs_ (kne_ HO453 BK470) (fun e_ => Or.elim e_ (kne_ HO456 BK470) (kne_ HO459 BK470))))
   replace HB := Aside0.mk (hb)
   clear HO453 HO456 HO459
   clear hb ho0 ho1 ho2
   refine hK.out _ _ ⟨bc_ BK447 0, bc_ BK447 1, bc_ BK447 2, bc_ BK448 0, bc_ BK448 1⟩ (fun hHeld => ?_)
   clear hK K
   refine nm_ 16 ?_
   refine pu_ 4 12 (bs 10 159) HT_ ?_
   refine pu_ 5 17 (bs 10 191) HT_ ?_
   refine pu_ 6 18 (bs 10 255) HT_ ?_
   exact norm_ (by simp only [putAll, Act.put, List.setIfInBounds_toArray, List.set_cons_zero, List.set_cons_succ]) (hCont (.slice Ao19 t451.length co19, .slice Ao20 t454.length co20, .slice Ao21 t457.length co21, v461, v464, v467, gb470) _ ⟨hHeld, (ra HO462.out), (ra HO465.out), (ra HO468.out), (ba BK447.out), (ba BK448.out), (ba BK449.out), (ba BK470.out), GW470.out, GE470.out, NB447_470.out, NB470_447.out, NB448_470.out, NB470_448.out, NB449_470.out, NB470_449.out, (hB HB)⟩)
  skip
  refine goes_ Try.func88 (by kernel_rfl) rfl #[.agg #[.slice A0_0 l0_0.length c0_0, .slice A0_1 l0_1.length c0_1, .slice A0_2 l0_2.length c0_2]] (by rfl) rfl rfl tm_ ?_
  with_reducible refine (spec_l3Own.calls _ _ l0_0 _ _ l0_1 _ _ l0_2 t451 t454 t457 _ ?side1 ?side2 ?side3 ?side4 ?side5 ?side6 A5.out).mono ?_
  (case side1 => exact ca (Kd.C_below HR0_0.out HB.out))
  (case side2 => exact HC0_0.out)
  (case side3 => exact ca (Kd.C_below HR0_1.out HB.out))
  (case side4 => exact HC0_1.out)
  (case side5 => exact ca (Kd.C_below HR0_2.out HB.out))
  (case side6 => exact HC0_2.out)
  rintro e w17 ⟨v452, v455, v458, rfl, ho0, ho1, ho2, hb⟩
  refine ⟨_, rfl, ?_⟩
  have HO453 := Aside0.mk (Kd.R_lower ho0 (below_size (hB HB)))
  have HO456 := Aside0.mk (Kd.R_lower ho1 (below_size (hB HB)))
  have HO459 := Aside0.mk (Kd.R_lower ho2 (below_size (hB HB)))
  replace BK447 := bb_ BK447 hb
  replace BK448 := bb_ BK448 hb
  replace BK449 := bb_ BK449 hb
  replace HB := bst_ HB hb
  clear hb ho0 ho1 ho2
  obtain ⟨Ao18, co18, eo18⟩ := Kd.R_slice HO453.out
  (first | subst eo18 | (injection eo18 with f1_ f2_ f3_; have f4_ := f1_.symm; have f5_ := f3_.symm; clear f1_ f2_ f3_; subst f4_; subst f5_))
  obtain ⟨Ao19, co19, eo19⟩ := Kd.R_slice HO456.out
  (first | subst eo19 | (injection eo19 with f1_ f2_ f3_; have f4_ := f1_.symm; have f5_ := f3_.symm; clear f1_ f2_ f3_; subst f4_; subst f5_))
  obtain ⟨Ao20, co20, eo20⟩ := Kd.R_slice HO459.out
  (first | subst eo20 | (injection eo20 with f1_ f2_ f3_; have f4_ := f1_.symm; have f5_ := f3_.symm; clear f1_ f2_ f3_; subst f4_; subst f5_))
  refine hK.out _ _ ⟨bc_ BK447 0, bc_ BK447 1, bc_ BK447 2, bc_ BK448 0, bc_ BK448 1⟩ (fun hHeld => ?_)
  clear hK K
  refine nm_ 14 ?_
  refine two_ (i := 3) (j := 7) (Ni := some 16) (Nj := some 6) (bs 10 15) (bs 10 135) rfl rfl rfl rfl (two_of HT_.out (by kernel_rfl)) (by decide) (by decide) (fun K hK => ?_) (fun K hK => ?_)
  ·skip
   refine goes_ Try.func87 (by kernel_rfl) rfl #[.agg #[.slice Ao18 t451.length co18, .slice Ao19 t454.length co19, .slice Ao20 t457.length co20], .agg #[.int .i64 a1_0, .int .i64 a1_1]] (by rfl) rfl rfl tm_ ?_
   with_reducible refine (spec_l3Step.calls k (fun k_ => some k_ = (.slice Ao18 t451.length co18 : Value).ownBlock) (.slice Ao18 t451.length co18) t451 (fun k_ => some k_ = (.slice Ao19 t454.length co19 : Value).ownBlock) (.slice Ao19 t454.length co19) t454 (fun k_ => some k_ = (.slice Ao20 t457.length co20 : Value).ownBlock) (.slice Ao20 t457.length co20) t457 a1_0 a1_1 t460 t463 t466 true w _ ?side1 ?side2 ?side3 ?side4 ?side5 ?side6 A6.out).mono ?_
   (case side1 => repeat (first | (with_reducible first | exact HB.out | apply below_alloc | apply pw_below_drewN | apply below_drew1 | refine below_set ?_ GE447.out | refine below_set ?_ GE448.out | refine below_set ?_ GE449.out) | exact HB.out))
   (case side2 => exact Kd.R_tight rfl HO453.out)
   (case side3 => exact fun k_ e_ => (HO453.out.1 k_ e_.symm))
   (case side4 => exact Kd.R_tight rfl HO456.out)
   (case side5 => exact fun k_ e_ => (HO456.out.1 k_ e_.symm))
   (case side6 => exact Kd.R_tight rfl HO459.out)
   rintro e w21 ⟨v461, v464, v467, rfl, ho0, ho1, ho2, hb, hkp⟩
   refine ⟨_, rfl, ?_⟩
   have HO462 := Aside0.mk (Kd.R_mono (ok' := fun k_ => no_ v464 k_) ho0 (fun k_ hk_ => hk_.2))
   have HO465 := Aside0.mk (Kd.R_mono (ok' := fun k_ => no_ v461 k_) ho1 (fun k_ hk_ => hk_.2))
   have HO468 := Aside0.mk (Kd.R_mono (ok' := fun k_ => True) ho2 (fun k_ hk_ => trivial))
   replace BK447 := Aside0.mk (blk_kept (ba BK447.out) hkp (fun hs_ => Or.elim hs_ (kne_ HO453 BK447) (fun e_ => Or.elim e_ (kne_ HO456 BK447) (kne_ HO459 BK447))))
   replace BK448 := Aside0.mk (blk_kept (ba BK448.out) hkp (fun hs_ => Or.elim hs_ (kne_ HO453 BK448) (fun e_ => Or.elim e_ (kne_ HO456 BK448) (kne_ HO459 BK448))))
   replace BK449 := Aside0.mk (blk_kept (ba BK449.out) hkp (fun hs_ => Or.elim hs_ (kne_ HO453 BK449) (fun e_ => Or.elim e_ (kne_ HO456 BK449) (kne_ HO459 BK449))))
   replace HB := Aside0.mk (hb)
   clear HO453 HO456 HO459
   clear hb ho0 ho1 ho2
   refine hK.out _ _ ⟨bc_ BK447 0, bc_ BK447 1, bc_ BK447 2, bc_ BK448 0, bc_ BK448 1⟩ (fun hHeld => ?_)
   clear hK K
   refine nm_ 16 ?_
   refine pu_ 4 12 (bs 10 31) HT_ ?_
   refine pu_ 5 17 (bs 10 63) HT_ ?_
   refine pu_ 6 18 (bs 10 127) HT_ ?_
   refine one_ (i := 7) (N := some 6) (bs 10 255) rfl rfl (one_of HT_.out (by kernel_rfl)) (by decide) (fun K hK => ?_)
   refine box_step ?hg (N := 6) ?hd (cs := #[.slice none 0 0, .slice none 0 0, .slice none 0 0]) (t := 47) ?hr ?_; (case hd => rfl); (case hg => rfl); (case hr => first | (go_simp; done) | (go_simp; rfl))
   intro gb470 hg w22 hbox hb
   have BK470 := Aside0.mk (hbox)
   have GW470 := gw_ hg HB
   have GE470 := gw_ hg HB
   have NB447_470 := nl_ hg BK447
   have NB470_447 := ng_ hg BK447
   have NB448_470 := nl_ hg BK448
   have NB470_448 := ng_ hg BK448
   have NB449_470 := nl_ hg BK449
   have NB470_449 := ng_ hg BK449
   replace HO462 := rb_ HO462 hb
   replace HO465 := rb_ HO465 hb
   replace HO468 := rb_ HO468 hb
   replace BK447 := bb_ BK447 hb
   replace BK448 := bb_ BK448 hb
   replace BK449 := bb_ BK449 hb
   replace HB := bst_ HB hb
   clear hb hbox hg
   refine hK.out _ _ ⟨bc_ BK447 0, bc_ BK447 1, bc_ BK447 2, bc_ BK448 0, bc_ BK448 1⟩ (fun hHeld => ?_)
   clear hK K
   refine nm_ 6 ?_
   exact norm_ (by simp only [putAll, Act.put, List.setIfInBounds_toArray, List.set_cons_zero, List.set_cons_succ]) (hCont (.slice Ao18 t451.length co18, .slice Ao19 t454.length co19, .slice Ao20 t457.length co20, v461, v464, v467, gb470) _ ⟨hHeld, (ra HO462.out), (ra HO465.out), (ra HO468.out), (ba BK447.out), (ba BK448.out), (ba BK449.out), (ba BK470.out), GW470.out, GE470.out, NB447_470.out, NB470_447.out, NB448_470.out, NB470_448.out, NB449_470.out, NB470_449.out, (hB HB)⟩)
  skip
  refine box_step ?hg (N := 6) ?hd (cs := #[.slice none 0 0, .slice none 0 0, .slice none 0 0]) (t := 47) ?hr ?_; (case hd => rfl); (case hg => rfl); (case hr => first | (go_simp; done) | (go_simp; rfl))
  intro gb470 hg w18 hbox hb
  have BK470 := Aside0.mk (hbox)
  have GW470 := gw_ hg HB
  have GE470 := gw_ hg HB
  have NB447_470 := nl_ hg BK447
  have NB470_447 := ng_ hg BK447
  have NB448_470 := nl_ hg BK448
  have NB470_448 := ng_ hg BK448
  have NB449_470 := nl_ hg BK449
  have NB470_449 := ng_ hg BK449
  replace HO453 := rb_ HO453 hb
  replace HO456 := rb_ HO456 hb
  replace HO459 := rb_ HO459 hb
  replace BK447 := bb_ BK447 hb
  replace BK448 := bb_ BK448 hb
  replace BK449 := bb_ BK449 hb
  replace HB := bst_ HB hb
  clear hb hbox hg
  obtain ⟨Ao19, co19, eo19⟩ := Kd.R_slice HO453.out
  (first | subst eo19 | (injection eo19 with f1_ f2_ f3_; have f4_ := f1_.symm; have f5_ := f3_.symm; clear f1_ f2_ f3_; subst f4_; subst f5_))
  obtain ⟨Ao20, co20, eo20⟩ := Kd.R_slice HO456.out
  (first | subst eo20 | (injection eo20 with f1_ f2_ f3_; have f4_ := f1_.symm; have f5_ := f3_.symm; clear f1_ f2_ f3_; subst f4_; subst f5_))
  obtain ⟨Ao21, co21, eo21⟩ := Kd.R_slice HO459.out
  (first | subst eo21 | (injection eo21 with f1_ f2_ f3_; have f4_ := f1_.symm; have f5_ := f3_.symm; clear f1_ f2_ f3_; subst f4_; subst f5_))
  refine hK.out _ _ ⟨bc_ BK447 0, bc_ BK447 1, bc_ BK447 2, bc_ BK448 0, bc_ BK448 1⟩ (fun hHeld => ?_)
  clear hK K
  refine nm_ 6 ?_
  refine one_ (i := 3) (N := some 16) (bs 10 143) rfl rfl (one_of HT_.out (by kernel_rfl)) (by decide) (fun K hK => ?_)
  refine goes_ Try.func87 (by kernel_rfl) rfl #[.agg #[.slice Ao19 t451.length co19, .slice Ao20 t454.length co20, .slice Ao21 t457.length co21], .agg #[.int .i64 a1_0, .int .i64 a1_1]] (by rfl) rfl rfl tm_ ?_
  with_reducible refine (spec_l3Step.calls k (fun k_ => some k_ = (.slice Ao19 t451.length co19 : Value).ownBlock) (.slice Ao19 t451.length co19) t451 (fun k_ => some k_ = (.slice Ao20 t454.length co20 : Value).ownBlock) (.slice Ao20 t454.length co20) t454 (fun k_ => some k_ = (.slice Ao21 t457.length co21 : Value).ownBlock) (.slice Ao21 t457.length co21) t457 a1_0 a1_1 t460 t463 t466 true w _ ?side1 ?side2 ?side3 ?side4 ?side5 ?side6 A6.out).mono ?_
  (case side1 => repeat (first | (with_reducible first | exact HB.out | apply below_alloc | apply pw_below_drewN | apply below_drew1 | refine below_set ?_ GE447.out | refine below_set ?_ GE448.out | refine below_set ?_ GE449.out | refine below_set ?_ GE470.out) | exact HB.out))
  (case side2 => exact Kd.R_tight rfl HO453.out)
  (case side3 => exact fun k_ e_ => (HO453.out.1 k_ e_.symm))
  (case side4 => exact Kd.R_tight rfl HO456.out)
  (case side5 => exact fun k_ e_ => (HO456.out.1 k_ e_.symm))
  (case side6 => exact Kd.R_tight rfl HO459.out)
  rintro e w22 ⟨v461, v464, v467, rfl, ho0, ho1, ho2, hb, hkp⟩
  refine ⟨_, rfl, ?_⟩
  have HO462 := Aside0.mk (Kd.R_mono (ok' := fun k_ => no_ v464 k_) ho0 (fun k_ hk_ => hk_.2))
  have HO465 := Aside0.mk (Kd.R_mono (ok' := fun k_ => no_ v461 k_) ho1 (fun k_ hk_ => hk_.2))
  have HO468 := Aside0.mk (Kd.R_mono (ok' := fun k_ => True) ho2 (fun k_ hk_ => trivial))
  replace BK447 := Aside0.mk (blk_kept (ba BK447.out) hkp (fun hs_ => Or.elim hs_ (kne_ HO453 BK447) (fun e_ => Or.elim e_ (kne_ HO456 BK447) (kne_ HO459 BK447))))
  replace BK448 := Aside0.mk (blk_kept (ba BK448.out) hkp (fun hs_ => Or.elim hs_ (kne_ HO453 BK448) (fun e_ => Or.elim e_ (kne_ HO456 BK448) (kne_ HO459 BK448))))
  replace BK449 := Aside0.mk (blk_kept (ba BK449.out) hkp (fun hs_ => Or.elim hs_ (kne_ HO453 BK449) (fun e_ => Or.elim e_ (kne_ HO456 BK449) (kne_ HO459 BK449))))
  replace BK470 := Aside0.mk (blk_kept (ba BK470.out) hkp (fun hs_ => Or.elim hs_ (kne_ HO453 BK470) (fun e_ => Or.elim e_ (kne_ HO456 BK470) (kne_ HO459 BK470))))
  replace HB := Aside0.mk (hb)
  clear HO453 HO456 HO459
  clear hb ho0 ho1 ho2
  refine hK.out _ _ ⟨bc_ BK447 0, bc_ BK447 1, bc_ BK447 2, bc_ BK448 0, bc_ BK448 1⟩ (fun hHeld => ?_)
  clear hK K
  refine nm_ 16 ?_
  refine pu_ 4 12 (bs 10 159) HT_ ?_
  refine pu_ 5 17 (bs 10 191) HT_ ?_
  refine pu_ 6 18 (bs 10 255) HT_ ?_
  exact norm_ (by simp only [putAll, Act.put, List.setIfInBounds_toArray, List.set_cons_zero, List.set_cons_succ]) (hCont (.slice Ao19 t451.length co19, .slice Ao20 t454.length co20, .slice Ao21 t457.length co21, v461, v464, v467, gb470) _ ⟨hHeld, (ra HO462.out), (ra HO465.out), (ra HO468.out), (ba BK447.out), (ba BK448.out), (ba BK449.out), (ba BK470.out), GW470.out, GE470.out, NB447_470.out, NB470_447.out, NB448_470.out, NB470_448.out, NB449_470.out, NB470_449.out, (hB HB)⟩)
 rintro ⟨v452, v455, v458, v461, v464, v467, gb470⟩ w23 ⟨hS_, h0_, h1_, h2_, h3_, h4_, h5_, h6_, h7_, h8_, h9_, h10_, h11_, h12_, h13_, h14_, h15_⟩
 try dsimp only at h0_ h1_ h2_ h3_ h4_ h5_ h6_ h7_ h8_ h9_ h10_ h11_ h12_ h13_ h14_ h15_
 have HO462 := Aside0.mk h0_
 have HO465 := Aside0.mk h1_
 have HO468 := Aside0.mk h2_
 have BK470 := Aside0.mk h6_
 have GW470 := Aside0.mk h7_
 have GE470 := Aside0.mk h8_
 have NB447_470 := Aside0.mk h9_
 have NB470_447 := Aside0.mk h10_
 have NB448_470 := Aside0.mk h11_
 have NB470_448 := Aside0.mk h12_
 have NB449_470 := Aside0.mk h13_
 have NB470_449 := Aside0.mk h14_
 replace BK447 := Aside0.mk h3_
 replace BK448 := Aside0.mk h4_
 replace BK449 := Aside0.mk h5_
 replace HB := Aside0.mk h15_
 clear h0_ h1_ h2_ h3_ h4_ h5_ h6_ h7_ h8_ h9_ h10_ h11_ h12_ h13_ h14_ h15_
 have hHeld : w23.cell? ⟨gb447, 0, none⟩ = some (.slice A0_0 l0_0.length c0_0) ∧ w23.cell? ⟨gb447, 1, none⟩ = some (.slice A0_1 l0_1.length c0_1) ∧ w23.cell? ⟨gb447, 2, none⟩ = some (.slice A0_2 l0_2.length c0_2) ∧ w23.cell? ⟨gb448, 0, none⟩ = some (.int .i64 a1_0) ∧ w23.cell? ⟨gb448, 1, none⟩ = some (.int .i64 a1_1) := hS_
 obtain ⟨Ao24, co24, eo24⟩ := Kd.R_slice HO462.out
 (first | subst eo24 | (injection eo24 with f1_ f2_ f3_; have f4_ := f1_.symm; have f5_ := f3_.symm; clear f1_ f2_ f3_; subst f4_; subst f5_))
 obtain ⟨Ao26, co26, eo26⟩ := Kd.R_slice HO465.out
 (first | subst eo26 | (injection eo26 with f1_ f2_ f3_; have f4_ := f1_.symm; have f5_ := f3_.symm; clear f1_ f2_ f3_; subst f4_; subst f5_))
 obtain ⟨Ao28, co28, eo28⟩ := Kd.R_slice HO468.out
 (first | subst eo28 | (injection eo28 with f1_ f2_ f3_; have f4_ := f1_.symm; have f5_ := f3_.symm; clear f1_ f2_ f3_; subst f4_; subst f5_))
 refine norm_ (a' := ?_) ?_ ?_
 rotate_left
 ·simp only [putAll, Act.put, List.setIfInBounds_toArray, List.set_cons_zero, List.set_cons_succ]
  rfl
 refine one_ (i := 8) (N := none) (bs 10 511) rfl rfl (one_of HT_.out (by kernel_rfl)) (by decide) (fun K hK => ?_)
 have hs25 : w23.cell? ⟨gb470, 0, none⟩ = some (.slice none 0 0) := bc_ BK470 0
 have hfs25 := blk_frozen BK470.out 0
 have hns25_0 := NB447_470.out
 have hns25_1 := NB448_470.out
 have hns25_2 := NB449_470.out
 have hms25_0 := NB470_447.out
 have hms25_1 := NB470_448.out
 have hms25_2 := NB470_449.out
 have hs27 : w23.cell? ⟨gb470, 1, none⟩ = some (.slice none 0 0) := bc_ BK470 1
 have hfs27 := blk_frozen BK470.out 1
 have hns27_0 := NB447_470.out
 have hns27_1 := NB448_470.out
 have hns27_2 := NB449_470.out
 have hms27_0 := NB470_447.out
 have hms27_1 := NB470_448.out
 have hms27_2 := NB470_449.out
 have hs29 : w23.cell? ⟨gb470, 2, none⟩ = some (.slice none 0 0) := bc_ BK470 2
 have hfs29 := blk_frozen BK470.out 2
 have hns29_0 := NB447_470.out
 have hns29_1 := NB448_470.out
 have hns29_2 := NB449_470.out
 have hms29_0 := NB470_447.out
 have hms29_1 := NB470_448.out
 have hms29_2 := NB470_449.out
 refine skip_ (w1 := ?_) (by rfl) rfl ?_ ?_
 rotate_left
 ·go_simp
  rfl
 refine hK.out _ _ ⟨((cell_far (p := ⟨gb470, _, none⟩) NB447_470.out _).trans (((cell_far (p := ⟨gb470, _, none⟩) NB447_470.out _).trans (((cell_far (p := ⟨gb470, _, none⟩) NB447_470.out _).trans (hHeld.1)))))), ((cell_far (p := ⟨gb470, _, none⟩) NB447_470.out _).trans (((cell_far (p := ⟨gb470, _, none⟩) NB447_470.out _).trans (((cell_far (p := ⟨gb470, _, none⟩) NB447_470.out _).trans (hHeld.2.1)))))), ((cell_far (p := ⟨gb470, _, none⟩) NB447_470.out _).trans (((cell_far (p := ⟨gb470, _, none⟩) NB447_470.out _).trans (((cell_far (p := ⟨gb470, _, none⟩) NB447_470.out _).trans (hHeld.2.2.1)))))), ((cell_far (p := ⟨gb470, _, none⟩) NB448_470.out _).trans (((cell_far (p := ⟨gb470, _, none⟩) NB448_470.out _).trans (((cell_far (p := ⟨gb470, _, none⟩) NB448_470.out _).trans (hHeld.2.2.2.1)))))), ((cell_far (p := ⟨gb470, _, none⟩) NB448_470.out _).trans (((cell_far (p := ⟨gb470, _, none⟩) NB448_470.out _).trans (((cell_far (p := ⟨gb470, _, none⟩) NB448_470.out _).trans (hHeld.2.2.2.2))))))⟩ (fun hHeld => ?_)
 clear hK K
 refine pu_ 9 7 (bs 10 1023) HT_ ?_
 refine done_ (done_of HT_.out (by kernel_rfl)) ?_
 have hnb30 := NB470_447.out
 have hnc30 := NB447_470.out
 have hnb31 := NB470_448.out
 have hnc31 := NB448_470.out
 have hnb32 := NB470_449.out
 have hnc32 := NB449_470.out
 have hcz33_0 : w23.cell? ⟨gb470, 0, none⟩ = some (.slice none 0 0) := bc_ BK470 0
 have hcz33_1 : w23.cell? ⟨gb470, 1, none⟩ = some (.slice none 0 0) := bc_ BK470 1
 have hcz33_2 : w23.cell? ⟨gb470, 2, none⟩ = some (.slice none 0 0) := bc_ BK470 2
 have hfz33_0 := blk_frozen BK470.out 0
 have hfz33_1 := blk_frozen BK470.out 1
 have hfz33_2 := blk_frozen BK470.out 2
 try go_wp2_with (first | ((with_reducible refine gate_callee (f := 88) rfl ?_); refine goesL_ (some 23) rfl rfl Try.func88 (by kernel_rfl) rfl #[.agg #[.slice Ao24 t460.length co24, .slice Ao26 t463.length co26, .slice Ao28 t466.length co28]] rfl tm_ ?_; (with_reducible refine (spec_l3Own.calls _ _ t460 _ _ t463 _ _ t466 t471 t474 t477 _ ?side1 ?side2 ?side3 ?side4 ?side5 ?side6 A8.out).mono ?_); (case side1 => exact rr_ (fm3_ HO462 BK470)); (case side2 => exact (Kd.R_reads' HO462.out).2.1); (case side3 => exact rr_ (fm3_ HO465 BK470)); (case side4 => exact (Kd.R_reads' HO465.out).2.1); (case side5 => exact rr_ (fm3_ HO468 BK470)); (case side6 => exact (Kd.R_reads' HO468.out).2.1); rintro e w34 ⟨v472, v475, v478, rfl, ho0, ho1, ho2, hb⟩; refine ⟨_, rfl, ?_⟩; have HO473 := Aside0.mk (Kd.R_lower (Kd.R_new' (Kd.R_new' ho0 (Kd.R_lt (ra (fm3_ HO462 BK470)))) (Kd.R_lt (ra (fm3_ HO465 BK470)))) (below_size (hB HB))); have HO476 := Aside0.mk (Kd.R_lower (Kd.R_new' (Kd.R_new' ho1 (Kd.R_lt (ra (fm3_ HO462 BK470)))) (Kd.R_lt (ra (fm3_ HO465 BK470)))) (below_size (hB HB))); have HO479 := Aside0.mk (Kd.R_lower (Kd.R_new' ho2 (Kd.R_lt (ra (fm3_ HO468 BK470)))) (below_size (hB HB))); replace HO462 := Aside0.mk (Kd.R_mono (Kd.R_told (Kd.R_told (Kd.R_old (ra (fm3_ HO462 BK470)) hb) (Kd.R_base ho0)) (Kd.R_base ho1)) (fun _ h_ => h_.1)); replace HO465 := Aside0.mk (Kd.R_mono (Kd.R_told (Kd.R_told (Kd.R_old (ra (fm3_ HO465 BK470)) hb) (Kd.R_base ho0)) (Kd.R_base ho1)) (fun _ h_ => h_.1)); replace HO468 := Aside0.mk (Kd.R_elder' (ra (fm3_ HO468 BK470)) (Kd.R_base ho2) hb); replace BK447 := Aside0.mk (blk_below (bx BK447) hb); replace BK448 := Aside0.mk (blk_below (bx BK448) hb); replace BK449 := Aside0.mk (blk_below (bx BK449) hb); replace BK470 := Aside0.mk (blk_below (g := gb470) (o := .cells #[.slice Ao24 t460.length co24, .slice Ao26 t463.length co26, .slice Ao28 t466.length co28] 47 (0, 0)) (by (with_reducible repeat (first | refine blk_drewN ?_ _ | refine blk_drew ?_ | refine blk_alloc ?_ _)); refine blk_put (cs := #[.slice Ao24 t460.length co24, .slice Ao26 t463.length co26, .slice none 0 0]) ?_ 2 _ rfl; (with_reducible repeat (first | refine blk_drewN ?_ _ | refine blk_drew ?_ | refine blk_alloc ?_ _)); refine blk_put (cs := #[.slice Ao24 t460.length co24, .slice none 0 0, .slice none 0 0]) ?_ 1 _ rfl; (with_reducible repeat (first | refine blk_drewN ?_ _ | refine blk_drew ?_ | refine blk_alloc ?_ _)); refine blk_put (cs := #[.slice none 0 0, .slice none 0 0, .slice none 0 0]) ?_ 0 _ rfl; (with_reducible repeat (first | refine blk_drewN ?_ _ | refine blk_drew ?_ | refine blk_alloc ?_ _)); exact BK470.out) hb); replace HB := bst_ HB hb; clear hb ho0 ho1 ho2; obtain ⟨Ao35, co35, eo35⟩ := Kd.R_slice HO473.out; subst eo35; have hnb36 := NB449_448.out; have hnc36 := NB448_449.out; have hcz37_0 : w34.cell? ⟨gb449, 0, none⟩ = some (.slice none 0 0) := bc_ BK449 0; have hcz37_1 : w34.cell? ⟨gb449, 1, none⟩ = some (.slice none 0 0) := bc_ BK449 1; have hcz37_2 : w34.cell? ⟨gb449, 2, none⟩ = some (.slice none 0 0) := bc_ BK449 2; have hfz37_0 := blk_frozen BK449.out 0; have hfz37_1 := blk_frozen BK449.out 1; have hfz37_2 := blk_frozen BK449.out 2; obtain ⟨Ao38, co38, eo38⟩ := Kd.R_slice HO476.out; subst eo38; obtain ⟨Ao39, co39, eo39⟩ := Kd.R_slice HO479.out; subst eo39))
 refine bodyPost_ret (results_ct rfl _ _ gb449 47 #[.slice Ao35 t471.length co35, .slice Ao38 t474.length co38, .slice Ao39 t477.length co39] (0, 0) _ rfl (by (with_reducible repeat (first | refine blk_drewN ?_ _ | refine blk_drew ?_ | refine blk_alloc ?_ _)); refine blk_put (cs := #[.slice Ao35 t471.length co35, .slice Ao38 t474.length co38, .slice none 0 0]) ?_ 2 _ rfl; (with_reducible repeat (first | refine blk_drewN ?_ _ | refine blk_drew ?_ | refine blk_alloc ?_ _)); refine blk_put (cs := #[.slice Ao35 t471.length co35, .slice none 0 0, .slice none 0 0]) ?_ 1 _ rfl; (with_reducible repeat (first | refine blk_drewN ?_ _ | refine blk_drew ?_ | refine blk_alloc ?_ _)); refine blk_put (cs := #[.slice none 0 0, .slice none 0 0, .slice none 0 0]) ?_ 0 _ rfl; (with_reducible repeat (first | refine blk_drewN ?_ _ | refine blk_drew ?_ | refine blk_alloc ?_ _)); exact BK449.out) Try.underlying47 rfl (by kernel_rfl)) rfl ?_
 exact ⟨_, _, _, by first | rfl | (simp [errW_none, errW_some] <;> rfl) | (simp [*, errW_none, errW_some] <;> rfl), by (with_reducible repeat (first | apply Kd.R_alloc | apply Kd.R_drewN | apply Kd.R_drew)); exact Kd.R_mono (fs3_ HO473.out BK449.out) (fun _ hk => hk.1.1.1), by (with_reducible repeat (first | apply Kd.R_alloc | apply Kd.R_drewN | apply Kd.R_drew)); exact Kd.R_mono (fs3_ HO476.out BK449.out) (fun _ hk => hk.1.1.1), by (with_reducible repeat (first | apply Kd.R_alloc | apply Kd.R_drewN | apply Kd.R_drew)); exact Kd.R_mono (fs3_ HO479.out BK449.out) (fun _ hk => trivial), by repeat (first | (with_reducible first | exact HB.out | apply below_alloc | apply pw_below_drewN | apply below_drew1 | refine below_set ?_ GE447.out | refine below_set ?_ GE448.out | refine below_set ?_ GE449.out | refine below_set ?_ GE470.out) | exact HB.out)⟩

end Go.Proofs.Ytolncjkfcmbieaa.P
