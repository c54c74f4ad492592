import Derived.Test.YtefdgdloghhnaaaF0
import Derived.Test.YtefdgdloghhnaaaF3
import Derived.Test.YtefdgdloghhnaaaF4
import Derived.Test.YtefdgdloghhnaaaF9
namespace Go.Proofs.Ytefdgdloghhnaaa.P
open Go.RowKit Go.Proofs.YtefdgdloghhnaaaW.PrintWords Go.Proofs.YtefdgdloghhnaaaW.PrintLast Go.Proofs.YtefdgdloghhnaaaW.PrintMore
attribute [local go_sem] max2_int min2_int max_two min_two max_three min_three max_four min_four   -- for this text's walks alone
set_option linter.unusedVariables false
set_option linter.unusedSimpArgs false
attribute [local go_sem high] eqA36

def spec_StepPair.f (k : Nat) (l0_0 : List Int) (l0_1 : List Int) (l0_2 : List (S36)) (a1_0 : Int) (a1_1 : Int) : Option (List Int × List Int × (List (S36)) × Bool) := (spec_GoodPair.f k l0_0 l0_1 l0_2).bind fun t447 => (if t447 = true then ((spec_l3Own.f l0_0 l0_1 l0_2).bind fun bt448 => ((spec_l3Step.f k bt448.1 bt448.2.1 bt448.2.2 a1_0 a1_1).bind fun bt457 => (if bt457.2.2.2 = true then ((spec_l3Own.f bt457.1 bt457.2.1 bt457.2.2.1).bind fun bt468 => (some (bt468.1, bt468.2.1, bt468.2.2, true))) else (some (([] : List Int), ([] : List Int), ([] : List (S36)), false))))) else (some (([] : List Int), ([] : List Int), ([] : List (S36)), false)))
theorem spec_StepPair.mono : ∀ a0 a1 a2 a3 a4 k, LeO (spec_StepPair.f k a0 a1 a2 a3 a4) (spec_StepPair.f (k + 1) a0 a1 a2 a3 a4) := by
 intro a0 a1 a2 a3 a4 k
 unfold spec_StepPair.f
 repeat' first
   | (with_reducible exact spec_GoodPair.mono _ _ _ _)
   | (with_reducible exact spec_l3Step.mono _ _ _ _ _ _)
   | with_reducible first | exact LeO.refl _ | exact LeO.none _ | refine LeO.ite ?_ ?_ | refine LeO.bind ?_ fun _ => ?_
def spec_StepPair.T3 : Bool × List (List Nat × List Nat) := (true, [([], []), ([0], [0]), ([], []), ([1, 2, 1], [1, 2]), ([3], [3]), ([4], [4]), ([4], [4]), ([], []), ([7, 5, 3, 0, 1, 2, 3, 4, 5, 7], [5, 7]), ([6, 8, 0, 1, 2, 3, 4, 5, 6, 7, 8], [6])])
def spec_StepPair.B3 : List Nat := [0, 1, 0, 7, 15, 31, 31, 0, 191, 511]
theorem spec_StepPair.tab3 : rtab .any (opsOf Try.f6 3) = spec_StepPair.T3 := by kernel_rfl
theorem spec_StepPair.bits3 : waitsOk spec_StepPair.T3.2 spec_StepPair.B3 = true := by kernel_rfl
set_option maxHeartbeats 8000000 in
set_option maxRecDepth 100000 in
theorem spec_StepPair.calls (k : Nat) (A0_0 : Option Addr) (c0_0 : Nat) (l0_0 : List Int) (A0_1 : Option Addr) (c0_1 : Nat) (l0_1 : List Int) (A0_2 : Option Addr) (c0_2 : Nat) (l0_2 : List (S36)) (a1_0 : Int) (a1_1 : Int) (r1 : List Int) (r2 : List Int) (r3 : List (S36)) (r4 : Bool) (w : World) (hr0_0 : Kd.C (Kd.int .i64) w A0_0 l0_0.length l0_0) (hc0_0 : l0_0.length ≤ c0_0) (hr0_1 : Kd.C (Kd.int .i64) w A0_1 l0_1.length l0_1) (hc0_1 : l0_1.length ≤ c0_1) (hr0_2 : Kd.C k36 w A0_2 l0_2.length l0_2) (hc0_2 : l0_2.length ≤ c0_2) (h : spec_StepPair.f k l0_0 l0_1 l0_2 a1_0 a1_1 = some (r1, r2, r3, r4)) :
  Calls Try.prog 6 #[.agg #[.slice A0_0 l0_0.length c0_0, .slice A0_1 l0_1.length c0_1, .slice A0_2 l0_2.length c0_2], .agg #[.int .i64 a1_0, .int .i64 a1_1]] w fun e w' => ∃ v0_ v1_ v2_ : Value, e = .returned (.tuple #[.agg #[v0_, v1_, v2_], .bool r4]) ∧ Kd.R (Kd.int .i64) 3 w' w.heap.size (fun k_ => no_ v1_ k_) v0_ r1 ∧ Kd.R (Kd.int .i64) 3 w' w.heap.size (fun k_ => no_ v0_ k_) v1_ r2 ∧ Kd.R k36 36 w' w.heap.size (fun _ => True) v2_ r3 ∧ Below w.heap.size w w' := by
 have hu26 := Try.underlying26
 have hu28 := Try.underlying28
 have HR0_0 := Aside0.mk hr0_0
 have HC0_0 := Aside0.mk hc0_0
 clear hr0_0 hc0_0
 have HR0_1 := Aside0.mk hr0_1
 have HC0_1 := Aside0.mk hc0_1
 clear hr0_1 hc0_1
 have HR0_2 := Aside0.mk hr0_2
 have HC0_2 := Aside0.mk hc0_2
 clear hr0_2 hc0_2
 have HB := Aside0.mk (Below.refl w.heap.size w)
 have H : ((spec_GoodPair.f k l0_0 l0_1 l0_2).bind fun t447 => (if t447 = true then ((spec_l3Own.f l0_0 l0_1 l0_2).bind fun bt448 => ((spec_l3Step.f k bt448.1 bt448.2.1 bt448.2.2 a1_0 a1_1).bind fun bt457 => (if bt457.2.2.2 = true then ((spec_l3Own.f bt457.1 bt457.2.1 bt457.2.2.1).bind fun bt468 => (some (bt468.1, bt468.2.1, bt468.2.2, true))) else (some (([] : List Int), ([] : List Int), ([] : List (S36)), false))))) else (some (([] : List Int), ([] : List Int), ([] : List (S36)), false)))) = some (r1, r2, r3, r4) := h
 clear h
 replace H := Option.bind_eq_some_iff.mp H
 obtain ⟨t447, A30, H⟩ := H
 replace H : (if t447 = true then ((spec_l3Own.f l0_0 l0_1 l0_2).bind fun bt448 => ((spec_l3Step.f k bt448.1 bt448.2.1 bt448.2.2 a1_0 a1_1).bind fun bt457 => (if bt457.2.2.2 = true then ((spec_l3Own.f bt457.1 bt457.2.1 bt457.2.2.1).bind fun bt468 => (some (bt468.1, bt468.2.1, bt468.2.2, true))) else (some (([] : List Int), ([] : List Int), ([] : List (S36)), false))))) else (some (([] : List Int), ([] : List Int), ([] : List (S36)), false))) = some (r1, r2, r3, r4) := H
 have A3 := Aside0.mk A30
 clear A30
 by_cases c4 : t447 = true
 rotate_left
 ·replace c4 := Bool.eq_false_iff.mpr c4
  subst c4
  rw [if_neg (show ¬ (false = true) by decide)] at H
  simp only [Option.some.injEq, Prod.mk.injEq] at H
  obtain ⟨rfl, rfl, rfl, rfl⟩ := H
  go_enter Try.func6, Try.ntmps6
  go_wp2_with (first | ((with_reducible refine gate_dst (N := 2) rfl ?_); refine bx_ev 2 #[.slice A0_0 l0_0.length c0_0, .slice A0_1 l0_1.length c0_1, .slice A0_2 l0_2.length c0_2] 26 ?_; intro gb444 hg w64 hbox hb; have BK444 := Aside0.mk (hbox); have GW444 := gw_ hg HB; have GE444 := gw_ hg HB; replace HB := bst_ HB hb; clear hb hbox hg) | ((with_reducible refine gate_dst (N := 3) rfl ?_); refine bx_ev 3 #[.int .i64 a1_0, .int .i64 a1_1] 28 ?_; intro gb445 hg w65 hbox hb; have BK445 := Aside0.mk (hbox); have GW445 := gw_ hg HB; have GE445 := gw_ hg HB; have NB444_445 := nl_ hg BK444; have NB445_444 := ng_ hg BK444; replace BK444 := bb_ BK444 hb; replace HB := bst_ HB hb; clear hb hbox hg) | ((with_reducible refine gate_dst (N := 4) rfl ?_); refine bx_ev 4 #[.slice none 0 0, .slice none 0 0, .slice none 0 0] 26 ?_; intro gb446 hg w66 hbox hb; have BK446 := Aside0.mk (hbox); have GW446 := gw_ hg HB; have GE446 := gw_ hg HB; have NB444_446 := nl_ hg BK444; have NB446_444 := ng_ hg BK444; have NB445_446 := nl_ hg BK445; have NB446_445 := ng_ hg BK445; replace BK444 := bb_ BK444 hb; replace BK445 := bb_ BK445 hb; replace HB := bst_ HB hb; clear hb hbox hg; obtain ⟨hnb67, hnc67⟩ := nn_ NB444_445; obtain ⟨hnb68, hnc68⟩ := nn_ NB444_446; obtain ⟨hcz69_0, hcz69_1, hcz69_2⟩ := bcs3_ BK444) | ((with_reducible refine gate_dst (N := 9) rfl ?_); refine goesL_ (some 9) rfl rfl Try.func9 (by kernel_rfl) rfl #[.agg #[.slice A0_0 l0_0.length c0_0, .slice A0_1 l0_1.length c0_1, .slice A0_2 l0_2.length c0_2]] rfl tm_ ?_; (with_reducible refine (spec_GoodPair.calls k _ _ l0_0 _ _ l0_1 _ _ l0_2 false _ ?side1 ?side2 ?side3 ?side4 ?side5 ?side6 A3.out).mono ?_); (case side1 => exact cb_ HR0_0 HB); (case side2 => exact HC0_0.out); (case side3 => exact cb_ HR0_1 HB); (case side4 => exact HC0_1.out); (case side5 => exact cb_ HR0_2 HB); (case side6 => exact HC0_2.out); rintro e w70 ⟨rfl, hb⟩; refine ⟨_, rfl, ?_⟩; replace BK444 := bb_ BK444 hb; replace BK445 := bb_ BK445 hb; replace BK446 := bb_ BK446 hb; replace HB := bst_ HB hb; clear hb; obtain ⟨hnb71, hnc71⟩ := nn_ NB446_445; obtain ⟨hcz72_0, hcz72_1, hcz72_2⟩ := bcs3_ BK446; obtain ⟨hfz72_0, hfz72_1, hfz72_2⟩ := bz3_ BK446))
  refine bodyPost_ret (results_ct rfl _ _ gb446 26 #[.slice none 0 0, .slice none 0 0, .slice none 0 0] (0, 0) _ rfl (bw0_ BK446) Try.underlying26 rfl (by kernel_rfl)) rfl ?_
  exact ⟨_, _, _, rt_, by first | exact Kd.R_nil _ _ _ _ _ | exact Kd.N_nil _ _ _ _ _ | exact Kd.V_nil _ _ _ _ _ | exact Kd.Q_nil _ _ _ _ _ | exact Kd.S_nil _ _ _ _ _, by first | exact Kd.R_nil _ _ _ _ _ | exact Kd.N_nil _ _ _ _ _ | exact Kd.V_nil _ _ _ _ _ | exact Kd.Q_nil _ _ _ _ _ | exact Kd.S_nil _ _ _ _ _, by first | exact Kd.R_nil _ _ _ _ _ | exact Kd.N_nil _ _ _ _ _ | exact Kd.V_nil _ _ _ _ _ | exact Kd.Q_nil _ _ _ _ _ | exact Kd.S_nil _ _ _ _ _, hB HB⟩
 subst c4
 rw [if_pos rfl] at H
 replace H := Option.bind_eq_some_iff.mp H
 obtain ⟨⟨t448, t451, t454⟩, A50, H⟩ := H
 replace H : ((spec_l3Step.f k t448 t451 t454 a1_0 a1_1).bind fun bt457 => (if bt457.2.2.2 = true then ((spec_l3Own.f bt457.1 bt457.2.1 bt457.2.2.1).bind fun bt468 => (some (bt468.1, bt468.2.1, bt468.2.2, true))) else (some (([] : List Int), ([] : List Int), ([] : List (S36)), false)))) = some (r1, r2, r3, r4) := H
 have A5 := Aside0.mk A50
 clear A50
 replace H := Option.bind_eq_some_iff.mp H
 obtain ⟨⟨t457, t460, t463, t466⟩, A60, H⟩ := H
 replace H : (if t466 = true then ((spec_l3Own.f t457 t460 t463).bind fun bt468 => (some (bt468.1, bt468.2.1, bt468.2.2, true))) else (some (([] : List Int), ([] : List Int), ([] : List (S36)), false))) = some (r1, r2, r3, r4) := H
 have A6 := Aside0.mk A60
 clear A60
 by_cases c7 : t466 = true
 rotate_left
 ·replace c7 := Bool.eq_false_iff.mpr c7
  subst c7
  rw [if_neg (show ¬ (false = true) by decide)] at H
  simp only [Option.some.injEq, Prod.mk.injEq] at H
  obtain ⟨rfl, rfl, rfl, rfl⟩ := H
  go_enter Try.func6, Try.ntmps6
  try go_wp2_with (first | ((with_reducible refine gate_dst (N := 2) rfl ?_); refine bx_ev 2 #[.slice A0_0 l0_0.length c0_0, .slice A0_1 l0_1.length c0_1, .slice A0_2 l0_2.length c0_2] 26 ?_; intro gb444 hg w40 hbox hb; have BK444 := Aside0.mk (hbox); have GW444 := gw_ hg HB; have GE444 := gw_ hg HB; replace HB := bst_ HB hb; clear hb hbox hg) | ((with_reducible refine gate_dst (N := 3) rfl ?_); refine bx_ev 3 #[.int .i64 a1_0, .int .i64 a1_1] 28 ?_; intro gb445 hg w41 hbox hb; have BK445 := Aside0.mk (hbox); have GW445 := gw_ hg HB; have GE445 := gw_ hg HB; have NB444_445 := nl_ hg BK444; have NB445_444 := ng_ hg BK444; replace BK444 := bb_ BK444 hb; replace HB := bst_ HB hb; clear hb hbox hg) | ((with_reducible refine gate_dst (N := 4) rfl ?_); refine bx_ev 4 #[.slice none 0 0, .slice none 0 0, .slice none 0 0] 26 ?_; intro gb446 hg w42 hbox hb; have BK446 := Aside0.mk (hbox); have GW446 := gw_ hg HB; have GE446 := gw_ hg HB; have NB444_446 := nl_ hg BK444; have NB446_444 := ng_ hg BK444; have NB445_446 := nl_ hg BK445; have NB446_445 := ng_ hg BK445; replace BK444 := bb_ BK444 hb; replace BK445 := bb_ BK445 hb; replace HB := bst_ HB hb; clear hb hbox hg; obtain ⟨hnb43, hnc43⟩ := nn_ NB444_445; obtain ⟨hnb44, hnc44⟩ := nn_ NB444_446; obtain ⟨hcz45_0, hcz45_1, hcz45_2⟩ := bcs3_ BK444) | ((with_reducible refine gate_dst (N := 9) rfl ?_); refine goesL_ (some 9) rfl rfl Try.func9 (by kernel_rfl) rfl #[.agg #[.slice A0_0 l0_0.length c0_0, .slice A0_1 l0_1.length c0_1, .slice A0_2 l0_2.length c0_2]] rfl tm_ ?_; (with_reducible refine (spec_GoodPair.calls k _ _ l0_0 _ _ l0_1 _ _ l0_2 true _ ?side1 ?side2 ?side3 ?side4 ?side5 ?side6 A3.out).mono ?_); (case side1 => exact cb_ HR0_0 HB); (case side2 => exact HC0_0.out); (case side3 => exact cb_ HR0_1 HB); (case side4 => exact HC0_1.out); (case side5 => exact cb_ HR0_2 HB); (case side6 => exact HC0_2.out); rintro e w46 ⟨rfl, hb⟩; refine ⟨_, rfl, ?_⟩; replace BK444 := bb_ BK444 hb; replace BK445 := bb_ BK445 hb; replace BK446 := bb_ BK446 hb; replace HB := bst_ HB hb; clear hb))
  replace BK444 := bd_ BK444
  replace BK445 := bd_ BK445
  replace BK446 := bd_ BK446
  replace HB := Aside0.mk (below_drew1 HB.out)
  refine start_ (n := 10) (S := fun w' => w'.cell? ⟨gb444, 0, none⟩ = some (.slice A0_0 l0_0.length c0_0) ∧ w'.cell? ⟨gb444, 1, none⟩ = some (.slice A0_1 l0_1.length c0_1) ∧ w'.cell? ⟨gb444, 2, none⟩ = some (.slice A0_2 l0_2.length c0_2) ∧ w'.cell? ⟨gb445, 0, none⟩ = some (.int .i64 a1_0) ∧ w'.cell? ⟨gb445, 1, none⟩ = some (.int .i64 a1_1)) (ds := []) (bs 10 0) (by kernel_rfl) rfl rfl ⟨bc_ BK444 0, bc_ BK444 1, bc_ BK444 2, bc_ BK445 0, bc_ BK445 1⟩ (fun hHeld => ?_); refine with_tabW spec_StepPair.tab3 spec_StepPair.bits3 (fun HT_ HW_ => ?_)
  generalize w46.drew = w47 at BK444 BK445 BK446 HB hHeld ⊢
  refine tk_ 0 13 (bs 10 1) HT_ HW_ hHeld ?_
  refine tk_ 2 15 (bs 10 5) HT_ HW_ hHeld ?_
  refine join_ (σ := Value × Value × Value × Value × Value × Value × Nat) 2 (bs 10 255) (fun s_ => [(14, .agg #[s_.1, s_.2.1, s_.2.2.1]), (16, .tuple #[.agg #[s_.2.2.2.1, s_.2.2.2.2.1, s_.2.2.2.2.2.1], .bool false]), (6, .pointer (some ⟨s_.2.2.2.2.2.2, 0, none⟩)), (12, .tuple #[.agg #[s_.2.2.2.1, s_.2.2.2.2.1, s_.2.2.2.2.2.1], .bool false]), (17, .agg #[s_.2.2.2.1, s_.2.2.2.2.1, s_.2.2.2.2.2.1]), (18, .bool false)]) (fun s_ w' => (w'.cell? ⟨gb444, 0, none⟩ = some (.slice A0_0 l0_0.length c0_0) ∧ w'.cell? ⟨gb444, 1, none⟩ = some (.slice A0_1 l0_1.length c0_1) ∧ w'.cell? ⟨gb444, 2, none⟩ = some (.slice A0_2 l0_2.length c0_2) ∧ w'.cell? ⟨gb445, 0, none⟩ = some (.int .i64 a1_0) ∧ w'.cell? ⟨gb445, 1, none⟩ = some (.int .i64 a1_1)) ∧ (Kd.R (Kd.int .i64) 3 w' w.heap.size (fun k_ => no_ s_.2.2.2.2.1 k_) s_.2.2.2.1 t457) ∧ (Kd.R (Kd.int .i64) 3 w' w.heap.size (fun k_ => no_ s_.2.2.2.1 k_) s_.2.2.2.2.1 t460) ∧ (Kd.R k36 36 w' w.heap.size (fun _ => True) s_.2.2.2.2.2.1 t463) ∧ (w'.heap[gb444]? = some (.cells #[.slice A0_0 l0_0.length c0_0, .slice A0_1 l0_1.length c0_1, .slice A0_2 l0_2.length c0_2] 26 (0, 0))) ∧ (w'.heap[gb445]? = some (.cells #[.int .i64 a1_0, .int .i64 a1_1] 28 (0, 0))) ∧ (w'.heap[gb446]? = some (.cells #[.slice none 0 0, .slice none 0 0, .slice none 0 0] 26 (0, 0))) ∧ (w'.heap[s_.2.2.2.2.2.2]? = some (.cells #[.slice none 0 0, .slice none 0 0, .slice none 0 0] 26 (0, 0))) ∧ (w.heap.size ≤ s_.2.2.2.2.2.2) ∧ (w.heap.size ≤ s_.2.2.2.2.2.2) ∧ (gb444 ≠ s_.2.2.2.2.2.2) ∧ (s_.2.2.2.2.2.2 ≠ gb444) ∧ (gb445 ≠ s_.2.2.2.2.2.2) ∧ (s_.2.2.2.2.2.2 ≠ gb445) ∧ (gb446 ≠ s_.2.2.2.2.2.2) ∧ (s_.2.2.2.2.2.2 ≠ gb446) ∧ (Below w.heap.size w w')) ?_ ?_
  rotate_left
  ·intro hCont
   refine two_ (i := 1) (j := 7) (Ni := some 14) (Nj := some 6) (bs 10 7) (bs 10 133) rfl rfl rfl rfl (two_of HT_.out (by kernel_rfl)) (by decide) (by decide) (fun K hK => ?_) (fun K hK => ?_)
   rotate_left
   ·skip
    refine box_step ?hg (N := 6) ?hd (cs := #[.slice none 0 0, .slice none 0 0, .slice none 0 0]) (t := 26) ?hr ?_; (case hd => rfl); (case hg => rfl); (case hr => first | (go_simp; done) | (go_simp; rfl))
    intro gb467 hg w48 hbox hb
    have BK467 := Aside0.mk (hbox)
    have GW467 := gw_ hg HB
    have GE467 := gw_ hg HB
    have NB444_467 := nl_ hg BK444
    have NB467_444 := ng_ hg BK444
    have NB445_467 := nl_ hg BK445
    have NB467_445 := ng_ hg BK445
    have NB446_467 := nl_ hg BK446
    have NB467_446 := ng_ hg BK446
    replace BK444 := bb_ BK444 hb
    replace BK445 := bb_ BK445 hb
    replace BK446 := bb_ BK446 hb
    replace HB := bst_ HB hb
    clear hb hbox hg
    refine hK.out _ _ ⟨bc_ BK444 0, bc_ BK444 1, bc_ BK444 2, bc_ BK445 0, bc_ BK445 1⟩ (fun hHeld => ?_)
    clear hK K
    refine nm_ 6 ?_
    refine on_ 1 (some 14) (bs 10 135) HT_ (fun K hK => ?_)
    refine goes_ Try.func25 (by kernel_rfl) rfl #[.agg #[.slice A0_0 l0_0.length c0_0, .slice A0_1 l0_1.length c0_1, .slice A0_2 l0_2.length c0_2]] (by rfl) rfl rfl tm_ ?_
    with_reducible refine (spec_l3Own.calls _ _ l0_0 _ _ l0_1 _ _ l0_2 t448 t451 t454 _ ?side1 ?side2 ?side3 ?side4 ?side5 ?side6 A5.out).mono ?_
    (case side1 => exact cb_ HR0_0 HB)
    (case side2 => exact HC0_0.out)
    (case side3 => exact cb_ HR0_1 HB)
    (case side4 => exact HC0_1.out)
    (case side5 => exact cb_ HR0_2 HB)
    (case side6 => exact HC0_2.out)
    rintro e w49 ⟨v449, v452, v455, rfl, ho0, ho1, ho2, hb⟩
    refine ⟨_, rfl, ?_⟩
    have HO450 := Aside0.mk (Kd.R_lower ho0 (below_size (hB HB)))
    have HO453 := Aside0.mk (Kd.R_lower ho1 (below_size (hB HB)))
    have HO456 := Aside0.mk (Kd.R_lower ho2 (below_size (hB HB)))
    replace BK444 := bb_ BK444 hb
    replace BK445 := bb_ BK445 hb
    replace BK446 := bb_ BK446 hb
    replace BK467 := bb_ BK467 hb
    replace HB := bst_ HB hb
    clear hb ho0 ho1 ho2
    obtain ⟨Ao50, co50, eo50⟩ := Kd.R_slice HO450.out
    (first | subst eo50 | (injection eo50 with f1_ f2_ f3_; have f4_ := f1_.symm; have f5_ := f3_.symm; clear f1_ f2_ f3_; subst f4_; subst f5_))
    obtain ⟨Ao51, co51, eo51⟩ := Kd.R_slice HO453.out
    (first | subst eo51 | (injection eo51 with f1_ f2_ f3_; have f4_ := f1_.symm; have f5_ := f3_.symm; clear f1_ f2_ f3_; subst f4_; subst f5_))
    obtain ⟨Ao52, co52, eo52⟩ := Kd.R_slice HO456.out
    (first | subst eo52 | (injection eo52 with f1_ f2_ f3_; have f4_ := f1_.symm; have f5_ := f3_.symm; clear f1_ f2_ f3_; subst f4_; subst f5_))
    refine hK.out _ _ ⟨bc_ BK444 0, bc_ BK444 1, bc_ BK444 2, bc_ BK445 0, bc_ BK445 1⟩ (fun hHeld => ?_)
    clear hK K
    refine nm_ 14 ?_
    refine on_ 3 (some 16) (bs 10 143) HT_ (fun K hK => ?_)
    refine goes_ Try.func24 (by kernel_rfl) rfl #[.agg #[.slice Ao50 t448.length co50, .slice Ao51 t451.length co51, .slice Ao52 t454.length co52], .agg #[.int .i64 a1_0, .int .i64 a1_1]] (by rfl) rfl rfl tm_ ?_
    with_reducible refine (spec_l3Step.calls k (fun k_ => some k_ = (.slice Ao50 t448.length co50 : Value).ownBlock) (.slice Ao50 t448.length co50) t448 (fun k_ => some k_ = (.slice Ao51 t451.length co51 : Value).ownBlock) (.slice Ao51 t451.length co51) t451 (fun k_ => some k_ = (.slice Ao52 t454.length co52 : Value).ownBlock) (.slice Ao52 t454.length co52) t454 a1_0 a1_1 t457 t460 t463 false w _ ?side1 ?side2 ?side3 ?side4 ?side5 ?side6 A6.out).mono ?_
    (case side1 => exact hB HB)
    (case side2 => exact Kd.R_tight rfl HO450.out)
    (case side3 => exact fun k_ e_ => (HO450.out.1 k_ e_.symm))
    (case side4 => exact Kd.R_tight rfl HO453.out)
    (case side5 => exact fun k_ e_ => (HO453.out.1 k_ e_.symm))
    (case side6 => exact Kd.R_tight rfl HO456.out)
    rintro e w53 ⟨v458, v461, v464, rfl, ho0, ho1, ho2, hb, hkp⟩
    refine ⟨_, rfl, ?_⟩
    have HO459 := Aside0.mk (Kd.R_mono (ok' := fun k_ => no_ v461 k_) ho0 (fun k_ hk_ => hk_.2))
    have HO462 := Aside0.mk (Kd.R_mono (ok' := fun k_ => no_ v458 k_) ho1 (fun k_ hk_ => hk_.2))
    have HO465 := Aside0.mk (Kd.R_mono (ok' := fun k_ => True) ho2 (fun k_ hk_ => trivial))
    replace BK444 := Aside0.mk (blk_kept (ba BK444.out) hkp (fun hs_ => Or.elim hs_ (kne_ HO450 BK444) (fun e_ => Or.elim e_ (kne_ HO453 BK444) (kne_ HO456 BK444))))
    replace BK445 := Aside0.mk (blk_kept (ba BK445.out) hkp (fun hs_ => Or.elim hs_ (kne_ HO450 BK445) (fun e_ => Or.elim e_ (kne_ HO453 BK445) (kne_ HO456 BK445))))
    replace BK446 := Aside0.mk (blk_kept (ba BK446.out) hkp (fun hs_ => Or.elim hs_ (kne_ HO450 BK446) (fun e_ => Or.elim e_ (kne_ HO453 BK446) (kne_ HO456 BK446))))
    replace BK467 := Aside0.mk (blk_kept (ba BK467.out) hkp (fun hs_ => Or.elim hs_ (kne_ HO450 BK467) (fun e_ => Or.elim e_ (kne_ HO453 BK467) (kne_ HO456 BK467))))
    replace HB := Aside0.mk (hb)
    clear HO450 HO453 HO456
    clear hb ho0 ho1 ho2
    refine hK.out _ _ ⟨bc_ BK444 0, bc_ BK444 1, bc_ BK444 2, bc_ BK445 0, bc_ BK445 1⟩ (fun hHeld => ?_)
    clear hK K
    refine nm_ 16 ?_
    refine pu_ 4 12 (bs 10 159) HT_ ?_
    refine pu_ 5 17 (bs 10 191) HT_ ?_
    refine pu_ 6 18 (bs 10 255) HT_ ?_
    exact norm_ (by simp only [putAll, Act.put, List.setIfInBounds_toArray, List.set_cons_zero, List.set_cons_succ]) (hCont (.slice Ao50 t448.length co50, .slice Ao51 t451.length co51, .slice Ao52 t454.length co52, v458, v461, v464, gb467) _ ⟨hHeld, (ra HO459.out), (ra HO462.out), (ra HO465.out), (ba BK444.out), (ba BK445.out), (ba BK446.out), (ba BK467.out), GW467.out, GE467.out, NB444_467.out, NB467_444.out, NB445_467.out, NB467_445.out, NB446_467.out, NB467_446.out, (hB HB)⟩)
   skip
   refine goes_ Try.func25 (by kernel_rfl) rfl #[.agg #[.slice A0_0 l0_0.length c0_0, .slice A0_1 l0_1.length c0_1, .slice A0_2 l0_2.length c0_2]] (by rfl) rfl rfl tm_ ?_
   with_reducible refine (spec_l3Own.calls _ _ l0_0 _ _ l0_1 _ _ l0_2 t448 t451 t454 _ ?side1 ?side2 ?side3 ?side4 ?side5 ?side6 A5.out).mono ?_
   (case side1 => exact cb_ HR0_0 HB)
   (case side2 => exact HC0_0.out)
   (case side3 => exact cb_ HR0_1 HB)
   (case side4 => exact HC0_1.out)
   (case side5 => exact cb_ HR0_2 HB)
   (case side6 => exact HC0_2.out)
   rintro e w48 ⟨v449, v452, v455, rfl, ho0, ho1, ho2, hb⟩
   refine ⟨_, rfl, ?_⟩
   have HO450 := Aside0.mk (Kd.R_lower ho0 (below_size (hB HB)))
   have HO453 := Aside0.mk (Kd.R_lower ho1 (below_size (hB HB)))
   have HO456 := Aside0.mk (Kd.R_lower ho2 (below_size (hB HB)))
   replace BK444 := bb_ BK444 hb
   replace BK445 := bb_ BK445 hb
   replace BK446 := bb_ BK446 hb
   replace HB := bst_ HB hb
   clear hb ho0 ho1 ho2
   obtain ⟨Ao49, co49, eo49⟩ := Kd.R_slice HO450.out
   (first | subst eo49 | (injection eo49 with f1_ f2_ f3_; have f4_ := f1_.symm; have f5_ := f3_.symm; clear f1_ f2_ f3_; subst f4_; subst f5_))
   obtain ⟨Ao50, co50, eo50⟩ := Kd.R_slice HO453.out
   (first | subst eo50 | (injection eo50 with f1_ f2_ f3_; have f4_ := f1_.symm; have f5_ := f3_.symm; clear f1_ f2_ f3_; subst f4_; subst f5_))
   obtain ⟨Ao51, co51, eo51⟩ := Kd.R_slice HO456.out
   (first | subst eo51 | (injection eo51 with f1_ f2_ f3_; have f4_ := f1_.symm; have f5_ := f3_.symm; clear f1_ f2_ f3_; subst f4_; subst f5_))
   refine hK.out _ _ ⟨bc_ BK444 0, bc_ BK444 1, bc_ BK444 2, bc_ BK445 0, bc_ BK445 1⟩ (fun hHeld => ?_)
   clear hK K
   refine nm_ 14 ?_
   refine two_ (i := 3) (j := 7) (Ni := some 16) (Nj := some 6) (bs 10 15) (bs 10 135) rfl rfl rfl rfl (two_of HT_.out (by kernel_rfl)) (by decide) (by decide) (fun K hK => ?_) (fun K hK => ?_)
   ·skip
    refine goes_ Try.func24 (by kernel_rfl) rfl #[.agg #[.slice Ao49 t448.length co49, .slice Ao50 t451.length co50, .slice Ao51 t454.length co51], .agg #[.int .i64 a1_0, .int .i64 a1_1]] (by rfl) rfl rfl tm_ ?_
    with_reducible refine (spec_l3Step.calls k (fun k_ => some k_ = (.slice Ao49 t448.length co49 : Value).ownBlock) (.slice Ao49 t448.length co49) t448 (fun k_ => some k_ = (.slice Ao50 t451.length co50 : Value).ownBlock) (.slice Ao50 t451.length co50) t451 (fun k_ => some k_ = (.slice Ao51 t454.length co51 : Value).ownBlock) (.slice Ao51 t454.length co51) t454 a1_0 a1_1 t457 t460 t463 false w _ ?side1 ?side2 ?side3 ?side4 ?side5 ?side6 A6.out).mono ?_
    (case side1 => exact hB HB)
    (case side2 => exact Kd.R_tight rfl HO450.out)
    (case side3 => exact fun k_ e_ => (HO450.out.1 k_ e_.symm))
    (case side4 => exact Kd.R_tight rfl HO453.out)
    (case side5 => exact fun k_ e_ => (HO453.out.1 k_ e_.symm))
    (case side6 => exact Kd.R_tight rfl HO456.out)
    rintro e w52 ⟨v458, v461, v464, rfl, ho0, ho1, ho2, hb, hkp⟩
    refine ⟨_, rfl, ?_⟩
    have HO459 := Aside0.mk (Kd.R_mono (ok' := fun k_ => no_ v461 k_) ho0 (fun k_ hk_ => hk_.2))
    have HO462 := Aside0.mk (Kd.R_mono (ok' := fun k_ => no_ v458 k_) ho1 (fun k_ hk_ => hk_.2))
    have HO465 := Aside0.mk (Kd.R_mono (ok' := fun k_ => True) ho2 (fun k_ hk_ => trivial))
    replace BK444 := Aside0.mk (blk_kept (ba BK444.out) hkp (fun hs_ => Or.elim hs_ (kne_ HO450 BK444) (fun e_ => Or.elim e_ (kne_ HO453 BK444) (kne_ HO456 BK444))))
    replace BK445 := Aside0.mk (blk_kept (ba BK445.out) hkp (fun hs_ => Or.elim hs_ (kne_ HO450 BK445) (fun e_ => Or.elim e_ (kne_ HO453 BK445) (kne_ HO456 BK445))))
    replace BK446 := Aside0.mk (blk_kept (ba BK446.out) hkp (fun hs_ => Or.elim hs_ (kne_ HO450 BK446) (fun e_ => Or.elim e_ (kne_ HO453 BK446) (kne_ HO456 BK446))))
    replace HB := Aside0.mk (hb)
    clear HO450 HO453 HO456
    clear hb ho0 ho1 ho2
    refine hK.out _ _ ⟨bc_ BK444 0, bc_ BK444 1, bc_ BK444 2, bc_ BK445 0, bc_ BK445 1⟩ (fun hHeld => ?_)
    clear hK K
    refine nm_ 16 ?_
    refine pu_ 4 12 (bs 10 31) HT_ ?_
    refine pu_ 5 17 (bs 10 63) HT_ ?_
    refine pu_ 6 18 (bs 10 127) HT_ ?_
    refine on_ 7 (some 6) (bs 10 255) HT_ (fun K hK => ?_)
    refine box_step ?hg (N := 6) ?hd (cs := #[.slice none 0 0, .slice none 0 0, .slice none 0 0]) (t := 26) ?hr ?_; (case hd => rfl); (case hg => rfl); (case hr => first | (go_simp; done) | (go_simp; rfl))
    intro gb467 hg w53 hbox hb
    have BK467 := Aside0.mk (hbox)
    have GW467 := gw_ hg HB
    have GE467 := gw_ hg HB
    have NB444_467 := nl_ hg BK444
    have NB467_444 := ng_ hg BK444
    have NB445_467 := nl_ hg BK445
    have NB467_445 := ng_ hg BK445
    have NB446_467 := nl_ hg BK446
    have NB467_446 := ng_ hg BK446
    replace HO459 := rb_ HO459 hb
    replace HO462 := rb_ HO462 hb
    replace HO465 := rb_ HO465 hb
    replace BK444 := bb_ BK444 hb
    replace BK445 := bb_ BK445 hb
    replace BK446 := bb_ BK446 hb
    replace HB := bst_ HB hb
    clear hb hbox hg
    refine hK.out _ _ ⟨bc_ BK444 0, bc_ BK444 1, bc_ BK444 2, bc_ BK445 0, bc_ BK445 1⟩ (fun hHeld => ?_)
    clear hK K
    refine nm_ 6 ?_
    exact norm_ (by simp only [putAll, Act.put, List.setIfInBounds_toArray, List.set_cons_zero, List.set_cons_succ]) (hCont (.slice Ao49 t448.length co49, .slice Ao50 t451.length co50, .slice Ao51 t454.length co51, v458, v461, v464, gb467) _ ⟨hHeld, (ra HO459.out), (ra HO462.out), (ra HO465.out), (ba BK444.out), (ba BK445.out), (ba BK446.out), (ba BK467.out), GW467.out, GE467.out, NB444_467.out, NB467_444.out, NB445_467.out, NB467_445.out, NB446_467.out, NB467_446.out, (hB HB)⟩)
   skip
   refine box_step ?hg (N := 6) ?hd (cs := #[.slice none 0 0, .slice none 0 0, .slice none 0 0]) (t := 26) ?hr ?_; (case hd => rfl); (case hg => rfl); (case hr => first | (go_simp; done) | (go_simp; rfl))
   intro gb467 hg w49 hbox hb
   have BK467 := Aside0.mk (hbox)
   have GW467 := gw_ hg HB
   have GE467 := gw_ hg HB
   have NB444_467 := nl_ hg BK444
   have NB467_444 := ng_ hg BK444
   have NB445_467 := nl_ hg BK445
   have NB467_445 := ng_ hg BK445
   have NB446_467 := nl_ hg BK446
   have NB467_446 := ng_ hg BK446
   replace HO450 := rb_ HO450 hb
   replace HO453 := rb_ HO453 hb
   replace HO456 := rb_ HO456 hb
   replace BK444 := bb_ BK444 hb
   replace BK445 := bb_ BK445 hb
   replace BK446 := bb_ BK446 hb
   replace HB := bst_ HB hb
   clear hb hbox hg
   obtain ⟨Ao50, co50, eo50⟩ := Kd.R_slice HO450.out
   (first | subst eo50 | (injection eo50 with f1_ f2_ f3_; have f4_ := f1_.symm; have f5_ := f3_.symm; clear f1_ f2_ f3_; subst f4_; subst f5_))
   obtain ⟨Ao51, co51, eo51⟩ := Kd.R_slice HO453.out
   (first | subst eo51 | (injection eo51 with f1_ f2_ f3_; have f4_ := f1_.symm; have f5_ := f3_.symm; clear f1_ f2_ f3_; subst f4_; subst f5_))
   obtain ⟨Ao52, co52, eo52⟩ := Kd.R_slice HO456.out
   (first | subst eo52 | (injection eo52 with f1_ f2_ f3_; have f4_ := f1_.symm; have f5_ := f3_.symm; clear f1_ f2_ f3_; subst f4_; subst f5_))
   refine hK.out _ _ ⟨bc_ BK444 0, bc_ BK444 1, bc_ BK444 2, bc_ BK445 0, bc_ BK445 1⟩ (fun hHeld => ?_)
   clear hK K
   refine nm_ 6 ?_
   refine on_ 3 (some 16) (bs 10 143) HT_ (fun K hK => ?_)
   refine goes_ Try.func24 (by kernel_rfl) rfl #[.agg #[.slice Ao50 t448.length co50, .slice Ao51 t451.length co51, .slice Ao52 t454.length co52], .agg #[.int .i64 a1_0, .int .i64 a1_1]] (by rfl) rfl rfl tm_ ?_
   with_reducible refine (spec_l3Step.calls k (fun k_ => some k_ = (.slice Ao50 t448.length co50 : Value).ownBlock) (.slice Ao50 t448.length co50) t448 (fun k_ => some k_ = (.slice Ao51 t451.length co51 : Value).ownBlock) (.slice Ao51 t451.length co51) t451 (fun k_ => some k_ = (.slice Ao52 t454.length co52 : Value).ownBlock) (.slice Ao52 t454.length co52) t454 a1_0 a1_1 t457 t460 t463 false w _ ?side1 ?side2 ?side3 ?side4 ?side5 ?side6 A6.out).mono ?_
   (case side1 => exact hB HB)
   (case side2 => exact Kd.R_tight rfl HO450.out)
   (case side3 => exact fun k_ e_ => (HO450.out.1 k_ e_.symm))
   (case side4 => exact Kd.R_tight rfl HO453.out)
   (case side5 => exact fun k_ e_ => (HO453.out.1 k_ e_.symm))
   (case side6 => exact Kd.R_tight rfl HO456.out)
   rintro e w53 ⟨v458, v461, v464, rfl, ho0, ho1, ho2, hb, hkp⟩
   refine ⟨_, rfl, ?_⟩
   have HO459 := Aside0.mk (Kd.R_mono (ok' := fun k_ => no_ v461 k_) ho0 (fun k_ hk_ => hk_.2))
   have HO462 := Aside0.mk (Kd.R_mono (ok' := fun k_ => no_ v458 k_) ho1 (fun k_ hk_ => hk_.2))
   have HO465 := Aside0.mk (Kd.R_mono (ok' := fun k_ => True) ho2 (fun k_ hk_ => trivial))
   replace BK444 := Aside0.mk (blk_kept (ba BK444.out) hkp (fun hs_ => Or.elim hs_ (kne_ HO450 BK444) (fun e_ => Or.elim e_ (kne_ HO453 BK444) (kne_ HO456 BK444))))
   replace BK445 := Aside0.mk (blk_kept (ba BK445.out) hkp (fun hs_ => Or.elim hs_ (kne_ HO450 BK445) (fun e_ => Or.elim e_ (kne_ HO453 BK445) (kne_ HO456 BK445))))
   replace BK446 := Aside0.mk (blk_kept (ba BK446.out) hkp (fun hs_ => Or.elim hs_ (kne_ HO450 BK446) (fun e_ => Or.elim e_ (kne_ HO453 BK446) (kne_ HO456 BK446))))
   replace BK467 := Aside0.mk (blk_kept (ba BK467.out) hkp (fun hs_ => Or.elim hs_ (kne_ HO450 BK467) (fun e_ => Or.elim e_ (kne_ HO453 BK467) (kne_ HO456 BK467))))
   replace HB := Aside0.mk (hb)
   clear HO450 HO453 HO456
   clear hb ho0 ho1 ho2
   refine hK.out _ _ ⟨bc_ BK444 0, bc_ BK444 1, bc_ BK444 2, bc_ BK445 0, bc_ BK445 1⟩ (fun hHeld => ?_)
   clear hK K
   refine nm_ 16 ?_
   refine pu_ 4 12 (bs 10 159) HT_ ?_
   refine pu_ 5 17 (bs 10 191) HT_ ?_
   refine pu_ 6 18 (bs 10 255) HT_ ?_
   exact norm_ (by simp only [putAll, Act.put, List.setIfInBounds_toArray, List.set_cons_zero, List.set_cons_succ]) (hCont (.slice Ao50 t448.length co50, .slice Ao51 t451.length co51, .slice Ao52 t454.length co52, v458, v461, v464, gb467) _ ⟨hHeld, (ra HO459.out), (ra HO462.out), (ra HO465.out), (ba BK444.out), (ba BK445.out), (ba BK446.out), (ba BK467.out), GW467.out, GE467.out, NB444_467.out, NB467_444.out, NB445_467.out, NB467_445.out, NB446_467.out, NB467_446.out, (hB HB)⟩)
  rintro ⟨v449, v452, v455, v458, v461, v464, gb467⟩ w54 ⟨hS_, h0_, h1_, h2_, h3_, h4_, h5_, h6_, h7_, h8_, h9_, h10_, h11_, h12_, h13_, h14_, h15_⟩
  try dsimp only at h0_ h1_ h2_ h3_ h4_ h5_ h6_ h7_ h8_ h9_ h10_ h11_ h12_ h13_ h14_ h15_
  have HO459 := Aside0.mk h0_
  have HO462 := Aside0.mk h1_
  have HO465 := Aside0.mk h2_
  have BK467 := Aside0.mk h6_
  have GW467 := Aside0.mk h7_
  have GE467 := Aside0.mk h8_
  have NB444_467 := Aside0.mk h9_
  have NB467_444 := Aside0.mk h10_
  have NB445_467 := Aside0.mk h11_
  have NB467_445 := Aside0.mk h12_
  have NB446_467 := Aside0.mk h13_
  have NB467_446 := Aside0.mk h14_
  replace BK444 := Aside0.mk h3_
  replace BK445 := Aside0.mk h4_
  replace BK446 := Aside0.mk h5_
  replace HB := Aside0.mk h15_
  clear h0_ h1_ h2_ h3_ h4_ h5_ h6_ h7_ h8_ h9_ h10_ h11_ h12_ h13_ h14_ h15_
  have hHeld : w54.cell? ⟨gb444, 0, none⟩ = some (.slice A0_0 l0_0.length c0_0) ∧ w54.cell? ⟨gb444, 1, none⟩ = some (.slice A0_1 l0_1.length c0_1) ∧ w54.cell? ⟨gb444, 2, none⟩ = some (.slice A0_2 l0_2.length c0_2) ∧ w54.cell? ⟨gb445, 0, none⟩ = some (.int .i64 a1_0) ∧ w54.cell? ⟨gb445, 1, none⟩ = some (.int .i64 a1_1) := hS_
  obtain ⟨Ao55, co55, eo55⟩ := Kd.R_slice HO459.out
  (first | subst eo55 | (injection eo55 with f1_ f2_ f3_; have f4_ := f1_.symm; have f5_ := f3_.symm; clear f1_ f2_ f3_; subst f4_; subst f5_))
  obtain ⟨Ao57, co57, eo57⟩ := Kd.R_slice HO462.out
  (first | subst eo57 | (injection eo57 with f1_ f2_ f3_; have f4_ := f1_.symm; have f5_ := f3_.symm; clear f1_ f2_ f3_; subst f4_; subst f5_))
  obtain ⟨Ao59, co59, eo59⟩ := Kd.R_slice HO465.out
  (first | subst eo59 | (injection eo59 with f1_ f2_ f3_; have f4_ := f1_.symm; have f5_ := f3_.symm; clear f1_ f2_ f3_; subst f4_; subst f5_))
  refine norm_ (a' := ?_) ?_ ?_
  rotate_left
  ·simp only [putAll, Act.put, List.setIfInBounds_toArray, List.set_cons_zero, List.set_cons_succ]
   rfl
  refine on_ 8 (none) (bs 10 511) HT_ (fun K hK => ?_)
  have hs56 : w54.cell? ⟨gb467, 0, none⟩ = some (.slice none 0 0) := bc_ BK467 0
  have hfs56 := bz_ BK467 0
  have hns56_0 := NB444_467.out
  have hns56_1 := NB445_467.out
  have hns56_2 := NB446_467.out
  have hms56_0 := NB467_444.out
  have hms56_1 := NB467_445.out
  have hms56_2 := NB467_446.out
  have hs58 : w54.cell? ⟨gb467, 1, none⟩ = some (.slice none 0 0) := bc_ BK467 1
  have hfs58 := bz_ BK467 1
  have hns58_0 := NB444_467.out
  have hns58_1 := NB445_467.out
  have hns58_2 := NB446_467.out
  have hms58_0 := NB467_444.out
  have hms58_1 := NB467_445.out
  have hms58_2 := NB467_446.out
  have hs60 : w54.cell? ⟨gb467, 2, none⟩ = some (.slice none 0 0) := bc_ BK467 2
  have hfs60 := bz_ BK467 2
  have hns60_0 := NB444_467.out
  have hns60_1 := NB445_467.out
  have hns60_2 := NB446_467.out
  have hms60_0 := NB467_444.out
  have hms60_1 := NB467_445.out
  have hms60_2 := NB467_446.out
  refine skip_ (w1 := ?_) (by rfl) rfl ?_ ?_
  rotate_left
  ·go_simp
   rfl
  refine hK.out _ _ ⟨((cell_far (p := ⟨gb467, _, none⟩) NB444_467.out _).trans (((cell_far (p := ⟨gb467, _, none⟩) NB444_467.out _).trans (((cell_far (p := ⟨gb467, _, none⟩) NB444_467.out _).trans (hHeld.1)))))), ((cell_far (p := ⟨gb467, _, none⟩) NB444_467.out _).trans (((cell_far (p := ⟨gb467, _, none⟩) NB444_467.out _).trans (((cell_far (p := ⟨gb467, _, none⟩) NB444_467.out _).trans (hHeld.2.1)))))), ((cell_far (p := ⟨gb467, _, none⟩) NB444_467.out _).trans (((cell_far (p := ⟨gb467, _, none⟩) NB444_467.out _).trans (((cell_far (p := ⟨gb467, _, none⟩) NB444_467.out _).trans (hHeld.2.2.1)))))), ((cell_far (p := ⟨gb467, _, none⟩) NB445_467.out _).trans (((cell_far (p := ⟨gb467, _, none⟩) NB445_467.out _).trans (((cell_far (p := ⟨gb467, _, none⟩) NB445_467.out _).trans (hHeld.2.2.2.1)))))), ((cell_far (p := ⟨gb467, _, none⟩) NB445_467.out _).trans (((cell_far (p := ⟨gb467, _, none⟩) NB445_467.out _).trans (((cell_far (p := ⟨gb467, _, none⟩) NB445_467.out _).trans (hHeld.2.2.2.2))))))⟩ (fun hHeld => ?_)
  clear hK K
  refine pu_ 9 7 (bs 10 1023) HT_ ?_
  refine done_ (done_of HT_.out (by kernel_rfl)) ?_
  obtain ⟨hnb61, hnc61⟩ := nn_ NB446_445
  obtain ⟨hnb62, hnc62⟩ := nn_ NB446_467
  obtain ⟨hcz63_0, hcz63_1, hcz63_2⟩ := bcs3_ BK446
  obtain ⟨hfz63_0, hfz63_1, hfz63_2⟩ := bz3_ BK446
  try go_wp2
  refine bodyPost_ret (results_ct rfl _ _ gb446 26 #[.slice none 0 0, .slice none 0 0, .slice none 0 0] (0, 0) _ rfl (bw1_ BK446 NB446_467) Try.underlying26 rfl (by kernel_rfl)) rfl ?_
  exact ⟨_, _, _, rt_, by first | exact Kd.R_nil _ _ _ _ _ | exact Kd.N_nil _ _ _ _ _ | exact Kd.V_nil _ _ _ _ _ | exact Kd.Q_nil _ _ _ _ _ | exact Kd.S_nil _ _ _ _ _, by first | exact Kd.R_nil _ _ _ _ _ | exact Kd.N_nil _ _ _ _ _ | exact Kd.V_nil _ _ _ _ _ | exact Kd.Q_nil _ _ _ _ _ | exact Kd.S_nil _ _ _ _ _, by first | exact Kd.R_nil _ _ _ _ _ | exact Kd.N_nil _ _ _ _ _ | exact Kd.V_nil _ _ _ _ _ | exact Kd.Q_nil _ _ _ _ _ | exact Kd.S_nil _ _ _ _ _, hB HB⟩
 subst c7
 rw [if_pos rfl] at H
 replace H := Option.bind_eq_some_iff.mp H
 obtain ⟨⟨t468, t471, t474⟩, A80, H⟩ := H
 replace H : (some (t468, t471, t474, true)) = some (r1, r2, r3, r4) := H
 have A8 := Aside0.mk A80
 clear A80
 simp only [Option.some.injEq, Prod.mk.injEq] at H
 obtain ⟨rfl, rfl, rfl, rfl⟩ := H
 go_enter Try.func6, Try.ntmps6
 try go_wp2_with (first | ((with_reducible refine gate_dst (N := 2) rfl ?_); refine bx_ev 2 #[.slice A0_0 l0_0.length c0_0, .slice A0_1 l0_1.length c0_1, .slice A0_2 l0_2.length c0_2] 26 ?_; intro gb444 hg w9 hbox hb; have BK444 := Aside0.mk (hbox); have GW444 := gw_ hg HB; have GE444 := gw_ hg HB; replace HB := bst_ HB hb; clear hb hbox hg) | ((with_reducible refine gate_dst (N := 3) rfl ?_); refine bx_ev 3 #[.int .i64 a1_0, .int .i64 a1_1] 28 ?_; intro gb445 hg w10 hbox hb; have BK445 := Aside0.mk (hbox); have GW445 := gw_ hg HB; have GE445 := gw_ hg HB; have NB444_445 := nl_ hg BK444; have NB445_444 := ng_ hg BK444; replace BK444 := bb_ BK444 hb; replace HB := bst_ HB hb; clear hb hbox hg) | ((with_reducible refine gate_dst (N := 4) rfl ?_); refine bx_ev 4 #[.slice none 0 0, .slice none 0 0, .slice none 0 0] 26 ?_; intro gb446 hg w11 hbox hb; have BK446 := Aside0.mk (hbox); have GW446 := gw_ hg HB; have GE446 := gw_ hg HB; have NB444_446 := nl_ hg BK444; have NB446_444 := ng_ hg BK444; have NB445_446 := nl_ hg BK445; have NB446_445 := ng_ hg BK445; replace BK444 := bb_ BK444 hb; replace BK445 := bb_ BK445 hb; replace HB := bst_ HB hb; clear hb hbox hg; obtain ⟨hnb12, hnc12⟩ := nn_ NB444_445; obtain ⟨hnb13, hnc13⟩ := nn_ NB444_446; obtain ⟨hcz14_0, hcz14_1, hcz14_2⟩ := bcs3_ BK444) | ((with_reducible refine gate_dst (N := 9) rfl ?_); refine goesL_ (some 9) rfl rfl Try.func9 (by kernel_rfl) rfl #[.agg #[.slice A0_0 l0_0.length c0_0, .slice A0_1 l0_1.length c0_1, .slice A0_2 l0_2.length c0_2]] rfl tm_ ?_; (with_reducible refine (spec_GoodPair.calls k _ _ l0_0 _ _ l0_1 _ _ l0_2 true _ ?side1 ?side2 ?side3 ?side4 ?side5 ?side6 A3.out).mono ?_); (case side1 => exact cb_ HR0_0 HB); (case side2 => exact HC0_0.out); (case side3 => exact cb_ HR0_1 HB); (case side4 => exact HC0_1.out); (case side5 => exact cb_ HR0_2 HB); (case side6 => exact HC0_2.out); rintro e w15 ⟨rfl, hb⟩; refine ⟨_, rfl, ?_⟩; replace BK444 := bb_ BK444 hb; replace BK445 := bb_ BK445 hb; replace BK446 := bb_ BK446 hb; replace HB := bst_ HB hb; clear hb))
 replace BK444 := bd_ BK444
 replace BK445 := bd_ BK445
 replace BK446 := bd_ BK446
 replace HB := Aside0.mk (below_drew1 HB.out)
 refine start_ (n := 10) (S := fun w' => w'.cell? ⟨gb444, 0, none⟩ = some (.slice A0_0 l0_0.length c0_0) ∧ w'.cell? ⟨gb444, 1, none⟩ = some (.slice A0_1 l0_1.length c0_1) ∧ w'.cell? ⟨gb444, 2, none⟩ = some (.slice A0_2 l0_2.length c0_2) ∧ w'.cell? ⟨gb445, 0, none⟩ = some (.int .i64 a1_0) ∧ w'.cell? ⟨gb445, 1, none⟩ = some (.int .i64 a1_1)) (ds := []) (bs 10 0) (by kernel_rfl) rfl rfl ⟨bc_ BK444 0, bc_ BK444 1, bc_ BK444 2, bc_ BK445 0, bc_ BK445 1⟩ (fun hHeld => ?_); refine with_tabW spec_StepPair.tab3 spec_StepPair.bits3 (fun HT_ HW_ => ?_)
 generalize w15.drew = w16 at BK444 BK445 BK446 HB hHeld ⊢
 refine tk_ 0 13 (bs 10 1) HT_ HW_ hHeld ?_
 refine tk_ 2 15 (bs 10 5) HT_ HW_ hHeld ?_
 refine join_ (σ := Value × Value × Value × Value × Value × Value × Nat) 2 (bs 10 255) (fun s_ => [(14, .agg #[s_.1, s_.2.1, s_.2.2.1]), (16, .tuple #[.agg #[s_.2.2.2.1, s_.2.2.2.2.1, s_.2.2.2.2.2.1], .bool true]), (6, .pointer (some ⟨s_.2.2.2.2.2.2, 0, none⟩)), (12, .tuple #[.agg #[s_.2.2.2.1, s_.2.2.2.2.1, s_.2.2.2.2.2.1], .bool true]), (17, .agg #[s_.2.2.2.1, s_.2.2.2.2.1, s_.2.2.2.2.2.1]), (18, .bool true)]) (fun s_ w' => (w'.cell? ⟨gb444, 0, none⟩ = some (.slice A0_0 l0_0.length c0_0) ∧ w'.cell? ⟨gb444, 1, none⟩ = some (.slice A0_1 l0_1.length c0_1) ∧ w'.cell? ⟨gb444, 2, none⟩ = some (.slice A0_2 l0_2.length c0_2) ∧ w'.cell? ⟨gb445, 0, none⟩ = some (.int .i64 a1_0) ∧ w'.cell? ⟨gb445, 1, none⟩ = some (.int .i64 a1_1)) ∧ (Kd.R (Kd.int .i64) 3 w' w.heap.size (fun k_ => no_ s_.2.2.2.2.1 k_) s_.2.2.2.1 t457) ∧ (Kd.R (Kd.int .i64) 3 w' w.heap.size (fun k_ => no_ s_.2.2.2.1 k_) s_.2.2.2.2.1 t460) ∧ (Kd.R k36 36 w' w.heap.size (fun _ => True) s_.2.2.2.2.2.1 t463) ∧ (w'.heap[gb444]? = some (.cells #[.slice A0_0 l0_0.length c0_0, .slice A0_1 l0_1.length c0_1, .slice A0_2 l0_2.length c0_2] 26 (0, 0))) ∧ (w'.heap[gb445]? = some (.cells #[.int .i64 a1_0, .int .i64 a1_1] 28 (0, 0))) ∧ (w'.heap[gb446]? = some (.cells #[.slice none 0 0, .slice none 0 0, .slice none 0 0] 26 (0, 0))) ∧ (w'.heap[s_.2.2.2.2.2.2]? = some (.cells #[.slice none 0 0, .slice none 0 0, .slice none 0 0] 26 (0, 0))) ∧ (w.heap.size ≤ s_.2.2.2.2.2.2) ∧ (w.heap.size ≤ s_.2.2.2.2.2.2) ∧ (gb444 ≠ s_.2.2.2.2.2.2) ∧ (s_.2.2.2.2.2.2 ≠ gb444) ∧ (gb445 ≠ s_.2.2.2.2.2.2) ∧ (s_.2.2.2.2.2.2 ≠ gb445) ∧ (gb446 ≠ s_.2.2.2.2.2.2) ∧ (s_.2.2.2.2.2.2 ≠ gb446) ∧ (Below w.heap.size w w')) ?_ ?_
 rotate_left
 ·intro hCont
  refine two_ (i := 1) (j := 7) (Ni := some 14) (Nj := some 6) (bs 10 7) (bs 10 133) rfl rfl rfl rfl (two_of HT_.out (by kernel_rfl)) (by decide) (by decide) (fun K hK => ?_) (fun K hK => ?_)
  rotate_left
  ·skip
   refine box_step ?hg (N := 6) ?hd (cs := #[.slice none 0 0, .slice none 0 0, .slice none 0 0]) (t := 26) ?hr ?_; (case hd => rfl); (case hg => rfl); (case hr => first | (go_simp; done) | (go_simp; rfl))
   intro gb467 hg w17 hbox hb
   have BK467 := Aside0.mk (hbox)
   have GW467 := gw_ hg HB
   have GE467 := gw_ hg HB
   have NB444_467 := nl_ hg BK444
   have NB467_444 := ng_ hg BK444
   have NB445_467 := nl_ hg BK445
   have NB467_445 := ng_ hg BK445
   have NB446_467 := nl_ hg BK446
   have NB467_446 := ng_ hg BK446
   replace BK444 := bb_ BK444 hb
   replace BK445 := bb_ BK445 hb
   replace BK446 := bb_ BK446 hb
   replace HB := bst_ HB hb
   clear hb hbox hg
   refine hK.out _ _ ⟨bc_ BK444 0, bc_ BK444 1, bc_ BK444 2, bc_ BK445 0, bc_ BK445 1⟩ (fun hHeld => ?_)
   clear hK K
   refine nm_ 6 ?_
   refine on_ 1 (some 14) (bs 10 135) HT_ (fun K hK => ?_)
   refine goes_ Try.func25 (by kernel_rfl) rfl #[.agg #[.slice A0_0 l0_0.length c0_0, .slice A0_1 l0_1.length c0_1, .slice A0_2 l0_2.length c0_2]] (by rfl) rfl rfl tm_ ?_
   with_reducible refine (spec_l3Own.calls _ _ l0_0 _ _ l0_1 _ _ l0_2 t448 t451 t454 _ ?side1 ?side2 ?side3 ?side4 ?side5 ?side6 A5.out).mono ?_
   (case side1 => exact cb_ HR0_0 HB)
   (case side2 => exact HC0_0.out)
   (case side3 => exact cb_ HR0_1 HB)
   (case side4 => exact HC0_1.out)
   (case side5 => exact cb_ HR0_2 HB)
   (case side6 => exact HC0_2.out)
   rintro e w18 ⟨v449, v452, v455, rfl, ho0, ho1, ho2, hb⟩
   refine ⟨_, rfl, ?_⟩
   have HO450 := Aside0.mk (Kd.R_lower ho0 (below_size (hB HB)))
   have HO453 := Aside0.mk (Kd.R_lower ho1 (below_size (hB HB)))
   have HO456 := Aside0.mk (Kd.R_lower ho2 (below_size (hB HB)))
   replace BK444 := bb_ BK444 hb
   replace BK445 := bb_ BK445 hb
   replace BK446 := bb_ BK446 hb
   replace BK467 := bb_ BK467 hb
   replace HB := bst_ HB hb
   clear hb ho0 ho1 ho2
   obtain ⟨Ao19, co19, eo19⟩ := Kd.R_slice HO450.out
   (first | subst eo19 | (injection eo19 with f1_ f2_ f3_; have f4_ := f1_.symm; have f5_ := f3_.symm; clear f1_ f2_ f3_; subst f4_; subst f5_))
   obtain ⟨Ao20, co20, eo20⟩ := Kd.R_slice HO453.out
   (first | subst eo20 | (injection eo20 with f1_ f2_ f3_; have f4_ := f1_.symm; have f5_ := f3_.symm; clear f1_ f2_ f3_; subst f4_; subst f5_))
   obtain ⟨Ao21, co21, eo21⟩ := Kd.R_slice HO456.out
   (first | subst eo21 | (injection eo21 with f1_ f2_ f3_; have f4_ := f1_.symm; have f5_ := f3_.symm; clear f1_ f2_ f3_; subst f4_; subst f5_))
   refine hK.out _ _ ⟨bc_ BK444 0, bc_ BK444 1, bc_ BK444 2, bc_ BK445 0, bc_ BK445 1⟩ (fun hHeld => ?_)
   clear hK K
   refine nm_ 14 ?_
   refine on_ 3 (some 16) (bs 10 143) HT_ (fun K hK => ?_)
   refine goes_ Try.func24 (by kernel_rfl) rfl #[.agg #[.slice Ao19 t448.length co19, .slice Ao20 t451.length co20, .slice Ao21 t454.length co21], .agg #[.int .i64 a1_0, .int .i64 a1_1]] (by rfl) rfl rfl tm_ ?_
   with_reducible refine (spec_l3Step.calls k (fun k_ => some k_ = (.slice Ao19 t448.length co19 : Value).ownBlock) (.slice Ao19 t448.length co19) t448 (fun k_ => some k_ = (.slice Ao20 t451.length co20 : Value).ownBlock) (.slice Ao20 t451.length co20) t451 (fun k_ => some k_ = (.slice Ao21 t454.length co21 : Value).ownBlock) (.slice Ao21 t454.length co21) t454 a1_0 a1_1 t457 t460 t463 true w _ ?side1 ?side2 ?side3 ?side4 ?side5 ?side6 A6.out).mono ?_
   (case side1 => exact hB HB)
   (case side2 => exact Kd.R_tight rfl HO450.out)
   (case side3 => exact fun k_ e_ => (HO450.out.1 k_ e_.symm))
   (case side4 => exact Kd.R_tight rfl HO453.out)
   (case side5 => exact fun k_ e_ => (HO453.out.1 k_ e_.symm))
   (case side6 => exact Kd.R_tight rfl HO456.out)
   rintro e w22 ⟨v458, v461, v464, rfl, ho0, ho1, ho2, hb, hkp⟩
   refine ⟨_, rfl, ?_⟩
   have HO459 := Aside0.mk (Kd.R_mono (ok' := fun k_ => no_ v461 k_) ho0 (fun k_ hk_ => hk_.2))
   have HO462 := Aside0.mk (Kd.R_mono (ok' := fun k_ => no_ v458 k_) ho1 (fun k_ hk_ => hk_.2))
   have HO465 := Aside0.mk (Kd.R_mono (ok' := fun k_ => True) ho2 (fun k_ hk_ => trivial))
   replace BK444 := Aside0.mk (blk_kept (ba BK444.out) hkp (fun hs_ => Or.elim hs_ (kne_ HO450 BK444) (fun e_ => Or.elim e_ (kne_ HO453 BK444) (kne_ HO456 BK444))))
   replace BK445 := Aside0.mk (blk_kept (ba BK445.out) hkp (fun hs_ => Or.elim hs_ (kne_ HO450 BK445) (fun e_ => Or.elim e_ (kne_ HO453 BK445) (kne_ HO456 BK445))))
   replace BK446 := Aside0.mk (blk_kept (ba BK446.out) hkp (fun hs_ => Or.elim hs_ (kne_ HO450 BK446) (fun e_ => Or.elim e_ (kne_ HO453 BK446) (kne_ HO456 BK446))))
   replace BK467 := Aside0.mk (blk_kept (ba BK467.out) hkp (fun hs_ => Or.elim hs_ (kne_ HO450 BK467) (fun e_ => Or.elim e_ (kne_ HO453 BK467) (kne_ HO456 BK467))))
   replace HB := Aside0.mk (hb)
   clear HO450 HO453 HO456
   clear hb ho0 ho1 ho2
   refine hK.out _ _ ⟨bc_ BK444 0, bc_ BK444 1, bc_ BK444 2, bc_ BK445 0, bc_ BK445 1⟩ (fun hHeld => ?_)
   clear hK K
   refine nm_ 16 ?_
   refine pu_ 4 12 (bs 10 159) HT_ ?_
   refine pu_ 5 17 (bs 10 191) HT_ ?_
   refine pu_ 6 18 (bs 10 255) HT_ ?_
   exact norm_ (by simp only [putAll, Act.put, List.setIfInBounds_toArray, List.set_cons_zero, List.set_cons_succ]) (hCont (.slice Ao19 t448.length co19, .slice Ao20 t451.length co20, .slice Ao21 t454.length co21, v458, v461, v464, gb467) _ ⟨hHeld, (ra HO459.out), (ra HO462.out), (ra HO465.out), (ba BK444.out), (ba BK445.out), (ba BK446.out), (ba BK467.out), GW467.out, GE467.out, NB444_467.out, NB467_444.out, NB445_467.out, NB467_445.out, NB446_467.out, NB467_446.out, (hB HB)⟩)
  skip
  refine goes_ Try.func25 (by kernel_rfl) rfl #[.agg #[.slice A0_0 l0_0.length c0_0, .slice A0_1 l0_1.length c0_1, .slice A0_2 l0_2.length c0_2]] (by rfl) rfl rfl tm_ ?_
  with_reducible refine (spec_l3Own.calls _ _ l0_0 _ _ l0_1 _ _ l0_2 t448 t451 t454 _ ?side1 ?side2 ?side3 ?side4 ?side5 ?side6 A5.out).mono ?_
  (case side1 => exact cb_ HR0_0 HB)
  (case side2 => exact HC0_0.out)
  (case side3 => exact cb_ HR0_1 HB)
  (case side4 => exact HC0_1.out)
  (case side5 => exact cb_ HR0_2 HB)
  (case side6 => exact HC0_2.out)
  rintro e w17 ⟨v449, v452, v455, rfl, ho0, ho1, ho2, hb⟩
  refine ⟨_, rfl, ?_⟩
  have HO450 := Aside0.mk (Kd.R_lower ho0 (below_size (hB HB)))
  have HO453 := Aside0.mk (Kd.R_lower ho1 (below_size (hB HB)))
  have HO456 := Aside0.mk (Kd.R_lower ho2 (below_size (hB HB)))
  replace BK444 := bb_ BK444 hb
  replace BK445 := bb_ BK445 hb
  replace BK446 := bb_ BK446 hb
  replace HB := bst_ HB hb
  clear hb ho0 ho1 ho2
  obtain ⟨Ao18, co18, eo18⟩ := Kd.R_slice HO450.out
  (first | subst eo18 | (injection eo18 with f1_ f2_ f3_; have f4_ := f1_.symm; have f5_ := f3_.symm; clear f1_ f2_ f3_; subst f4_; subst f5_))
  obtain ⟨Ao19, co19, eo19⟩ := Kd.R_slice HO453.out
  (first | subst eo19 | (injection eo19 with f1_ f2_ f3_; have f4_ := f1_.symm; have f5_ := f3_.symm; clear f1_ f2_ f3_; subst f4_; subst f5_))
  obtain ⟨Ao20, co20, eo20⟩ := Kd.R_slice HO456.out
  (first | subst eo20 | (injection eo20 with f1_ f2_ f3_; have f4_ := f1_.symm; have f5_ := f3_.symm; clear f1_ f2_ f3_; subst f4_; subst f5_))
  refine hK.out _ _ ⟨bc_ BK444 0, bc_ BK444 1, bc_ BK444 2, bc_ BK445 0, bc_ BK445 1⟩ (fun hHeld => ?_)
  clear hK K
  refine nm_ 14 ?_
  refine two_ (i := 3) (j := 7) (Ni := some 16) (Nj := some 6) (bs 10 15) (bs 10 135) rfl rfl rfl rfl (two_of HT_.out (by kernel_rfl)) (by decide) (by decide) (fun K hK => ?_) (fun K hK => ?_)
  ·skip
   refine goes_ Try.func24 (by kernel_rfl) rfl #[.agg #[.slice Ao18 t448.length co18, .slice Ao19 t451.length co19, .slice Ao20 t454.length co20], .agg #[.int .i64 a1_0, .int .i64 a1_1]] (by rfl) rfl rfl tm_ ?_
   with_reducible refine (spec_l3Step.calls k (fun k_ => some k_ = (.slice Ao18 t448.length co18 : Value).ownBlock) (.slice Ao18 t448.length co18) t448 (fun k_ => some k_ = (.slice Ao19 t451.length co19 : Value).ownBlock) (.slice Ao19 t451.length co19) t451 (fun k_ => some k_ = (.slice Ao20 t454.length co20 : Value).ownBlock) (.slice Ao20 t454.length co20) t454 a1_0 a1_1 t457 t460 t463 true w _ ?side1 ?side2 ?side3 ?side4 ?side5 ?side6 A6.out).mono ?_
   (case side1 => exact hB HB)
   (case side2 => exact Kd.R_tight rfl HO450.out)
   (case side3 => exact fun k_ e_ => (HO450.out.1 k_ e_.symm))
   (case side4 => exact Kd.R_tight rfl HO453.out)
   (case side5 => exact fun k_ e_ => (HO453.out.1 k_ e_.symm))
   (case side6 => exact Kd.R_tight rfl HO456.out)
   rintro e w21 ⟨v458, v461, v464, rfl, ho0, ho1, ho2, hb, hkp⟩
   refine ⟨_, rfl, ?_⟩
   have HO459 := Aside0.mk (Kd.R_mono (ok' := fun k_ => no_ v461 k_) ho0 (fun k_ hk_ => hk_.2))
   have HO462 := Aside0.mk (Kd.R_mono (ok' := fun k_ => no_ v458 k_) ho1 (fun k_ hk_ => hk_.2))
   have HO465 := Aside0.mk (Kd.R_mono (ok' := fun k_ => True) ho2 (fun k_ hk_ => trivial))
   replace BK444 := Aside0.mk (blk_kept (ba BK444.out) hkp (fun hs_ => Or.elim hs_ (kne_ HO450 BK444) (fun e_ => Or.elim e_ (kne_ HO453 BK444) (kne_ HO456 BK444))))
   replace BK445 := Aside0.mk (blk_kept (ba BK445.out) hkp (fun hs_ => Or.elim hs_ (kne_ HO450 BK445) (fun e_ => Or.elim e_ (kne_ HO453 BK445) (kne_ HO456 BK445))))
   replace BK446 := Aside0.mk (blk_kept (ba BK446.out) hkp (fun hs_ => Or.elim hs_ (kne_ HO450 BK446) (fun e_ => Or.elim e_ (kne_ HO453 BK446) (kne_ HO456 BK446))))
   replace HB := Aside0.mk (hb)
   clear HO450 HO453 HO456
   clear hb ho0 ho1 ho2
   refine hK.out _ _ ⟨bc_ BK444 0, bc_ BK444 1, bc_ BK444 2, bc_ BK445 0, bc_ BK445 1⟩ (fun hHeld => ?_)
   clear hK K
   refine nm_ 16 ?_
   refine pu_ 4 12 (bs 10 31) HT_ ?_
   refine pu_ 5 17 (bs 10 63) HT_ ?_
   refine pu_ 6 18 (bs 10 127) HT_ ?_
   refine on_ 7 (some 6) (bs 10 255) HT_ (fun K hK => ?_)
   refine box_step ?hg (N := 6) ?hd (cs := #[.slice none 0 0, .slice none 0 0, .slice none 0 0]) (t := 26) ?hr ?_; (case hd => rfl); (case hg => rfl); (case hr => first | (go_simp; done) | (go_simp; rfl))
   intro gb467 hg w22 hbox hb
   have BK467 := Aside0.mk (hbox)
   have GW467 := gw_ hg HB
   have GE467 := gw_ hg HB
   have NB444_467 := nl_ hg BK444
   have NB467_444 := ng_ hg BK444
   have NB445_467 := nl_ hg BK445
   have NB467_445 := ng_ hg BK445
   have NB446_467 := nl_ hg BK446
   have NB467_446 := ng_ hg BK446
   replace HO459 := rb_ HO459 hb
   replace HO462 := rb_ HO462 hb
   replace HO465 := rb_ HO465 hb
   replace BK444 := bb_ BK444 hb
   replace BK445 := bb_ BK445 hb
   replace BK446 := bb_ BK446 hb
   replace HB := bst_ HB hb
   clear hb hbox hg
   refine hK.out _ _ ⟨bc_ BK444 0, bc_ BK444 1, bc_ BK444 2, bc_ BK445 0, bc_ BK445 1⟩ (fun hHeld => ?_)
   clear hK K
   refine nm_ 6 ?_
   exact norm_ (by simp only [putAll, Act.put, List.setIfInBounds_toArray, List.set_cons_zero, List.set_cons_succ]) (hCont (.slice Ao18 t448.length co18, .slice Ao19 t451.length co19, .slice Ao20 t454.length co20, v458, v461, v464, gb467) _ ⟨hHeld, (ra HO459.out), (ra HO462.out), (ra HO465.out), (ba BK444.out), (ba BK445.out), (ba BK446.out), (ba BK467.out), GW467.out, GE467.out, NB444_467.out, NB467_444.out, NB445_467.out, NB467_445.out, NB446_467.out, NB467_446.out, (hB HB)⟩)
  skip
  refine box_step ?hg (N := 6) ?hd (cs := #[.slice none 0 0, .slice none 0 0, .slice none 0 0]) (t := 26) ?hr ?_; (case hd => rfl); (case hg => rfl); (case hr => first | (go_simp; done) | (go_simp; rfl))
  intro gb467 hg w18 hbox hb
  have BK467 := Aside0.mk (hbox)
  have GW467 := gw_ hg HB
  have GE467 := gw_ hg HB
  have NB444_467 := nl_ hg BK444
  have NB467_444 := ng_ hg BK444
  have NB445_467 := nl_ hg BK445
  have NB467_445 := ng_ hg BK445
  have NB446_467 := nl_ hg BK446
  have NB467_446 := ng_ hg BK446
  replace HO450 := rb_ HO450 hb
  replace HO453 := rb_ HO453 hb
  replace HO456 := rb_ HO456 hb
  replace BK444 := bb_ BK444 hb
  replace BK445 := bb_ BK445 hb
  replace BK446 := bb_ BK446 hb
  replace HB := bst_ HB hb
  clear hb hbox hg
  obtain ⟨Ao19, co19, eo19⟩ := Kd.R_slice HO450.out
  (first | subst eo19 | (injection eo19 with f1_ f2_ f3_; have f4_ := f1_.symm; have f5_ := f3_.symm; clear f1_ f2_ f3_; subst f4_; subst f5_))
  obtain ⟨Ao20, co20, eo20⟩ := Kd.R_slice HO453.out
  (first | subst eo20 | (injection eo20 with f1_ f2_ f3_; have f4_ := f1_.symm; have f5_ := f3_.symm; clear f1_ f2_ f3_; subst f4_; subst f5_))
  obtain ⟨Ao21, co21, eo21⟩ := Kd.R_slice HO456.out
  (first | subst eo21 | (injection eo21 with f1_ f2_ f3_; have f4_ := f1_.symm; have f5_ := f3_.symm; clear f1_ f2_ f3_; subst f4_; subst f5_))
  refine hK.out _ _ ⟨bc_ BK444 0, bc_ BK444 1, bc_ BK444 2, bc_ BK445 0, bc_ BK445 1⟩ (fun hHeld => ?_)
  clear hK K
  refine nm_ 6 ?_
  refine on_ 3 (some 16) (bs 10 143) HT_ (fun K hK => ?_)
  refine goes_ Try.func24 (by kernel_rfl) rfl #[.agg #[.slice Ao19 t448.length co19, .slice Ao20 t451.length co20, .slice Ao21 t454.length co21], .agg #[.int .i64 a1_0, .int .i64 a1_1]] (by rfl) rfl rfl tm_ ?_
  with_reducible refine (spec_l3Step.calls k (fun k_ => some k_ = (.slice Ao19 t448.length co19 : Value).ownBlock) (.slice Ao19 t448.length co19) t448 (fun k_ => some k_ = (.slice Ao20 t451.length co20 : Value).ownBlock) (.slice Ao20 t451.length co20) t451 (fun k_ => some k_ = (.slice Ao21 t454.length co21 : Value).ownBlock) (.slice Ao21 t454.length co21) t454 a1_0 a1_1 t457 t460 t463 true w _ ?side1 ?side2 ?side3 ?side4 ?side5 ?side6 A6.out).mono ?_
  (case side1 => exact hB HB)
  (case side2 => exact Kd.R_tight rfl HO450.out)
  (case side3 => exact fun k_ e_ => (HO450.out.1 k_ e_.symm))
  (case side4 => exact Kd.R_tight rfl HO453.out)
  (case side5 => exact fun k_ e_ => (HO453.out.1 k_ e_.symm))
  (case side6 => exact Kd.R_tight rfl HO456.out)
  rintro e w22 ⟨v458, v461, v464, rfl, ho0, ho1, ho2, hb, hkp⟩
  refine ⟨_, rfl, ?_⟩
  have HO459 := Aside0.mk (Kd.R_mono (ok' := fun k_ => no_ v461 k_) ho0 (fun k_ hk_ => hk_.2))
  have HO462 := Aside0.mk (Kd.R_mono (ok' := fun k_ => no_ v458 k_) ho1 (fun k_ hk_ => hk_.2))
  have HO465 := Aside0.mk (Kd.R_mono (ok' := fun k_ => True) ho2 (fun k_ hk_ => trivial))
  replace BK444 := Aside0.mk (blk_kept (ba BK444.out) hkp (fun hs_ => Or.elim hs_ (kne_ HO450 BK444) (fun e_ => Or.elim e_ (kne_ HO453 BK444) (kne_ HO456 BK444))))
  replace BK445 := Aside0.mk (blk_kept (ba BK445.out) hkp (fun hs_ => Or.elim hs_ (kne_ HO450 BK445) (fun e_ => Or.elim e_ (kne_ HO453 BK445) (kne_ HO456 BK445))))
  replace BK446 := Aside0.mk (blk_kept (ba BK446.out) hkp (fun hs_ => Or.elim hs_ (kne_ HO450 BK446) (fun e_ => Or.elim e_ (kne_ HO453 BK446) (kne_ HO456 BK446))))
  replace BK467 := Aside0.mk (blk_kept (ba BK467.out) hkp (fun hs_ => Or.elim hs_ (kne_ HO450 BK467) (fun e_ => Or.elim e_ (kne_ HO453 BK467) (kne_ HO456 BK467))))
  replace HB := Aside0.mk (hb)
  clear HO450 HO453 HO456
  clear hb ho0 ho1 ho2
  refine hK.out _ _ ⟨bc_ BK444 0, bc_ BK444 1, bc_ BK444 2, bc_ BK445 0, bc_ BK445 1⟩ (fun hHeld => ?_)
  clear hK K
  refine nm_ 16 ?_
  refine pu_ 4 12 (bs 10 159) HT_ ?_
  refine pu_ 5 17 (bs 10 191) HT_ ?_
  refine pu_ 6 18 (bs 10 255) HT_ ?_
  exact norm_ (by simp only [putAll, Act.put, List.setIfInBounds_toArray, List.set_cons_zero, List.set_cons_succ]) (hCont (.slice Ao19 t448.length co19, .slice Ao20 t451.length co20, .slice Ao21 t454.length co21, v458, v461, v464, gb467) _ ⟨hHeld, (ra HO459.out), (ra HO462.out), (ra HO465.out), (ba BK444.out), (ba BK445.out), (ba BK446.out), (ba BK467.out), GW467.out, GE467.out, NB444_467.out, NB467_444.out, NB445_467.out, NB467_445.out, NB446_467.out, NB467_446.out, (hB HB)⟩)
 rintro ⟨v449, v452, v455, v458, v461, v464, gb467⟩ w23 ⟨hS_, h0_, h1_, h2_, h3_, h4_, h5_, h6_, h7_, h8_, h9_, h10_, h11_, h12_, h13_, h14_, h15_⟩
 try dsimp only at h0_ h1_ h2_ h3_ h4_ h5_ h6_ h7_ h8_ h9_ h10_ h11_ h12_ h13_ h14_ h15_
 have HO459 := Aside0.mk h0_
 have HO462 := Aside0.mk h1_
 have HO465 := Aside0.mk h2_
 have BK467 := Aside0.mk h6_
 have GW467 := Aside0.mk h7_
 have GE467 := Aside0.mk h8_
 have NB444_467 := Aside0.mk h9_
 have NB467_444 := Aside0.mk h10_
 have NB445_467 := Aside0.mk h11_
 have NB467_445 := Aside0.mk h12_
 have NB446_467 := Aside0.mk h13_
 have NB467_446 := Aside0.mk h14_
 replace BK444 := Aside0.mk h3_
 replace BK445 := Aside0.mk h4_
 replace BK446 := Aside0.mk h5_
 replace HB := Aside0.mk h15_
 clear h0_ h1_ h2_ h3_ h4_ h5_ h6_ h7_ h8_ h9_ h10_ h11_ h12_ h13_ h14_ h15_
 have hHeld : w23.cell? ⟨gb444, 0, none⟩ = some (.slice A0_0 l0_0.length c0_0) ∧ w23.cell? ⟨gb444, 1, none⟩ = some (.slice A0_1 l0_1.length c0_1) ∧ w23.cell? ⟨gb444, 2, none⟩ = some (.slice A0_2 l0_2.length c0_2) ∧ w23.cell? ⟨gb445, 0, none⟩ = some (.int .i64 a1_0) ∧ w23.cell? ⟨gb445, 1, none⟩ = some (.int .i64 a1_1) := hS_
 obtain ⟨Ao24, co24, eo24⟩ := Kd.R_slice HO459.out
 (first | subst eo24 | (injection eo24 with f1_ f2_ f3_; have f4_ := f1_.symm; have f5_ := f3_.symm; clear f1_ f2_ f3_; subst f4_; subst f5_))
 obtain ⟨Ao26, co26, eo26⟩ := Kd.R_slice HO462.out
 (first | subst eo26 | (injection eo26 with f1_ f2_ f3_; have f4_ := f1_.symm; have f5_ := f3_.symm; clear f1_ f2_ f3_; subst f4_; subst f5_))
 obtain ⟨Ao28, co28, eo28⟩ := Kd.R_slice HO465.out
 (first | subst eo28 | (injection eo28 with f1_ f2_ f3_; have f4_ := f1_.symm; have f5_ := f3_.symm; clear f1_ f2_ f3_; subst f4_; subst f5_))
 refine norm_ (a' := ?_) ?_ ?_
 rotate_left
 ·simp only [putAll, Act.put, List.setIfInBounds_toArray, List.set_cons_zero, List.set_cons_succ]
  rfl
 refine on_ 8 (none) (bs 10 511) HT_ (fun K hK => ?_)
 have hs25 : w23.cell? ⟨gb467, 0, none⟩ = some (.slice none 0 0) := bc_ BK467 0
 have hfs25 := bz_ BK467 0
 have hns25_0 := NB444_467.out
 have hns25_1 := NB445_467.out
 have hns25_2 := NB446_467.out
 have hms25_0 := NB467_444.out
 have hms25_1 := NB467_445.out
 have hms25_2 := NB467_446.out
 have hs27 : w23.cell? ⟨gb467, 1, none⟩ = some (.slice none 0 0) := bc_ BK467 1
 have hfs27 := bz_ BK467 1
 have hns27_0 := NB444_467.out
 have hns27_1 := NB445_467.out
 have hns27_2 := NB446_467.out
 have hms27_0 := NB467_444.out
 have hms27_1 := NB467_445.out
 have hms27_2 := NB467_446.out
 have hs29 : w23.cell? ⟨gb467, 2, none⟩ = some (.slice none 0 0) := bc_ BK467 2
 have hfs29 := bz_ BK467 2
 have hns29_0 := NB444_467.out
 have hns29_1 := NB445_467.out
 have hns29_2 := NB446_467.out
 have hms29_0 := NB467_444.out
 have hms29_1 := NB467_445.out
 have hms29_2 := NB467_446.out
 refine skip_ (w1 := ?_) (by rfl) rfl ?_ ?_
 rotate_left
 ·go_simp
  rfl
 refine hK.out _ _ ⟨((cell_far (p := ⟨gb467, _, none⟩) NB444_467.out _).trans (((cell_far (p := ⟨gb467, _, none⟩) NB444_467.out _).trans (((cell_far (p := ⟨gb467, _, none⟩) NB444_467.out _).trans (hHeld.1)))))), ((cell_far (p := ⟨gb467, _, none⟩) NB444_467.out _).trans (((cell_far (p := ⟨gb467, _, none⟩) NB444_467.out _).trans (((cell_far (p := ⟨gb467, _, none⟩) NB444_467.out _).trans (hHeld.2.1)))))), ((cell_far (p := ⟨gb467, _, none⟩) NB444_467.out _).trans (((cell_far (p := ⟨gb467, _, none⟩) NB444_467.out _).trans (((cell_far (p := ⟨gb467, _, none⟩) NB444_467.out _).trans (hHeld.2.2.1)))))), ((cell_far (p := ⟨gb467, _, none⟩) NB445_467.out _).trans (((cell_far (p := ⟨gb467, _, none⟩) NB445_467.out _).trans (((cell_far (p := ⟨gb467, _, none⟩) NB445_467.out _).trans (hHeld.2.2.2.1)))))), ((cell_far (p := ⟨gb467, _, none⟩) NB445_467.out _).trans (((cell_far (p := ⟨gb467, _, none⟩) NB445_467.out _).trans (((cell_far (p := ⟨gb467, _, none⟩) NB445_467.out _).trans (hHeld.2.2.2.2))))))⟩ (fun hHeld => ?_)
 clear hK K
 refine pu_ 9 7 (bs 10 1023) HT_ ?_
 refine done_ (done_of HT_.out (by kernel_rfl)) ?_
 obtain ⟨hnb30, hnc30⟩ := nn_ NB467_444
 obtain ⟨hnb31, hnc31⟩ := nn_ NB467_445
 obtain ⟨hnb32, hnc32⟩ := nn_ NB467_446
 obtain ⟨hcz33_0, hcz33_1, hcz33_2⟩ := bcs3_ BK467
 obtain ⟨hfz33_0, hfz33_1, hfz33_2⟩ := bz3_ BK467
 try go_wp2_with (first | ((with_reducible refine gate_dst (N := 23) rfl ?_); refine goesL_ (some 23) rfl rfl Try.func25 (by kernel_rfl) rfl #[.agg #[.slice Ao24 t457.length co24, .slice Ao26 t460.length co26, .slice Ao28 t463.length co28]] rfl tm_ ?_; (with_reducible refine (spec_l3Own.calls _ _ t457 _ _ t460 _ _ t463 t468 t471 t474 _ ?side1 ?side2 ?side3 ?side4 ?side5 ?side6 A8.out).mono ?_); (case side1 => exact rr_ (fm3_ HO459 BK467)); (case side2 => exact (Kd.R_reads' HO459.out).2.1); (case side3 => exact rr_ (fm3_ HO462 BK467)); (case side4 => exact (Kd.R_reads' HO462.out).2.1); (case side5 => exact rr_ (fm3_ HO465 BK467)); (case side6 => exact (Kd.R_reads' HO465.out).2.1); rintro e w34 ⟨v469, v472, v475, rfl, ho0, ho1, ho2, hb⟩; refine ⟨_, rfl, ?_⟩; have HO470 := Aside0.mk (Kd.R_lower (Kd.R_new' (Kd.R_new' ho0 (Kd.R_lt (ra (fm3_ HO459 BK467)))) (Kd.R_lt (ra (fm3_ HO462 BK467)))) (below_size (hB HB))); have HO473 := Aside0.mk (Kd.R_lower (Kd.R_new' (Kd.R_new' ho1 (Kd.R_lt (ra (fm3_ HO459 BK467)))) (Kd.R_lt (ra (fm3_ HO462 BK467)))) (below_size (hB HB))); have HO476 := Aside0.mk (Kd.R_lower (Kd.R_new' ho2 (Kd.R_lt (ra (fm3_ HO465 BK467)))) (below_size (hB HB))); replace HO459 := Aside0.mk (Kd.R_mono (Kd.R_told (Kd.R_told (Kd.R_old (ra (fm3_ HO459 BK467)) hb) (Kd.R_base ho0)) (Kd.R_base ho1)) (fun _ h_ => h_.1)); replace HO462 := Aside0.mk (Kd.R_mono (Kd.R_told (Kd.R_told (Kd.R_old (ra (fm3_ HO462 BK467)) hb) (Kd.R_base ho0)) (Kd.R_base ho1)) (fun _ h_ => h_.1)); replace HO465 := Aside0.mk (Kd.R_elder' (ra (fm3_ HO465 BK467)) (Kd.R_base ho2) hb); replace BK444 := Aside0.mk (blk_below (bx BK444) hb); replace BK445 := Aside0.mk (blk_below (bx BK445) hb); replace BK446 := Aside0.mk (blk_below (bx BK446) hb); replace BK467 := Aside0.mk (blk_below (g := gb467) (o := .cells #[.slice Ao24 t457.length co24, .slice Ao26 t460.length co26, .slice Ao28 t463.length co28] 26 (0, 0)) (bw0_ BK467) hb); replace HB := bst_ HB hb; clear hb ho0 ho1 ho2; obtain ⟨Ao35, co35, eo35⟩ := Kd.R_slice HO470.out; subst eo35; obtain ⟨hnb36, hnc36⟩ := nn_ NB446_445; obtain ⟨hcz37_0, hcz37_1, hcz37_2⟩ := bcs3_ BK446; obtain ⟨hfz37_0, hfz37_1, hfz37_2⟩ := bz3_ BK446; obtain ⟨Ao38, co38, eo38⟩ := Kd.R_slice HO473.out; subst eo38; obtain ⟨Ao39, co39, eo39⟩ := Kd.R_slice HO476.out; subst eo39))
 refine bodyPost_ret (results_ct rfl _ _ gb446 26 #[.slice Ao35 t468.length co35, .slice Ao38 t471.length co38, .slice Ao39 t474.length co39] (0, 0) _ rfl (bw0_ BK446) Try.underlying26 rfl (by kernel_rfl)) rfl ?_
 exact ⟨_, _, _, rt_, ro_ (fs3_ HO470.out BK446.out) (fun _ hk => hk.1.1.1), ro_ (fs3_ HO473.out BK446.out) (fun _ hk => hk.1.1.1), ro_ (fs3_ HO476.out BK446.out) (fun _ hk => trivial), hB HB⟩

def laws_sameInts.l0 : Nat → List Int → List Int → Int → Int → Option (Bool)
 | 0, _, _, _, _ => none
 | k + 1, x0, x1, x12, x13 => if x13 < x12 then (if 0 ≤ x13 then (if x13 < (x0.length : Int) then (if x13 < (x1.length : Int) then (if (rd x0 x13) = (rd x1 x13) then (laws_sameInts.l0 k x0 x1 x12 (wrap64 (x13 + 1))) else (some false)) else (none)) else (none)) else (none)) else (some true)
def laws_sameInts.f (k : Nat) (l0 : List Int) (l1 : List Int) : Option (Bool) := if (l0.length : Int) = (l1.length : Int) then (laws_sameInts.l0 k l0 l1 (l0.length : Int) 0) else (some false)
theorem laws_sameInts.mono_l : ∀ k, (∀ y0 y1 y2 y3, LeO (laws_sameInts.l0 k y0 y1 y2 y3) (laws_sameInts.l0 (k + 1) y0 y1 y2 y3))
 | 0 => fun _ _ _ _ r h => by simp [laws_sameInts.l0] at h
 | k + 1 => by
  have ih0 := laws_sameInts.mono_l k
  ·intro y0 y1 y2 y3
   unfold laws_sameInts.l0
   repeat' first
   | (with_reducible exact ih0 _ _ _ _)
   | with_reducible first | exact LeO.refl _ | exact LeO.none _ | refine LeO.ite ?_ ?_ | refine LeO.bind ?_ fun _ => ?_
theorem laws_sameInts.mono : ∀ a0 a1 k, LeO (laws_sameInts.f k a0 a1) (laws_sameInts.f (k + 1) a0 a1) := by
 intro a0 a1 k
 have ih0 := laws_sameInts.mono_l k
 unfold laws_sameInts.f
 repeat' first
   | (with_reducible exact ih0 _ _ _ _)
   | with_reducible first | exact LeO.refl _ | exact LeO.none _ | refine LeO.ite ?_ ?_ | refine LeO.bind ?_ fun _ => ?_
set_option maxHeartbeats 8000000 in
set_option maxRecDepth 100000 in
theorem laws_sameInts.calls (k : Nat) (A0 : Option Addr) (c0 : Nat) (l0 : List Int) (A1 : Option Addr) (c1 : Nat) (l1 : List Int) (r : Bool) (w : World) (hr0 : Kd.C (Kd.int .i64) w A0 l0.length l0) (hc0 : l0.length ≤ c0) (hr1 : Kd.C (Kd.int .i64) w A1 l1.length l1) (hc1 : l1.length ≤ c1) (h : laws_sameInts.f k l0 l1 = some r) :
  Calls Try.prog 26 #[.slice A0 l0.length c0, .slice A1 l1.length c1] w fun e w' => e = .returned (.bool r) ∧ Drawn0 w w' := by
 have HR0 := Aside0.mk hr0
 have HC0 := Aside0.mk hc0
 clear hr0 hc0
 have HR1 := Aside0.mk hr1
 have HC1 := Aside0.mk hc1
 clear hr1 hc1
 have H : (if (l0.length : Int) = (l1.length : Int) then (laws_sameInts.l0 k l0 l1 (l0.length : Int) 0) else (some false)) = some r := h
 clear h
 by_cases c3 : (l0.length : Int) = (l1.length : Int)
 rotate_left
 ·rw [if_neg c3] at H
  have c3b0 : ((l0.length : Int) == (l1.length : Int)) = false := beq_eq_false_iff_ne.mpr c3
  have c3b1 : ((l0.length : Int) != (l1.length : Int)) = true := bne_iff_ne.mpr c3
  have c3b2 : (l0.length == l1.length) = false := by first | simpa using c3 | (simp at c3 ⊢; omega)
  obtain rfl := Option.some.inj H
  go_enter Try.func26, Try.ntmps26
  go_wp2
  repeat (go_quiet (fail); try go_wp2)
  go_ret
  exact ⟨by first | rfl | (simp; done) | (simp [*]; done), by repeat (first | exact Drawn0.refl _ | apply Drawn0.step)⟩
 rw [if_pos c3] at H
 have c3b0 : ((l0.length : Int) == (l1.length : Int)) = true := beq_iff_eq.mpr c3
 have c3b1 : ((l0.length : Int) != (l1.length : Int)) = false := bne_eq_false_iff_eq.mpr c3
 have c3b2 : (l0.length == l1.length) = true := by first | simpa using c3 | (simp at c3 ⊢; omega)
 clear c3
 have H' := Aside0.mk H
 clear H
 go_enter Try.func26, Try.ntmps26
 go_wp2
 repeat (go_quiet (fail); try go_wp2)
 go_loopg [13] k (fun kq v13 w' => ∃ (x13_1 : Int), v13 = .int .i64 x13_1 ∧ Aside0 (laws_sameInts.l0 kq l0 l1 (l0.length : Int) x13_1 = some r) ∧ Aside0 (kq ≤ k) ∧ Drawn0 w w')
 case atStart => exact ⟨(0), (by first | rfl | (simp; done) | (simp [*]; done)), H', ⟨Nat.le_refl _⟩, by repeat (first | exact Drawn0.refl _ | apply Drawn0.step)⟩
 case round =>
  clear H'
  try clear c1
  try clear c3
  try clear c3b0
  try clear c3b1
  try clear c3b2
  obtain ⟨x13_1, rfl, HA, HK1, ⟨m1, rfl⟩⟩ := hrel
  cases gk with
  | zero => exact absurd HA.out (by simp [laws_sameInts.l0])
  | succ k1 =>
   have H := HA.out
   clear HA
   simp only [laws_sameInts.l0] at H
   by_cases c4 : x13_1 < (l0.length : Int)
   rotate_left
   ·rw [if_neg c4] at H
    have c4b0 : decide (x13_1 < (l0.length : Int)) = false := decide_eq_false c4
    clear c4
    obtain rfl := Option.some.inj H
    go_wp2
    repeat (go_quiet (fail); try go_wp2)
    go_ret
    exact ⟨by first | rfl | (simp; done) | (simp [*]; done), by repeat (first | exact Drawn0.refl _ | apply Drawn0.step)⟩
   rw [if_pos c4] at H
   have c4b0 : decide (x13_1 < (l0.length : Int)) = true := decide_eq_true c4
   clear c4
   by_cases c5 : 0 ≤ x13_1
   rotate_left
   ·rw [if_neg c5] at H
    exact absurd H (by simp)
   rw [if_pos c5] at H
   have c5b0 : decide (0 ≤ x13_1) = true := decide_eq_true c5
   clear c5
   by_cases c6 : x13_1 < (l0.length : Int)
   rotate_left
   ·rw [if_neg c6] at H
    exact absurd H (by simp)
   rw [if_pos c6] at H
   have c6b0 : decide (x13_1 < (l0.length : Int)) = true := decide_eq_true c6
   clear c6
   by_cases c7 : x13_1 < (l1.length : Int)
   rotate_left
   ·rw [if_neg c7] at H
    exact absurd H (by simp)
   rw [if_pos c7] at H
   have c7b0 : decide (x13_1 < (l1.length : Int)) = true := decide_eq_true c7
   clear c7
   by_cases c8 : (rd l0 x13_1) = (rd l1 x13_1)
   rotate_left
   ·rw [if_neg c8] at H
    have c8b0 : ((rd l0 x13_1) == (rd l1 x13_1)) = false := beq_eq_false_iff_ne.mpr c8
    have c8b1 : ((rd l0 x13_1) != (rd l1 x13_1)) = true := bne_iff_ne.mpr c8
    obtain rfl := Option.some.inj H
    have p477 : 0 ≤ (x13_1 : Int) := od_
    have q477 : x13_1 < (l0.length : Int) := od_
    obtain ⟨ad477, e477, hx477_0⟩ := Kd.at_int HR0.out x13_1 p477 q477
    cases e477
    replace p477 := eq_true p477
    replace q477 := eq_true q477
    have p478 : 0 ≤ (x13_1 : Int) := od_
    have q478 : x13_1 < (l1.length : Int) := od_
    obtain ⟨ad478, e478, hx478_0⟩ := Kd.at_int HR1.out x13_1 p478 q478
    cases e478
    replace p478 := eq_true p478
    replace q478 := eq_true q478
    go_wp2
    repeat (go_quiet (fail); try go_wp2)
    go_ret
    exact ⟨by first | rfl | (simp; done) | (simp [*]; done), by repeat (first | exact Drawn0.refl _ | apply Drawn0.step)⟩
   rw [if_pos c8] at H
   have c8b0 : ((rd l0 x13_1) == (rd l1 x13_1)) = true := beq_iff_eq.mpr c8
   have c8b1 : ((rd l0 x13_1) != (rd l1 x13_1)) = false := bne_eq_false_iff_eq.mpr c8
   clear c8
   have H' := Aside0.mk H
   clear H
   have p477 : 0 ≤ (x13_1 : Int) := od_
   have q477 : x13_1 < (l0.length : Int) := od_
   obtain ⟨ad477, e477, hx477_0⟩ := Kd.at_int HR0.out x13_1 p477 q477
   cases e477
   replace p477 := eq_true p477
   replace q477 := eq_true q477
   have p478 : 0 ≤ (x13_1 : Int) := od_
   have q478 : x13_1 < (l1.length : Int) := od_
   obtain ⟨ad478, e478, hx478_0⟩ := Kd.at_int HR1.out x13_1 p478 q478
   cases e478
   replace p478 := eq_true p478
   replace q478 := eq_true q478
   go_wp2
   repeat (go_quiet (fail); try go_wp2)
   go_roundg k1
   case measure => have := HK1.out; omega
   case rel => exact ⟨(wrap64 (x13_1 + 1)), (by first | rfl | (simp; done) | (simp [*]; done)), H', ⟨by have := HK1.out; omega⟩, by repeat (first | exact Drawn0.refl _ | apply Drawn0.step)⟩

end Go.Proofs.Ytefdgdloghhnaaa.P
