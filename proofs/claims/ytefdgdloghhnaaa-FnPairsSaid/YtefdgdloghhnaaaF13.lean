import Derived.Test.YtefdgdloghhnaaaF0
import Derived.Test.YtefdgdloghhnaaaF1
import Derived.Test.YtefdgdloghhnaaaF3
import Derived.Test.YtefdgdloghhnaaaF4
import Derived.Test.YtefdgdloghhnaaaF6
import Derived.Test.YtefdgdloghhnaaaF7
import Derived.Test.YtefdgdloghhnaaaF9
namespace Go.Proofs.Ytefdgdloghhnaaa.P
open Go.RowKit Go.Proofs.YtefdgdloghhnaaaW.PrintWords Go.Proofs.YtefdgdloghhnaaaW.PrintLast Go.Proofs.YtefdgdloghhnaaaW.PrintMore
attribute [local go_sem] max2_int min2_int max_two min_two max_three min_three max_four min_four   -- for this text's walks alone
set_option linter.unusedVariables false
set_option linter.unusedSimpArgs false
attribute [local go_sem high] eqA36

def spec_SettlePair.l0 : Nat → List Int → Int → Int → List Int → List Int → List (S36) → Option (List Int × List Int × (List (S36)) × Bool)
 | 0, _, _, _, _, _, _ => none
 | k + 1, x18, x19, x20, x573000, x573001, x573002 => if x20 < x19 then (if 0 ≤ x20 then (if x20 < (x18.length : Int) then ((spec_l3Step.f k x573000 x573001 x573002 1 (rd x18 x20)).bind fun bt577 => ((spec_l3Step.f k bt577.1 bt577.2.1 bt577.2.2.1 2 0).bind fun bt588 => (spec_SettlePair.l0 k x18 x19 (wrap64 (x20 + 1)) bt588.1 bt588.2.1 bt588.2.2.1))) else (none)) else (none)) else ((spec_l3Own.f x573000 x573001 x573002).bind fun bt599 => (some (bt599.1, bt599.2.1, bt599.2.2, true)))
def spec_SettlePair.f (k : Nat) (l0_0 : List Int) (l0_1 : List Int) (l0_2 : List (S36)) : Option (List Int × List Int × (List (S36)) × Bool) := (spec_GoodPair.f k l0_0 l0_1 l0_2).bind fun t562 => (if t562 = true then ((spec_l3Own.f l0_0 l0_1 l0_2).bind fun bt563 => ((some (([0, 1, 0] : List Int) : List Int)).bind fun y573 => (spec_SettlePair.l0 k y573 (y573.length : Int) 0 bt563.1 bt563.2.1 ([] : List (S36))))) else (some (([] : List Int), ([] : List Int), ([] : List (S36)), false)))
theorem spec_SettlePair.mono_l : ∀ k, (∀ y0 y1 y2 y3 y4 y5, LeO (spec_SettlePair.l0 k y0 y1 y2 y3 y4 y5) (spec_SettlePair.l0 (k + 1) y0 y1 y2 y3 y4 y5))
 | 0 => fun _ _ _ _ _ _ r h => by simp [spec_SettlePair.l0] at h
 | k + 1 => by
  have ih0 := spec_SettlePair.mono_l k
  ·intro y0 y1 y2 y3 y4 y5
   unfold spec_SettlePair.l0
   repeat' first
   | (with_reducible exact ih0 _ _ _ _ _ _)
   | (with_reducible exact spec_GoodPair.mono _ _ _ _)
   | (with_reducible exact spec_l3Step.mono _ _ _ _ _ _)
   | with_reducible first | exact LeO.refl _ | exact LeO.none _ | refine LeO.ite ?_ ?_ | refine LeO.bind ?_ fun _ => ?_
theorem spec_SettlePair.mono : ∀ a0 a1 a2 k, LeO (spec_SettlePair.f k a0 a1 a2) (spec_SettlePair.f (k + 1) a0 a1 a2) := by
 intro a0 a1 a2 k
 have ih0 := spec_SettlePair.mono_l k
 unfold spec_SettlePair.f
 repeat' first
   | (with_reducible exact ih0 _ _ _ _ _ _)
   | (with_reducible exact spec_GoodPair.mono _ _ _ _)
   | (with_reducible exact spec_l3Step.mono _ _ _ _ _ _)
   | with_reducible first | exact LeO.refl _ | exact LeO.none _ | refine LeO.ite ?_ ?_ | refine LeO.bind ?_ fun _ => ?_
set_option maxHeartbeats 8000000 in
set_option maxRecDepth 100000 in
theorem spec_SettlePair.calls (k : Nat) (A0_0 : Option Addr) (c0_0 : Nat) (l0_0 : List Int) (A0_1 : Option Addr) (c0_1 : Nat) (l0_1 : List Int) (A0_2 : Option Addr) (c0_2 : Nat) (l0_2 : List (S36)) (r1 : List Int) (r2 : List Int) (r3 : List (S36)) (r4 : Bool) (w : World) (hr0_0 : Kd.C (Kd.int .i64) w A0_0 l0_0.length l0_0) (hc0_0 : l0_0.length ≤ c0_0) (hr0_1 : Kd.C (Kd.int .i64) w A0_1 l0_1.length l0_1) (hc0_1 : l0_1.length ≤ c0_1) (hr0_2 : Kd.C k36 w A0_2 l0_2.length l0_2) (hc0_2 : l0_2.length ≤ c0_2) (h : spec_SettlePair.f k l0_0 l0_1 l0_2 = some (r1, r2, r3, r4)) :
  Calls Try.prog 12 #[.agg #[.slice A0_0 l0_0.length c0_0, .slice A0_1 l0_1.length c0_1, .slice A0_2 l0_2.length c0_2]] w fun e w' => ∃ v0_ v1_ v2_ : Value, e = .returned (.tuple #[.agg #[v0_, v1_, v2_], .bool r4]) ∧ Kd.R (Kd.int .i64) 3 w' w.heap.size (fun k_ => no_ v1_ k_) v0_ r1 ∧ Kd.R (Kd.int .i64) 3 w' w.heap.size (fun k_ => no_ v0_ k_) v1_ r2 ∧ Kd.R k36 36 w' w.heap.size (fun _ => True) v2_ r3 ∧ Below w.heap.size w w' := by
 have hu26 := Try.underlying26
 have hu28 := Try.underlying28
 have HR0_0 := Aside0.mk hr0_0
 have HC0_0 := Aside0.mk hc0_0
 clear hr0_0 hc0_0
 have HR0_1 := Aside0.mk hr0_1
 have HC0_1 := Aside0.mk hc0_1
 clear hr0_1 hc0_1
 have HR0_2 := Aside0.mk hr0_2
 have HC0_2 := Aside0.mk hc0_2
 clear hr0_2 hc0_2
 have HB := Aside0.mk (Below.refl w.heap.size w)
 have H : ((spec_GoodPair.f k l0_0 l0_1 l0_2).bind fun t562 => (if t562 = true then ((spec_l3Own.f l0_0 l0_1 l0_2).bind fun bt563 => ((some (([0, 1, 0] : List Int) : List Int)).bind fun y573 => (spec_SettlePair.l0 k y573 (y573.length : Int) 0 bt563.1 bt563.2.1 ([] : List (S36))))) else (some (([] : List Int), ([] : List Int), ([] : List (S36)), false)))) = some (r1, r2, r3, r4) := h
 clear h
 replace H := Option.bind_eq_some_iff.mp H
 obtain ⟨t562, A20, H⟩ := H
 replace H : (if t562 = true then ((spec_l3Own.f l0_0 l0_1 l0_2).bind fun bt563 => ((some (([0, 1, 0] : List Int) : List Int)).bind fun y573 => (spec_SettlePair.l0 k y573 (y573.length : Int) 0 bt563.1 bt563.2.1 ([] : List (S36))))) else (some (([] : List Int), ([] : List Int), ([] : List (S36)), false))) = some (r1, r2, r3, r4) := H
 have A2 := Aside0.mk A20
 clear A20
 by_cases c3 : t562 = true
 rotate_left
 ·replace c3 := Bool.eq_false_iff.mpr c3
  subst c3
  rw [if_neg (show ¬ (false = true) by decide)] at H
  simp only [Option.some.injEq, Prod.mk.injEq] at H
  obtain ⟨rfl, rfl, rfl, rfl⟩ := H
  go_enter Try.func12, Try.ntmps12
  go_wp2_with (first | ((with_reducible refine gate_dst (N := 1) rfl ?_); refine bx_ev 1 #[.slice A0_0 l0_0.length c0_0, .slice A0_1 l0_1.length c0_1, .slice A0_2 l0_2.length c0_2] 26 ?_; intro gb560 hg w68 hbox hb; have BK560 := Aside0.mk (hbox); have GW560 := gw_ hg HB; have GE560 := gw_ hg HB; replace HB := bst_ HB hb; clear hb hbox hg) | ((with_reducible refine gate_dst (N := 2) rfl ?_); refine bx_ev 2 #[.slice none 0 0, .slice none 0 0, .slice none 0 0] 26 ?_; intro gb561 hg w69 hbox hb; have BK561 := Aside0.mk (hbox); have GW561 := gw_ hg HB; have GE561 := gw_ hg HB; have NB560_561 := nl_ hg BK560; have NB561_560 := ng_ hg BK560; replace BK560 := bb_ BK560 hb; replace HB := bst_ HB hb; clear hb hbox hg; obtain ⟨hnb70, hnc70⟩ := nn_ NB560_561; obtain ⟨hcz71_0, hcz71_1, hcz71_2⟩ := bcs3_ BK560) | ((with_reducible refine gate_dst (N := 12) rfl ?_); refine goesL_ (some 12) rfl rfl Try.func9 (by kernel_rfl) rfl #[.agg #[.slice A0_0 l0_0.length c0_0, .slice A0_1 l0_1.length c0_1, .slice A0_2 l0_2.length c0_2]] rfl tm_ ?_; (with_reducible refine (spec_GoodPair.calls k _ _ l0_0 _ _ l0_1 _ _ l0_2 false _ ?side1 ?side2 ?side3 ?side4 ?side5 ?side6 A2.out).mono ?_); (case side1 => exact cb_ HR0_0 HB); (case side2 => exact HC0_0.out); (case side3 => exact cb_ HR0_1 HB); (case side4 => exact HC0_1.out); (case side5 => exact cb_ HR0_2 HB); (case side6 => exact HC0_2.out); rintro e w72 ⟨rfl, hb⟩; refine ⟨_, rfl, ?_⟩; replace BK560 := bb_ BK560 hb; replace BK561 := bb_ BK561 hb; replace HB := bst_ HB hb; clear hb; obtain ⟨hcz73_0, hcz73_1, hcz73_2⟩ := bcs3_ BK561; obtain ⟨hfz73_0, hfz73_1, hfz73_2⟩ := bz3_ BK561))
  refine bodyPost_ret (results_ct rfl _ _ gb561 26 #[.slice none 0 0, .slice none 0 0, .slice none 0 0] (0, 0) _ rfl (bw0_ BK561) Try.underlying26 rfl (by kernel_rfl)) rfl ?_
  exact ⟨_, _, _, rt_, by first | exact Kd.R_nil _ _ _ _ _ | exact Kd.N_nil _ _ _ _ _ | exact Kd.V_nil _ _ _ _ _ | exact Kd.Q_nil _ _ _ _ _ | exact Kd.S_nil _ _ _ _ _, by first | exact Kd.R_nil _ _ _ _ _ | exact Kd.N_nil _ _ _ _ _ | exact Kd.V_nil _ _ _ _ _ | exact Kd.Q_nil _ _ _ _ _ | exact Kd.S_nil _ _ _ _ _, by first | exact Kd.R_nil _ _ _ _ _ | exact Kd.N_nil _ _ _ _ _ | exact Kd.V_nil _ _ _ _ _ | exact Kd.Q_nil _ _ _ _ _ | exact Kd.S_nil _ _ _ _ _, hB HB⟩
 subst c3
 rw [if_pos rfl] at H
 replace H := Option.bind_eq_some_iff.mp H
 obtain ⟨⟨t563, t566, t569⟩, A40, H⟩ := H
 replace H : ((some (([0, 1, 0] : List Int) : List Int)).bind fun y573 => (spec_SettlePair.l0 k y573 (y573.length : Int) 0 t563 t566 ([] : List (S36)))) = some (r1, r2, r3, r4) := H
 have A4 := Aside0.mk A40
 clear A40
 obtain ⟨y573, hy573⟩ : ∃ y_ : List Int, y_ = (([0, 1, 0] : List Int)) := ⟨_, rfl⟩
 replace H : (spec_SettlePair.l0 k y573 (y573.length : Int) 0 t563 t566 ([] : List (S36))) = some (r1, r2, r3, r4) := by first | (rw [hy573]; with_reducible exact H) | (have H2_ := (Option.bind_some _ _).symm.trans H; rw [hy573]; with_reducible exact H2_) | (have H2_ := (Option.bind_some _ _).symm.trans H; with_reducible exact H2_) | with_reducible exact H | (rw [hy573]; exact H) | exact H
 have Ny573 := Aside0.mk hy573
 clear hy573
 have H' := Aside0.mk H
 clear H
 go_enter Try.func12, Try.ntmps12
 go_wp2_with (first | ((with_reducible refine gate_dst (N := 1) rfl ?_); refine bx_ev 1 #[.slice A0_0 l0_0.length c0_0, .slice A0_1 l0_1.length c0_1, .slice A0_2 l0_2.length c0_2] 26 ?_; intro gb560 hg w5 hbox hb; have BK560 := Aside0.mk (hbox); have GW560 := gw_ hg HB; have GE560 := gw_ hg HB; replace HB := bst_ HB hb; clear hb hbox hg) | ((with_reducible refine gate_dst (N := 2) rfl ?_); refine bx_ev 2 #[.slice none 0 0, .slice none 0 0, .slice none 0 0] 26 ?_; intro gb561 hg w6 hbox hb; have BK561 := Aside0.mk (hbox); have GW561 := gw_ hg HB; have GE561 := gw_ hg HB; have NB560_561 := nl_ hg BK560; have NB561_560 := ng_ hg BK560; replace BK560 := bb_ BK560 hb; replace HB := bst_ HB hb; clear hb hbox hg; obtain ⟨hnb7, hnc7⟩ := nn_ NB560_561; obtain ⟨hcz8_0, hcz8_1, hcz8_2⟩ := bcs3_ BK560) | ((with_reducible refine gate_dst (N := 12) rfl ?_); refine goesL_ (some 12) rfl rfl Try.func9 (by kernel_rfl) rfl #[.agg #[.slice A0_0 l0_0.length c0_0, .slice A0_1 l0_1.length c0_1, .slice A0_2 l0_2.length c0_2]] rfl tm_ ?_; (with_reducible refine (spec_GoodPair.calls k _ _ l0_0 _ _ l0_1 _ _ l0_2 true _ ?side1 ?side2 ?side3 ?side4 ?side5 ?side6 A2.out).mono ?_); (case side1 => exact cb_ HR0_0 HB); (case side2 => exact HC0_0.out); (case side3 => exact cb_ HR0_1 HB); (case side4 => exact HC0_1.out); (case side5 => exact cb_ HR0_2 HB); (case side6 => exact HC0_2.out); rintro e w9 ⟨rfl, hb⟩; refine ⟨_, rfl, ?_⟩; replace BK560 := bb_ BK560 hb; replace BK561 := bb_ BK561 hb; replace HB := bst_ HB hb; clear hb; obtain ⟨hcz10_0, hcz10_1, hcz10_2⟩ := bcs3_ BK560) | ((with_reducible refine gate_dst (N := 16) rfl ?_); refine goesL_ (some 16) rfl rfl Try.func25 (by kernel_rfl) rfl #[.agg #[.slice A0_0 l0_0.length c0_0, .slice A0_1 l0_1.length c0_1, .slice A0_2 l0_2.length c0_2]] rfl tm_ ?_; (with_reducible refine (spec_l3Own.calls _ _ l0_0 _ _ l0_1 _ _ l0_2 t563 t566 t569 _ ?side1 ?side2 ?side3 ?side4 ?side5 ?side6 A4.out).mono ?_); (case side1 => exact cb_ HR0_0 HB); (case side2 => exact HC0_0.out); (case side3 => exact cb_ HR0_1 HB); (case side4 => exact HC0_1.out); (case side5 => exact cb_ HR0_2 HB); (case side6 => exact HC0_2.out); rintro e w11 ⟨v564, v567, v570, rfl, ho0, ho1, ho2, hb⟩; refine ⟨_, rfl, ?_⟩; have HO565 := Aside0.mk (Kd.R_lower ho0 (below_size (hB HB))); have HO568 := Aside0.mk (Kd.R_lower ho1 (below_size (hB HB))); have HO571 := Aside0.mk (Kd.R_lower ho2 (below_size (hB HB))); replace BK560 := bb_ BK560 hb; replace BK561 := bb_ BK561 hb; replace HB := bst_ HB hb; clear hb ho0 ho1 ho2) | ((with_reducible refine gate_dst (N := 4) rfl ?_); refine bx_ev 4 #[.slice none 0 0, .slice none 0 0, .slice none 0 0] 26 ?_; intro gb572 hg w12 hbox hb; have BK572 := Aside0.mk (hbox); have GW572 := gw_ hg HB; have GE572 := gw_ hg HB; have NB560_572 := nl_ hg BK560; have NB572_560 := ng_ hg BK560; have NB561_572 := nl_ hg BK561; have NB572_561 := ng_ hg BK561; replace HO565 := rb_ HO565 hb; replace HO568 := rb_ HO568 hb; replace HO571 := rb_ HO571 hb; replace BK560 := bb_ BK560 hb; replace BK561 := bb_ BK561 hb; replace HB := bst_ HB hb; clear hb hbox hg; obtain ⟨Ao13, co13, eo13⟩ := Kd.R_slice HO565.out; subst eo13; obtain ⟨hnb14, hnc14⟩ := nn_ NB572_560; obtain ⟨hnb15, hnc15⟩ := nn_ NB572_561; obtain ⟨hcz16_0, hcz16_1, hcz16_2⟩ := bcs3_ BK572; obtain ⟨hfz16_0, hfz16_1, hfz16_2⟩ := bz3_ BK572; obtain ⟨Ao17, co17, eo17⟩ := Kd.R_slice HO568.out; subst eo17; obtain ⟨Ao18, co18, eo18⟩ := Kd.R_slice HO571.out; subst eo18) | ((with_reducible refine gate_dst (N := 18) rfl ?_); refine Kd.R_lit (Kd.int .i64) _ 3 ?hg (N := 18) ?hd (xs := ([0, 1, 0] : List Int)) (inner := [.int .i64 0, .int .i64 1, .int .i64 0]) (ok := fun _ => True) (okp := fun _ => True) ?hr ?hp (fun _ hk => hk) trivial (Below.refl _ _) (Nat.le_refl _) (by simp) ?_; (case hd => rfl); (case hg => rfl); (case hr => first | (go_simp; done) | (go_simp; rfl)); (case hp => exact (Reps.one (show Kd.M (Kd.int .i64) _ _ _ 0 [.int .i64 0] from rfl) (Reps.one (show Kd.M (Kd.int .i64) _ _ _ 1 [.int .i64 1] from rfl) (Reps.one (show Kd.M (Kd.int .i64) _ _ _ 0 [.int .i64 0] from rfl) (Reps.none _ _))))); intro v574 w19 ho20 hb hg_ hnew_; clear hg_ hnew_; (first | rw [← Ny573.out] at ho20 | (simp only [Int.reduceToNat] at ho20; rw [← Ny573.out] at ho20)); have HO575 := Aside0.mk (Kd.R_lower (Kd.R_new' (Kd.R_new' ho20 (Kd.R_lt (by (with_reducible repeat (first | apply Kd.R_alloc | apply Kd.R_drewN | apply Kd.R_drew)); exact (Kd.R_mono (Kd.R_far (p := ⟨gb572, 2, none⟩) (fs3_ HO565.out BK572.out) (fun _ hk => hk.2) (.slice none 0 0)) (fun _ h_ => h_.1))))) (Kd.R_lt (by (with_reducible repeat (first | apply Kd.R_alloc | apply Kd.R_drewN | apply Kd.R_drew)); exact (Kd.R_mono (Kd.R_far (p := ⟨gb572, 2, none⟩) (fs3_ HO568.out BK572.out) (fun _ hk => hk.2) (.slice none 0 0)) (fun _ h_ => h_.1))))) (below_size (hB HB))); replace HO565 := Aside0.mk (Kd.R_elder' (by (with_reducible repeat (first | apply Kd.R_alloc | apply Kd.R_drewN | apply Kd.R_drew)); exact (Kd.R_mono (Kd.R_far (p := ⟨gb572, 2, none⟩) (fs3_ HO565.out BK572.out) (fun _ hk => hk.2) (.slice none 0 0)) (fun _ h_ => h_.1))) (Kd.R_base ho20) hb); replace HO568 := Aside0.mk (Kd.R_elder' (by (with_reducible repeat (first | apply Kd.R_alloc | apply Kd.R_drewN | apply Kd.R_drew)); exact (Kd.R_mono (Kd.R_far (p := ⟨gb572, 2, none⟩) (fs3_ HO568.out BK572.out) (fun _ hk => hk.2) (.slice none 0 0)) (fun _ h_ => h_.1))) (Kd.R_base ho20) hb); replace HO571 := Aside0.mk (Kd.R_below (by (with_reducible repeat (first | apply Kd.R_alloc | apply Kd.R_drewN | apply Kd.R_drew)); exact (Kd.R_mono (Kd.R_far (p := ⟨gb572, 2, none⟩) (fs3_ HO571.out BK572.out) (fun _ hk => hk.2) (.slice none 0 0)) (fun _ h_ => h_.1))) hb); replace BK560 := Aside0.mk (blk_below (bx BK560) hb); replace BK561 := Aside0.mk (blk_below (bx BK561) hb); replace BK572 := Aside0.mk (blk_below (g := gb572) (o := .cells #[.slice Ao13 t563.length co13, .slice Ao17 t566.length co17, .slice none 0 0] 26 (0, 0)) (bw0_ BK572) hb); replace HB := bst_ HB hb; clear hb ho20; obtain ⟨Ao21, co21, eo21⟩ := Kd.R_slice HO575.out; subst eo21))
 go_loopg [20] k (fun kq v20 w' => ∃ (x20_1 : Int) (x573000_1 : List Int) (x573001_1 : List Int) (x573002_1 : List (S36)) (u573000 : Value) (u573001 : Value) (u573002 : Value), v20 = .int .i64 x20_1 ∧ Aside0 (spec_SettlePair.l0 kq y573 (y573.length : Int) x20_1 x573000_1 x573001_1 x573002_1 = some (r1, r2, r3, r4)) ∧ Aside0 (kq ≤ k) ∧ Aside0 (Kd.R (Kd.int .i64) 3 w' w.heap.size (fun k_ => some k_ ≠ (u573000 : Value).ownBlock ∧ some k_ ≠ (u573001 : Value).ownBlock) (.slice Ao21 y573.length co21) y573) ∧ Aside0 (Kd.R (Kd.int .i64) 3 w' w.heap.size (fun k_ => no_ (.slice Ao21 y573.length co21) k_ ∧ some k_ ≠ (u573001 : Value).ownBlock) u573000 x573000_1) ∧ Aside0 (Kd.R (Kd.int .i64) 3 w' w.heap.size (fun k_ => no_ (.slice Ao21 y573.length co21) k_ ∧ some k_ ≠ (u573000 : Value).ownBlock) u573001 x573001_1) ∧ Aside0 (Kd.R k36 36 w' w.heap.size (fun _ => True) u573002 x573002_1) ∧ Aside0 (w'.heap[gb560]? = some (.cells #[(.slice A0_0 l0_0.length c0_0), (.slice A0_1 l0_1.length c0_1), (.slice A0_2 l0_2.length c0_2)] 26 (0, 0))) ∧ Aside0 (w'.heap[gb561]? = some (.cells #[(.slice none 0 0), (.slice none 0 0), (.slice none 0 0)] 26 (0, 0))) ∧ Aside0 (w'.heap[gb572]? = some (.cells #[u573000, u573001, u573002] 26 (0, 0))) ∧ Aside0 (Below w.heap.size w w'))
 case atStart => exact ⟨(0), (t563), (t566), (([] : List (S36))), (.slice Ao13 t563.length co13), (.slice Ao17 t566.length co17), (.slice none 0 0), (by first | rfl | (simp; done) | (simp [*]; done)), H', ⟨Nat.le_refl _⟩, rm_ HO575 (fun _ hk => ⟨hk.1.2, hk.2⟩), rm_ HO565 (fun _ hk => ⟨hk.2, hk.1⟩), rm_ HO568 (fun _ hk => ⟨hk.2, hk.1⟩), ⟨by first | exact Kd.R_nil _ _ _ _ _ | exact Kd.N_nil _ _ _ _ _ | exact Kd.V_nil _ _ _ _ _ | exact Kd.Q_nil _ _ _ _ _ | exact Kd.S_nil _ _ _ _ _⟩, ⟨bw0_ BK560⟩, ⟨bw0_ BK561⟩, ⟨bw0_ BK572⟩, ⟨hB HB⟩⟩
 case round =>
  clear H'
  try clear c3
  try clear hcz10_0
  try clear hcz10_1
  try clear hcz10_2
  try clear hcz16_0
  try clear hcz16_1
  try clear hcz16_2
  try clear hcz8_0
  try clear hcz8_1
  try clear hcz8_2
  try clear hfz10_0
  try clear hfz10_1
  try clear hfz10_2
  try clear hfz16_0
  try clear hfz16_1
  try clear hfz16_2
  try clear hfz8_0
  try clear hfz8_1
  try clear hfz8_2
  obtain ⟨x20_1, x573000_1, x573001_1, x573002_1, u573000, u573001, u573002, rfl, HA, HK1, HO_18, HO_573000, HO_573001, HO_573002, BK560, BK561, BK572, HB⟩ := hrel
  cases gk with
  | zero => exact absurd HA.out (by simp [spec_SettlePair.l0])
  | succ k1 =>
   have H := HA.out
   clear HA
   simp only [spec_SettlePair.l0] at H
   by_cases c22 : x20_1 < (y573.length : Int)
   rotate_left
   ·rw [if_neg c22] at H
    have c22b0 : decide (x20_1 < (y573.length : Int)) = false := decide_eq_false c22
    clear c22
    replace H := Option.bind_eq_some_iff.mp H
    obtain ⟨⟨t599, t602, t605⟩, A550, H⟩ := H
    replace H : (some (t599, t602, t605, true)) = some (r1, r2, r3, r4) := H
    have A55 := Aside0.mk A550
    clear A550
    simp only [Option.some.injEq, Prod.mk.injEq] at H
    obtain ⟨rfl, rfl, rfl, rfl⟩ := H
    obtain ⟨hnb56, hnc56⟩ := nn_ NB572_560
    obtain ⟨hnb57, hnc57⟩ := nn_ NB572_561
    obtain ⟨hcz58_0, hcz58_1, hcz58_2⟩ := bcs3_ BK572
    obtain ⟨hfz58_0, hfz58_1, hfz58_2⟩ := bz3_ BK572
    obtain ⟨Ao59, co59, eo59⟩ := Kd.R_slice HO_573000.out
    subst eo59
    obtain ⟨Ao60, co60, eo60⟩ := Kd.R_slice HO_573001.out
    subst eo60
    obtain ⟨Ao61, co61, eo61⟩ := Kd.R_slice HO_573002.out
    subst eo61
    go_wp2_with (first | ((with_reducible refine gate_dst (N := 40) rfl ?_); refine goesL_ (some 40) rfl rfl Try.func25 (by kernel_rfl) rfl #[.agg #[.slice Ao59 x573000_1.length co59, .slice Ao60 x573001_1.length co60, .slice Ao61 x573002_1.length co61]] rfl tm_ ?_; (with_reducible refine (spec_l3Own.calls _ _ x573000_1 _ _ x573001_1 _ _ x573002_1 t599 t602 t605 _ ?side1 ?side2 ?side3 ?side4 ?side5 ?side6 A55.out).mono ?_); (case side1 => exact ca (Kd.R_reads' HO_573000.out).2.2); (case side2 => exact (Kd.R_reads' HO_573000.out).2.1); (case side3 => exact ca (Kd.R_reads' HO_573001.out).2.2); (case side4 => exact (Kd.R_reads' HO_573001.out).2.1); (case side5 => exact ca (Kd.R_reads' HO_573002.out).2.2); (case side6 => exact (Kd.R_reads' HO_573002.out).2.1); rintro e w62 ⟨v600, v603, v606, rfl, ho0, ho1, ho2, hb⟩; refine ⟨_, rfl, ?_⟩; have HO601 := Aside0.mk (Kd.R_lower (Kd.R_new' (Kd.R_new' (Kd.R_new' ho0 (rl_ HO_18)) (rl_ HO_573000)) (rl_ HO_573001)) (below_size (hB HB))); have HO604 := Aside0.mk (Kd.R_lower (Kd.R_new' (Kd.R_new' (Kd.R_new' ho1 (rl_ HO_18)) (rl_ HO_573000)) (rl_ HO_573001)) (below_size (hB HB))); have HO607 := Aside0.mk (Kd.R_lower (Kd.R_new' ho2 (rl_ HO_573002)) (below_size (hB HB))); replace HO_18 := rt2_ HO_18 hb ho0 ho1; replace HO_573000 := rt2_ HO_573000 hb ho0 ho1; replace HO_573001 := rt2_ HO_573001 hb ho0 ho1; replace HO_573002 := re_ HO_573002 ho2 hb; replace BK560 := bb_ BK560 hb; replace BK561 := bb_ BK561 hb; replace BK572 := bb_ BK572 hb; replace HB := bst_ HB hb; clear hb ho0 ho1 ho2; obtain ⟨Ao63, co63, eo63⟩ := Kd.R_slice HO601.out; subst eo63; obtain ⟨hnb64, hnc64⟩ := nn_ NB561_560; obtain ⟨hcz65_0, hcz65_1, hcz65_2⟩ := bcs3_ BK561; obtain ⟨hfz65_0, hfz65_1, hfz65_2⟩ := bz3_ BK561; obtain ⟨Ao66, co66, eo66⟩ := Kd.R_slice HO604.out; subst eo66; obtain ⟨Ao67, co67, eo67⟩ := Kd.R_slice HO607.out; subst eo67))
    refine bodyPost_ret (results_ct rfl _ _ gb561 26 #[.slice Ao63 t599.length co63, .slice Ao66 t602.length co66, .slice Ao67 t605.length co67] (0, 0) _ rfl (bw0_ BK561) Try.underlying26 rfl (by kernel_rfl)) rfl ?_
    exact ⟨_, _, _, rt_, ro_ (fs3_ HO601.out BK561.out) (fun _ hk => hk.1.1.1.1), ro_ (fs3_ HO604.out BK561.out) (fun _ hk => hk.1.1.1.1), ro_ (fs3_ HO607.out BK561.out) (fun _ hk => trivial), hB HB⟩
   rw [if_pos c22] at H
   have c22b0 : decide (x20_1 < (y573.length : Int)) = true := decide_eq_true c22
   clear c22
   by_cases c23 : 0 ≤ x20_1
   rotate_left
   ·rw [if_neg c23] at H
    exact absurd H (by simp)
   rw [if_pos c23] at H
   have c23b0 : decide (0 ≤ x20_1) = true := decide_eq_true c23
   clear c23
   by_cases c24 : x20_1 < (y573.length : Int)
   rotate_left
   ·rw [if_neg c24] at H
    exact absurd H (by simp)
   rw [if_pos c24] at H
   have c24b0 : decide (x20_1 < (y573.length : Int)) = true := decide_eq_true c24
   clear c24
   replace H := Option.bind_eq_some_iff.mp H
   obtain ⟨⟨t577, t580, t583, t586⟩, A250, H⟩ := H
   replace H : ((spec_l3Step.f k1 t577 t580 t583 2 0).bind fun bt588 => (spec_SettlePair.l0 k1 y573 (y573.length : Int) (wrap64 (x20_1 + 1)) bt588.1 bt588.2.1 bt588.2.2.1)) = some (r1, r2, r3, r4) := H
   have A25 := Aside0.mk A250
   clear A250
   replace H := Option.bind_eq_some_iff.mp H
   obtain ⟨⟨t588, t591, t594, t597⟩, A260, H⟩ := H
   replace H : (spec_SettlePair.l0 k1 y573 (y573.length : Int) (wrap64 (x20_1 + 1)) t588 t591 t594) = some (r1, r2, r3, r4) := H
   have A26 := Aside0.mk A260
   clear A260
   have H' := Aside0.mk H
   clear H
   have p576 : 0 ≤ (x20_1 : Int) := od_
   have q576 : x20_1 < (y573.length : Int) := od_
   obtain ⟨ad576, e576, hx576_0⟩ := Kd.at_int (Kd.R_reads' HO_18.out).2.2 x20_1 p576 q576
   cases e576
   replace p576 := eq_true p576
   replace q576 := eq_true q576
   obtain ⟨hnb27, hnc27⟩ := nn_ NB572_560
   obtain ⟨hnb28, hnc28⟩ := nn_ NB572_561
   obtain ⟨hcz29_0, hcz29_1, hcz29_2⟩ := bcs3_ BK572
   obtain ⟨hfz29_0, hfz29_1, hfz29_2⟩ := bz3_ BK572
   obtain ⟨Ao30, co30, eo30⟩ := Kd.R_slice HO_573000.out
   subst eo30
   obtain ⟨Ao31, co31, eo31⟩ := Kd.R_slice HO_573001.out
   subst eo31
   obtain ⟨Ao32, co32, eo32⟩ := Kd.R_slice HO_573002.out
   subst eo32
   go_wp2_with (first | ((with_reducible refine gate_dst (N := 28) rfl ?_); refine goesL_ (some 28) rfl rfl Try.func24 (by kernel_rfl) rfl #[.agg #[.slice Ao30 x573000_1.length co30, .slice Ao31 x573001_1.length co31, .slice Ao32 x573002_1.length co32], .agg #[.int .i64 1, .int .i64 (rd y573 x20_1)]] rfl tm_ ?_; (with_reducible refine (spec_l3Step.calls k1 (fun k_ => some k_ = (.slice Ao30 x573000_1.length co30 : Value).ownBlock) (.slice Ao30 x573000_1.length co30) x573000_1 (fun k_ => some k_ = (.slice Ao31 x573001_1.length co31 : Value).ownBlock) (.slice Ao31 x573001_1.length co31) x573001_1 (fun k_ => some k_ = (.slice Ao32 x573002_1.length co32 : Value).ownBlock) (.slice Ao32 x573002_1.length co32) x573002_1 1 (rd y573 x20_1) t577 t580 t583 t586 w _ ?side1 ?side2 ?side3 ?side4 ?side5 ?side6 A25.out).mono ?_); (case side1 => exact hB HB); (case side2 => exact Kd.R_tight rfl HO_573000.out); (case side3 => exact fun k_ e_ => (HO_573000.out.1 k_ e_.symm).2); (case side4 => exact Kd.R_tight rfl HO_573001.out); (case side5 => exact fun k_ e_ => (HO_573001.out.1 k_ e_.symm).2); (case side6 => exact Kd.R_tight rfl HO_573002.out); rintro e w33 ⟨v578, v581, v584, rfl, ho0, ho1, ho2, hb, hkp⟩; refine ⟨_, rfl, ?_⟩; have HO579 := Aside0.mk (Kd.R_mono (ok' := fun k_ => no_ v581 k_ ∧ some k_ ≠ (.slice (some ad576) y573.length co21 : Value).ownBlock) ho0 (fun k_ hk_ => ⟨hk_.2, Or.elim hk_.1 (fun hs_ => Or.elim hs_ (fun hs_ => fun e_ => ((((Kd.R_apart' HO_18.out (Kd.R_typed HO_573002.out) (by decide))).1 k_ e_.symm).1.1) hs_) (fun hs_ => Or.elim hs_ (fun hs_ => fun e_ => ((((Kd.R_apart' HO_18.out (Kd.R_typed HO_573002.out) (by decide))).1 k_ e_.symm).1.2) hs_) (fun hs_ => fun e_ => ((((Kd.R_apart' HO_18.out (Kd.R_typed HO_573002.out) (by decide))).1 k_ e_.symm).2) hs_))) (fun hn_ => (Kd.fresh' (rl_ HO_18) k_ hn_))⟩)); have HO582 := Aside0.mk (Kd.R_mono (ok' := fun k_ => no_ v578 k_ ∧ some k_ ≠ (.slice (some ad576) y573.length co21 : Value).ownBlock) ho1 (fun k_ hk_ => ⟨hk_.2, Or.elim hk_.1 (fun hs_ => Or.elim hs_ (fun hs_ => fun e_ => ((((Kd.R_apart' HO_18.out (Kd.R_typed HO_573002.out) (by decide))).1 k_ e_.symm).1.1) hs_) (fun hs_ => Or.elim hs_ (fun hs_ => fun e_ => ((((Kd.R_apart' HO_18.out (Kd.R_typed HO_573002.out) (by decide))).1 k_ e_.symm).1.2) hs_) (fun hs_ => fun e_ => ((((Kd.R_apart' HO_18.out (Kd.R_typed HO_573002.out) (by decide))).1 k_ e_.symm).2) hs_))) (fun hn_ => (Kd.fresh' (rl_ HO_18) k_ hn_))⟩)); have HO585 := Aside0.mk (Kd.R_mono (ok' := fun k_ => True) ho2 (fun k_ hk_ => trivial)); replace HO_18 := Aside0.mk (Kd.R_mono (ok' := fun k_ => no_ v578 k_ ∧ no_ v581 k_) (Kd.R_keptB ((Kd.R_apart' HO_18.out (Kd.R_typed HO_573002.out) (by decide))) hkp (fun k_ hk_ hs_ => Or.elim hs_ (fun e_ => (hk_.1.1) e_) (fun e_ => Or.elim e_ (fun e_ => (hk_.1.2) e_) (fun e_ => (hk_.2) e_)))) (fun k_ hk_ => ⟨fun e_ => Or.elim (ho0.1 k_ e_.symm).1 (fun hs_ => hk_.2.1 hs_) (fun hn_ => Nat.not_le.2 hk_.2.2 hn_), fun e_ => Or.elim (ho1.1 k_ e_.symm).1 (fun hs_ => hk_.2.1 hs_) (fun hn_ => Nat.not_le.2 hk_.2.2 hn_)⟩)); replace BK560 := Aside0.mk (blk_kept (ba BK560.out) hkp (fun hs_ => Or.elim hs_ (kne_ HO_573000 BK560) (fun e_ => Or.elim e_ (kne_ HO_573001 BK560) (kne_ HO_573002 BK560)))); replace BK561 := Aside0.mk (blk_kept (ba BK561.out) hkp (fun hs_ => Or.elim hs_ (kne_ HO_573000 BK561) (fun e_ => Or.elim e_ (kne_ HO_573001 BK561) (kne_ HO_573002 BK561)))); replace BK572 := Aside0.mk (blk_kept (ba BK572.out) hkp (fun hs_ => Or.elim hs_ (kne_ HO_573000 BK572) (fun e_ => Or.elim e_ (kne_ HO_573001 BK572) (kne_ HO_573002 BK572)))); replace HB := Aside0.mk (hb); clear HO_573000 HO_573001 HO_573002; clear hb ho0 ho1 ho2) | ((with_reducible refine gate_dst (N := 7) rfl ?_); refine bx_ev 7 #[.slice none 0 0, .slice none 0 0, .slice none 0 0] 26 ?_; intro gb587 hg w34 hbox hb; have BK587 := Aside0.mk (hbox); have GW587 := gw_ hg HB; have GE587 := gw_ hg HB; have NB560_587 := nl_ hg BK560; have NB587_560 := ng_ hg BK560; have NB561_587 := nl_ hg BK561; have NB587_561 := ng_ hg BK561; have NB572_587 := nl_ hg BK572; have NB587_572 := ng_ hg BK572; replace HO_18 := rb_ HO_18 hb; replace HO579 := rb_ HO579 hb; replace HO582 := rb_ HO582 hb; replace HO585 := rb_ HO585 hb; replace BK560 := bb_ BK560 hb; replace BK561 := bb_ BK561 hb; replace BK572 := bb_ BK572 hb; replace HB := bst_ HB hb; clear hb hbox hg; obtain ⟨Ao35, co35, eo35⟩ := Kd.R_slice HO579.out; subst eo35; obtain ⟨hnb36, hnc36⟩ := nn_ NB587_560; obtain ⟨hnb37, hnc37⟩ := nn_ NB587_561; obtain ⟨hnb38, hnc38⟩ := nn_ NB587_572; obtain ⟨hcz39_0, hcz39_1, hcz39_2⟩ := bcs3_ BK587; obtain ⟨hfz39_0, hfz39_1, hfz39_2⟩ := bz3_ BK587; obtain ⟨Ao40, co40, eo40⟩ := Kd.R_slice HO582.out; subst eo40; obtain ⟨Ao41, co41, eo41⟩ := Kd.R_slice HO585.out; subst eo41) | ((with_reducible refine gate_store (t := 26) (p := 7) rfl ?_); refine store_event (t := 26) (p := 7) (v := ?vo_w42) (w1 := (((w34.setCell ⟨gb587, 0, none⟩ (.slice Ao35 t577.length co35)).setCell ⟨gb587, 1, none⟩ (.slice Ao40 t580.length co40)).setCell ⟨gb587, 2, none⟩ (.slice Ao41 t583.length co41))) ?hg ?ho ?hn ?hr ?_; (case ho => rfl); (case hg => rfl); (case hn => rfl); (case hr => first | (go_simp; done) | (go_simp; rfl)); intro w42 hw; have n0_ : Aside0 (Kd.R (Kd.int .i64) 3 w42 w.heap.size (fun k_ => no_ (.slice Ao35 t577.length co35) k_ ∧ no_ (.slice Ao40 t580.length co40) k_) (.slice (some ad576) y573.length co21) y573) := ⟨(by rw [hw]; exact (ro_ (fs3_ HO_18.out BK587.out) (fun _ hk => hk.1)))⟩; have n1_ : Aside0 (Kd.R (Kd.int .i64) 3 w42 w.heap.size (fun k_ => some k_ ≠ (.slice (some ad576) y573.length co21 : Value).ownBlock ∧ no_ (.slice Ao40 t580.length co40) k_) (.slice Ao35 t577.length co35) t577) := ⟨(by rw [hw]; exact (ro_ (fs3_ HO579.out BK587.out) (fun _ hk => ⟨hk.1.2, hk.1.1⟩)))⟩; have n2_ : Aside0 (Kd.R (Kd.int .i64) 3 w42 w.heap.size (fun k_ => some k_ ≠ (.slice (some ad576) y573.length co21 : Value).ownBlock ∧ no_ (.slice Ao35 t577.length co35) k_) (.slice Ao40 t580.length co40) t580) := ⟨(by rw [hw]; exact (ro_ (fs3_ HO582.out BK587.out) (fun _ hk => ⟨hk.1.2, hk.1.1⟩)))⟩; have n3_ : Aside0 (Kd.R k36 36 w42 w.heap.size (fun _ => True) (.slice Ao41 t583.length co41) t583) := ⟨(by rw [hw]; exact (ro_ (fs3_ HO585.out BK587.out) (fun _ hk => trivial)))⟩; have n4_ : Aside0 (w42.heap[gb560]? = some (.cells #[.slice A0_0 l0_0.length c0_0, .slice A0_1 l0_1.length c0_1, .slice A0_2 l0_2.length c0_2] 26 (0, 0))) := ⟨(by rw [hw]; exact (bx BK560))⟩; have n5_ : Aside0 (w42.heap[gb561]? = some (.cells #[.slice none 0 0, .slice none 0 0, .slice none 0 0] 26 (0, 0))) := ⟨(by rw [hw]; exact (bx BK561))⟩; have n6_ : Aside0 (w42.heap[gb572]? = some (.cells #[.slice Ao30 x573000_1.length co30, .slice Ao31 x573001_1.length co31, .slice Ao32 x573002_1.length co32] 26 (0, 0))) := ⟨(by rw [hw]; exact (bx BK572))⟩; have n7_ : Aside0 (w42.heap[gb587]? = some (.cells #[.slice Ao35 t577.length co35, .slice Ao40 t580.length co40, .slice Ao41 t583.length co41] 26 (0, 0))) := ⟨(by rw [hw]; exact (bw0_ BK587))⟩; have n8_ : Aside0 (Below w.heap.size w w42) := ⟨(by rw [hw]; exact (hB HB))⟩; clear hw; clear HO_18; clear HO579; clear HO582; clear HO585; clear BK560; clear BK561; clear BK572; clear BK587; clear HB; have HO_18 := n0_; have HO579 := n1_; have HO582 := n2_; have HO585 := n3_; have BK560 := n4_; have BK561 := n5_; have BK572 := n6_; have BK587 := n7_; have HB := n8_; clear n0_ n1_ n2_ n3_ n4_ n5_ n6_ n7_ n8_; obtain ⟨hcz43_0, hcz43_1, hcz43_2⟩ := bcs3_ BK587; obtain ⟨hfz43_0, hfz43_1, hfz43_2⟩ := bz3_ BK587) | ((with_reducible refine gate_dst (N := 34) rfl ?_); refine goesL_ (some 34) rfl rfl Try.func24 (by kernel_rfl) rfl #[.agg #[.slice Ao35 t577.length co35, .slice Ao40 t580.length co40, .slice Ao41 t583.length co41], .agg #[.int .i64 2, .int .i64 0]] rfl tm_ ?_; (with_reducible refine (spec_l3Step.calls k1 (fun k_ => some k_ = (.slice Ao35 t577.length co35 : Value).ownBlock) (.slice Ao35 t577.length co35) t577 (fun k_ => some k_ = (.slice Ao40 t580.length co40 : Value).ownBlock) (.slice Ao40 t580.length co40) t580 (fun k_ => some k_ = (.slice Ao41 t583.length co41 : Value).ownBlock) (.slice Ao41 t583.length co41) t583 2 0 t588 t591 t594 t597 w _ ?side1 ?side2 ?side3 ?side4 ?side5 ?side6 A26.out).mono ?_); (case side1 => exact hB HB); (case side2 => exact Kd.R_tight rfl HO579.out); (case side3 => exact fun k_ e_ => (HO579.out.1 k_ e_.symm).2); (case side4 => exact Kd.R_tight rfl HO582.out); (case side5 => exact fun k_ e_ => (HO582.out.1 k_ e_.symm).2); (case side6 => exact Kd.R_tight rfl HO585.out); rintro e w44 ⟨v589, v592, v595, rfl, ho0, ho1, ho2, hb, hkp⟩; refine ⟨_, rfl, ?_⟩; have HO590 := Aside0.mk (Kd.R_mono (ok' := fun k_ => no_ v592 k_ ∧ some k_ ≠ (.slice (some ad576) y573.length co21 : Value).ownBlock) ho0 (fun k_ hk_ => ⟨hk_.2, Or.elim hk_.1 (fun hs_ => Or.elim hs_ (fun hs_ => fun e_ => ((((Kd.R_apart' HO_18.out (Kd.R_typed HO585.out) (by decide))).1 k_ e_.symm).1.1) hs_) (fun hs_ => Or.elim hs_ (fun hs_ => fun e_ => ((((Kd.R_apart' HO_18.out (Kd.R_typed HO585.out) (by decide))).1 k_ e_.symm).1.2) hs_) (fun hs_ => fun e_ => ((((Kd.R_apart' HO_18.out (Kd.R_typed HO585.out) (by decide))).1 k_ e_.symm).2) hs_))) (fun hn_ => (Kd.fresh' (rl_ HO_18) k_ hn_))⟩)); have HO593 := Aside0.mk (Kd.R_mono (ok' := fun k_ => no_ v589 k_ ∧ some k_ ≠ (.slice (some ad576) y573.length co21 : Value).ownBlock) ho1 (fun k_ hk_ => ⟨hk_.2, Or.elim hk_.1 (fun hs_ => Or.elim hs_ (fun hs_ => fun e_ => ((((Kd.R_apart' HO_18.out (Kd.R_typed HO585.out) (by decide))).1 k_ e_.symm).1.1) hs_) (fun hs_ => Or.elim hs_ (fun hs_ => fun e_ => ((((Kd.R_apart' HO_18.out (Kd.R_typed HO585.out) (by decide))).1 k_ e_.symm).1.2) hs_) (fun hs_ => fun e_ => ((((Kd.R_apart' HO_18.out (Kd.R_typed HO585.out) (by decide))).1 k_ e_.symm).2) hs_))) (fun hn_ => (Kd.fresh' (rl_ HO_18) k_ hn_))⟩)); have HO596 := Aside0.mk (Kd.R_mono (ok' := fun k_ => True) ho2 (fun k_ hk_ => trivial)); replace HO_18 := Aside0.mk (Kd.R_mono (ok' := fun k_ => no_ v589 k_ ∧ no_ v592 k_) (Kd.R_keptB ((Kd.R_apart' HO_18.out (Kd.R_typed HO585.out) (by decide))) hkp (fun k_ hk_ hs_ => Or.elim hs_ (fun e_ => (hk_.1.1) e_) (fun e_ => Or.elim e_ (fun e_ => (hk_.1.2) e_) (fun e_ => (hk_.2) e_)))) (fun k_ hk_ => ⟨fun e_ => Or.elim (ho0.1 k_ e_.symm).1 (fun hs_ => hk_.2.1 hs_) (fun hn_ => Nat.not_le.2 hk_.2.2 hn_), fun e_ => Or.elim (ho1.1 k_ e_.symm).1 (fun hs_ => hk_.2.1 hs_) (fun hn_ => Nat.not_le.2 hk_.2.2 hn_)⟩)); replace BK560 := Aside0.mk (blk_kept (ba BK560.out) hkp (fun hs_ => Or.elim hs_ (kne_ HO579 BK560) (fun e_ => Or.elim e_ (kne_ HO582 BK560) (kne_ HO585 BK560)))); replace BK561 := Aside0.mk (blk_kept (ba BK561.out) hkp (fun hs_ => Or.elim hs_ (kne_ HO579 BK561) (fun e_ => Or.elim e_ (kne_ HO582 BK561) (kne_ HO585 BK561)))); replace BK572 := Aside0.mk (blk_kept (ba BK572.out) hkp (fun hs_ => Or.elim hs_ (kne_ HO579 BK572) (fun e_ => Or.elim e_ (kne_ HO582 BK572) (kne_ HO585 BK572)))); replace BK587 := Aside0.mk (blk_kept (ba BK587.out) hkp (fun hs_ => Or.elim hs_ (kne_ HO579 BK587) (fun e_ => Or.elim e_ (kne_ HO582 BK587) (kne_ HO585 BK587)))); replace HB := Aside0.mk (hb); clear HO579 HO582 HO585; clear hb ho0 ho1 ho2) | ((with_reducible refine gate_dst (N := 9) rfl ?_); refine bx_ev 9 #[.slice none 0 0, .slice none 0 0, .slice none 0 0] 26 ?_; intro gb598 hg w45 hbox hb; have BK598 := Aside0.mk (hbox); have GW598 := gw_ hg HB; have GE598 := gw_ hg HB; have NB560_598 := nl_ hg BK560; have NB598_560 := ng_ hg BK560; have NB561_598 := nl_ hg BK561; have NB598_561 := ng_ hg BK561; have NB572_598 := nl_ hg BK572; have NB598_572 := ng_ hg BK572; have NB587_598 := nl_ hg BK587; have NB598_587 := ng_ hg BK587; replace HO_18 := rb_ HO_18 hb; replace HO590 := rb_ HO590 hb; replace HO593 := rb_ HO593 hb; replace HO596 := rb_ HO596 hb; replace BK560 := bb_ BK560 hb; replace BK561 := bb_ BK561 hb; replace BK572 := bb_ BK572 hb; replace BK587 := bb_ BK587 hb; replace HB := bst_ HB hb; clear hb hbox hg; obtain ⟨Ao46, co46, eo46⟩ := Kd.R_slice HO590.out; subst eo46; obtain ⟨hnb47, hnc47⟩ := nn_ NB598_560; obtain ⟨hnb48, hnc48⟩ := nn_ NB598_561; obtain ⟨hnb49, hnc49⟩ := nn_ NB598_572; obtain ⟨hnb50, hnc50⟩ := nn_ NB598_587; obtain ⟨hcz51_0, hcz51_1, hcz51_2⟩ := bcs3_ BK598; obtain ⟨hfz51_0, hfz51_1, hfz51_2⟩ := bz3_ BK598; obtain ⟨Ao52, co52, eo52⟩ := Kd.R_slice HO593.out; subst eo52; obtain ⟨Ao53, co53, eo53⟩ := Kd.R_slice HO596.out; subst eo53; obtain ⟨hcz54_0, hcz54_1, hcz54_2⟩ := bcs3_ BK572; obtain ⟨hfz54_0, hfz54_1, hfz54_2⟩ := bz3_ BK572))
   go_roundg k1
   case measure => have := HK1.out; omega
   case rel => exact ⟨(wrap64 (x20_1 + 1)), (t588), (t591), (t594), (.slice Ao46 t588.length co46), (.slice Ao52 t591.length co52), (.slice Ao53 t594.length co53), (by first | rfl | (simp; done) | (simp [*]; done)), H', ⟨by have := HK1.out; omega⟩, ⟨ro_ (Kd.R_far (p := ⟨gb572, 2, none⟩) (Kd.R_far (p := ⟨gb572, 1, none⟩) (Kd.R_far (p := ⟨gb572, 0, none⟩) (Kd.R_far (p := ⟨gb598, 2, none⟩) (Kd.R_far (p := ⟨gb598, 1, none⟩) (Kd.R_far (p := ⟨gb598, 0, none⟩) (Kd.R_types (Kd.R_types HO_18.out BK598.out (by decide)) BK572.out (by decide)) (fun _ hk => hk.1.2) (.slice Ao46 t588.length co46)) (fun _ hk => hk.1.2) (.slice Ao52 t591.length co52)) (fun _ hk => hk.1.2) (.slice Ao53 t594.length co53)) (fun _ hk => hk.2) (.slice Ao46 t588.length co46)) (fun _ hk => hk.2) (.slice Ao52 t591.length co52)) (fun _ hk => hk.2) (.slice Ao53 t594.length co53)) (fun _ hk => hk.1.1)⟩, ⟨ro_ (Kd.R_far (p := ⟨gb572, 2, none⟩) (Kd.R_far (p := ⟨gb572, 1, none⟩) (Kd.R_far (p := ⟨gb572, 0, none⟩) (Kd.R_far (p := ⟨gb598, 2, none⟩) (Kd.R_far (p := ⟨gb598, 1, none⟩) (Kd.R_far (p := ⟨gb598, 0, none⟩) (Kd.R_types (Kd.R_types HO590.out BK598.out (by decide)) BK572.out (by decide)) (fun _ hk => hk.1.2) (.slice Ao46 t588.length co46)) (fun _ hk => hk.1.2) (.slice Ao52 t591.length co52)) (fun _ hk => hk.1.2) (.slice Ao53 t594.length co53)) (fun _ hk => hk.2) (.slice Ao46 t588.length co46)) (fun _ hk => hk.2) (.slice Ao52 t591.length co52)) (fun _ hk => hk.2) (.slice Ao53 t594.length co53)) (fun _ hk => ⟨hk.1.1.2, hk.1.1.1⟩)⟩, ⟨ro_ (Kd.R_far (p := ⟨gb572, 2, none⟩) (Kd.R_far (p := ⟨gb572, 1, none⟩) (Kd.R_far (p := ⟨gb572, 0, none⟩) (Kd.R_far (p := ⟨gb598, 2, none⟩) (Kd.R_far (p := ⟨gb598, 1, none⟩) (Kd.R_far (p := ⟨gb598, 0, none⟩) (Kd.R_types (Kd.R_types HO593.out BK598.out (by decide)) BK572.out (by decide)) (fun _ hk => hk.1.2) (.slice Ao46 t588.length co46)) (fun _ hk => hk.1.2) (.slice Ao52 t591.length co52)) (fun _ hk => hk.1.2) (.slice Ao53 t594.length co53)) (fun _ hk => hk.2) (.slice Ao46 t588.length co46)) (fun _ hk => hk.2) (.slice Ao52 t591.length co52)) (fun _ hk => hk.2) (.slice Ao53 t594.length co53)) (fun _ hk => ⟨hk.1.1.2, hk.1.1.1⟩)⟩, ⟨ro_ (Kd.R_far (p := ⟨gb572, 2, none⟩) (Kd.R_far (p := ⟨gb572, 1, none⟩) (Kd.R_far (p := ⟨gb572, 0, none⟩) (Kd.R_far (p := ⟨gb598, 2, none⟩) (Kd.R_far (p := ⟨gb598, 1, none⟩) (Kd.R_far (p := ⟨gb598, 0, none⟩) (Kd.R_types (Kd.R_types HO596.out BK598.out (by decide)) BK572.out (by decide)) (fun _ hk => hk.1.2) (.slice Ao46 t588.length co46)) (fun _ hk => hk.1.2) (.slice Ao52 t591.length co52)) (fun _ hk => hk.1.2) (.slice Ao53 t594.length co53)) (fun _ hk => hk.2) (.slice Ao46 t588.length co46)) (fun _ hk => hk.2) (.slice Ao52 t591.length co52)) (fun _ hk => hk.2) (.slice Ao53 t594.length co53)) (fun _ hk => trivial)⟩, ⟨bw2_ BK560 NB560_572 NB560_598⟩, ⟨bw2_ BK561 NB561_572 NB561_598⟩, ⟨bw1_ BK572 NB572_598⟩, ⟨hB HB⟩⟩

def impl_AreBoth.f (k : Nat) (l0_0 : List Int) (l0_1 : List Int) (l0_2 : List (S36)) : Option (Bool × Bool) := (impl_GoodPair.f k l0_0 l0_1 l0_2).bind fun t609 => (if t609 = true then (if 0 < (l0_0.length : Int) then (if (rd l0_0 0) = 2 then (if 1 < (l0_0.length : Int) then (some (((rd l0_0 1) == 2), true)) else (none)) else (some (false, true))) else (none)) else (some (false, false)))
theorem impl_AreBoth.mono : ∀ a0 a1 a2 k, LeO (impl_AreBoth.f k a0 a1 a2) (impl_AreBoth.f (k + 1) a0 a1 a2) := by
 intro a0 a1 a2 k
 unfold impl_AreBoth.f
 repeat' first
   | (with_reducible exact impl_GoodPair.mono _ _ _ _)
   | with_reducible first | exact LeO.refl _ | exact LeO.none _ | refine LeO.ite ?_ ?_ | refine LeO.bind ?_ fun _ => ?_
set_option maxHeartbeats 8000000 in
set_option maxRecDepth 100000 in
theorem impl_AreBoth.calls (k : Nat) (A0_0 : Option Addr) (c0_0 : Nat) (l0_0 : List Int) (A0_1 : Option Addr) (c0_1 : Nat) (l0_1 : List Int) (A0_2 : Option Addr) (c0_2 : Nat) (l0_2 : List (S36)) (r1 : Bool) (r2 : Bool) (w : World) (hr0_0 : Kd.C (Kd.int .i64) w A0_0 l0_0.length l0_0) (hc0_0 : l0_0.length ≤ c0_0) (hr0_1 : Kd.C (Kd.int .i64) w A0_1 l0_1.length l0_1) (hc0_1 : l0_1.length ≤ c0_1) (hr0_2 : Kd.C k36 w A0_2 l0_2.length l0_2) (hc0_2 : l0_2.length ≤ c0_2) (h : impl_AreBoth.f k l0_0 l0_1 l0_2 = some (r1, r2)) :
  Calls Try.prog 13 #[.agg #[.slice A0_0 l0_0.length c0_0, .slice A0_1 l0_1.length c0_1, .slice A0_2 l0_2.length c0_2]] w fun e w' => e = .returned (.tuple #[.bool r1, .bool r2]) ∧ Below w.heap.size w w' := by
 have hu26 := Try.underlying26
 have HR0_0 := Aside0.mk hr0_0
 have HC0_0 := Aside0.mk hc0_0
 clear hr0_0 hc0_0
 have HR0_1 := Aside0.mk hr0_1
 have HC0_1 := Aside0.mk hc0_1
 clear hr0_1 hc0_1
 have HR0_2 := Aside0.mk hr0_2
 have HC0_2 := Aside0.mk hc0_2
 clear hr0_2 hc0_2
 have HB := Aside0.mk (Below.refl w.heap.size w)
 have H : ((impl_GoodPair.f k l0_0 l0_1 l0_2).bind fun t609 => (if t609 = true then (if 0 < (l0_0.length : Int) then (if (rd l0_0 0) = 2 then (if 1 < (l0_0.length : Int) then (some (((rd l0_0 1) == 2), true)) else (none)) else (some (false, true))) else (none)) else (some (false, false)))) = some (r1, r2) := h
 clear h
 replace H := Option.bind_eq_some_iff.mp H
 obtain ⟨t609, A20, H⟩ := H
 replace H : (if t609 = true then (if 0 < (l0_0.length : Int) then (if (rd l0_0 0) = 2 then (if 1 < (l0_0.length : Int) then (some (((rd l0_0 1) == 2), true)) else (none)) else (some (false, true))) else (none)) else (some (false, false))) = some (r1, r2) := H
 have A2 := Aside0.mk A20
 clear A20
 by_cases c3 : t609 = true
 rotate_left
 ·replace c3 := Bool.eq_false_iff.mpr c3
  subst c3
  rw [if_neg (show ¬ (false = true) by decide)] at H
  simp only [Option.some.injEq, Prod.mk.injEq] at H
  obtain ⟨rfl, rfl⟩ := H
  go_enter Try.func13, Try.ntmps13
  go_wp2_with (first | ((with_reducible refine gate_dst (N := 1) rfl ?_); refine bx_ev 1 #[.slice A0_0 l0_0.length c0_0, .slice A0_1 l0_1.length c0_1, .slice A0_2 l0_2.length c0_2] 26 ?_; intro gb608 hg w15 hbox hb; have BK608 := Aside0.mk (hbox); have GW608 := gw_ hg HB; have GE608 := gw_ hg HB; replace HB := bst_ HB hb; clear hb hbox hg; obtain ⟨hcz16_0, hcz16_1, hcz16_2⟩ := bcs3_ BK608) | ((with_reducible refine gate_dst (N := 5) rfl ?_); refine goesL_ (some 5) rfl rfl Try.func8 (by kernel_rfl) rfl #[.agg #[.slice A0_0 l0_0.length c0_0, .slice A0_1 l0_1.length c0_1, .slice A0_2 l0_2.length c0_2]] rfl tm_ ?_; (with_reducible refine (impl_GoodPair.calls k _ _ l0_0 _ _ l0_1 _ _ l0_2 false _ ?side1 ?side2 ?side3 ?side4 ?side5 ?side6 A2.out).mono ?_); (case side1 => exact cb_ HR0_0 HB); (case side2 => exact HC0_0.out); (case side3 => exact cb_ HR0_1 HB); (case side4 => exact HC0_1.out); (case side5 => exact cb_ HR0_2 HB); (case side6 => exact HC0_2.out); rintro e w17 ⟨rfl, hb⟩; refine ⟨_, rfl, ?_⟩; replace BK608 := bb_ BK608 hb; replace HB := bst_ HB hb; clear hb))
  go_ret2
  exact ⟨rt_, hB HB⟩
 subst c3
 rw [if_pos rfl] at H
 by_cases c4 : 0 < (l0_0.length : Int)
 rotate_left
 ·rw [if_neg c4] at H
  exact absurd H (by simp)
 rw [if_pos c4] at H
 have c4b0 : decide (0 < (l0_0.length : Int)) = true := decide_eq_true c4
 have c4b1 : decide (0 < l0_0.length) = true := decide_eq_true (by omega)
 clear c4
 by_cases c5 : (rd l0_0 0) = 2
 rotate_left
 ·rw [if_neg c5] at H
  have c5b0 : ((rd l0_0 0) == 2) = false := beq_eq_false_iff_ne.mpr c5
  have c5b1 : ((rd l0_0 0) != 2) = true := bne_iff_ne.mpr c5
  simp only [Option.some.injEq, Prod.mk.injEq] at H
  obtain ⟨rfl, rfl⟩ := H
  go_enter Try.func13, Try.ntmps13
  go_wp2_with (first | ((with_reducible refine gate_dst (N := 1) rfl ?_); refine bx_ev 1 #[.slice A0_0 l0_0.length c0_0, .slice A0_1 l0_1.length c0_1, .slice A0_2 l0_2.length c0_2] 26 ?_; intro gb608 hg w11 hbox hb; have BK608 := Aside0.mk (hbox); have GW608 := gw_ hg HB; have GE608 := gw_ hg HB; replace HB := bst_ HB hb; clear hb hbox hg; obtain ⟨hcz12_0, hcz12_1, hcz12_2⟩ := bcs3_ BK608) | ((with_reducible refine gate_dst (N := 5) rfl ?_); refine goesL_ (some 5) rfl rfl Try.func8 (by kernel_rfl) rfl #[.agg #[.slice A0_0 l0_0.length c0_0, .slice A0_1 l0_1.length c0_1, .slice A0_2 l0_2.length c0_2]] rfl tm_ ?_; (with_reducible refine (impl_GoodPair.calls k _ _ l0_0 _ _ l0_1 _ _ l0_2 true _ ?side1 ?side2 ?side3 ?side4 ?side5 ?side6 A2.out).mono ?_); (case side1 => exact cb_ HR0_0 HB); (case side2 => exact HC0_0.out); (case side3 => exact cb_ HR0_1 HB); (case side4 => exact HC0_1.out); (case side5 => exact cb_ HR0_2 HB); (case side6 => exact HC0_2.out); rintro e w13 ⟨rfl, hb⟩; refine ⟨_, rfl, ?_⟩; replace BK608 := bb_ BK608 hb; replace HB := bst_ HB hb; clear hb; obtain ⟨hcz14_0, hcz14_1, hcz14_2⟩ := bcs3_ BK608; have p610 : 0 ≤ (0 : Int) := (by omega); have q610 : 0 < (l0_0.length : Int) := od_; obtain ⟨ad610, e610, hx610_0⟩ := Kd.at_int HR0_0.out 0 p610 q610; cases e610; have qi610 : (0 < l0_0.length) = True := eq_true (by omega); (try rw [show ((0 : Int)).toNat = 0 from rfl] at hx610_0); (try rw [Addr.add_zero'] at hx610_0); replace hx610_0 := hc_ HB hx610_0; replace p610 := eq_true p610; replace q610 := eq_true q610))
  go_ret2
  exact ⟨rt_, hB HB⟩
 rw [if_pos c5] at H
 have c5b0 : ((rd l0_0 0) == 2) = true := beq_iff_eq.mpr c5
 have c5b1 : ((rd l0_0 0) != 2) = false := bne_eq_false_iff_eq.mpr c5
 clear c5
 by_cases c6 : 1 < (l0_0.length : Int)
 rotate_left
 ·rw [if_neg c6] at H
  exact absurd H (by simp)
 rw [if_pos c6] at H
 have c6b0 : decide (1 < (l0_0.length : Int)) = true := decide_eq_true c6
 have c6b1 : decide (1 < l0_0.length) = true := decide_eq_true (by omega)
 clear c6
 simp only [Option.some.injEq, Prod.mk.injEq] at H
 obtain ⟨rfl, rfl⟩ := H
 go_enter Try.func13, Try.ntmps13
 go_wp2_with (first | ((with_reducible refine gate_dst (N := 1) rfl ?_); refine bx_ev 1 #[.slice A0_0 l0_0.length c0_0, .slice A0_1 l0_1.length c0_1, .slice A0_2 l0_2.length c0_2] 26 ?_; intro gb608 hg w7 hbox hb; have BK608 := Aside0.mk (hbox); have GW608 := gw_ hg HB; have GE608 := gw_ hg HB; replace HB := bst_ HB hb; clear hb hbox hg; obtain ⟨hcz8_0, hcz8_1, hcz8_2⟩ := bcs3_ BK608) | ((with_reducible refine gate_dst (N := 5) rfl ?_); refine goesL_ (some 5) rfl rfl Try.func8 (by kernel_rfl) rfl #[.agg #[.slice A0_0 l0_0.length c0_0, .slice A0_1 l0_1.length c0_1, .slice A0_2 l0_2.length c0_2]] rfl tm_ ?_; (with_reducible refine (impl_GoodPair.calls k _ _ l0_0 _ _ l0_1 _ _ l0_2 true _ ?side1 ?side2 ?side3 ?side4 ?side5 ?side6 A2.out).mono ?_); (case side1 => exact cb_ HR0_0 HB); (case side2 => exact HC0_0.out); (case side3 => exact cb_ HR0_1 HB); (case side4 => exact HC0_1.out); (case side5 => exact cb_ HR0_2 HB); (case side6 => exact HC0_2.out); rintro e w9 ⟨rfl, hb⟩; refine ⟨_, rfl, ?_⟩; replace BK608 := bb_ BK608 hb; replace HB := bst_ HB hb; clear hb; obtain ⟨hcz10_0, hcz10_1, hcz10_2⟩ := bcs3_ BK608; have p610 : 0 ≤ (0 : Int) := (by omega); have q610 : 0 < (l0_0.length : Int) := od_; obtain ⟨ad610, e610, hx610_0⟩ := Kd.at_int HR0_0.out 0 p610 q610; cases e610; have qi610 : (0 < l0_0.length) = True := eq_true (by omega); (try rw [show ((0 : Int)).toNat = 0 from rfl] at hx610_0); (try rw [Addr.add_zero'] at hx610_0); replace hx610_0 := hc_ HB hx610_0; replace p610 := eq_true p610; replace q610 := eq_true q610; have p611 : 0 ≤ (1 : Int) := (by omega); have q611 : 1 < (l0_0.length : Int) := od_; obtain ⟨ad611, e611, hx611_0⟩ := Kd.at_int HR0_0.out 1 p611 q611; obtain rfl : ad610 = ad611 := (by injection e611); (try simp only [show (1 : Int).toNat = 1 from rfl, Nat.reduceMul, Nat.reduceEqDiff, Go.Addr.add, ↓reduceIte] at hx611_0); have qi611 : (1 < l0_0.length) = True := eq_true (by omega); (try rw [show ((1 : Int)).toNat = 1 from rfl] at hx611_0); replace hx611_0 := hc_ HB hx611_0; replace p611 := eq_true p611; replace q611 := eq_true q611))
 go_ret2
 exact ⟨rt_, hB HB⟩

def spec_AreBoth.f (k : Nat) (l0_0 : List Int) (l0_1 : List Int) (l0_2 : List (S36)) : Option (Bool × Bool) := (spec_GoodPair.f k l0_0 l0_1 l0_2).bind fun t613 => (if t613 = true then (if 0 < (l0_0.length : Int) then (if (rd l0_0 0) = 2 then (if 1 < (l0_0.length : Int) then (some (((rd l0_0 1) == 2), true)) else (none)) else (some (false, true))) else (none)) else (some (false, false)))
theorem spec_AreBoth.mono : ∀ a0 a1 a2 k, LeO (spec_AreBoth.f k a0 a1 a2) (spec_AreBoth.f (k + 1) a0 a1 a2) := by
 intro a0 a1 a2 k
 unfold spec_AreBoth.f
 repeat' first
   | (with_reducible exact spec_GoodPair.mono _ _ _ _)
   | with_reducible first | exact LeO.refl _ | exact LeO.none _ | refine LeO.ite ?_ ?_ | refine LeO.bind ?_ fun _ => ?_
set_option maxHeartbeats 8000000 in
set_option maxRecDepth 100000 in
theorem spec_AreBoth.calls (k : Nat) (A0_0 : Option Addr) (c0_0 : Nat) (l0_0 : List Int) (A0_1 : Option Addr) (c0_1 : Nat) (l0_1 : List Int) (A0_2 : Option Addr) (c0_2 : Nat) (l0_2 : List (S36)) (r1 : Bool) (r2 : Bool) (w : World) (hr0_0 : Kd.C (Kd.int .i64) w A0_0 l0_0.length l0_0) (hc0_0 : l0_0.length ≤ c0_0) (hr0_1 : Kd.C (Kd.int .i64) w A0_1 l0_1.length l0_1) (hc0_1 : l0_1.length ≤ c0_1) (hr0_2 : Kd.C k36 w A0_2 l0_2.length l0_2) (hc0_2 : l0_2.length ≤ c0_2) (h : spec_AreBoth.f k l0_0 l0_1 l0_2 = some (r1, r2)) :
  Calls Try.prog 14 #[.agg #[.slice A0_0 l0_0.length c0_0, .slice A0_1 l0_1.length c0_1, .slice A0_2 l0_2.length c0_2]] w fun e w' => e = .returned (.tuple #[.bool r1, .bool r2]) ∧ Below w.heap.size w w' := by
 have hu26 := Try.underlying26
 have HR0_0 := Aside0.mk hr0_0
 have HC0_0 := Aside0.mk hc0_0
 clear hr0_0 hc0_0
 have HR0_1 := Aside0.mk hr0_1
 have HC0_1 := Aside0.mk hc0_1
 clear hr0_1 hc0_1
 have HR0_2 := Aside0.mk hr0_2
 have HC0_2 := Aside0.mk hc0_2
 clear hr0_2 hc0_2
 have HB := Aside0.mk (Below.refl w.heap.size w)
 have H : ((spec_GoodPair.f k l0_0 l0_1 l0_2).bind fun t613 => (if t613 = true then (if 0 < (l0_0.length : Int) then (if (rd l0_0 0) = 2 then (if 1 < (l0_0.length : Int) then (some (((rd l0_0 1) == 2), true)) else (none)) else (some (false, true))) else (none)) else (some (false, false)))) = some (r1, r2) := h
 clear h
 replace H := Option.bind_eq_some_iff.mp H
 obtain ⟨t613, A20, H⟩ := H
 replace H : (if t613 = true then (if 0 < (l0_0.length : Int) then (if (rd l0_0 0) = 2 then (if 1 < (l0_0.length : Int) then (some (((rd l0_0 1) == 2), true)) else (none)) else (some (false, true))) else (none)) else (some (false, false))) = some (r1, r2) := H
 have A2 := Aside0.mk A20
 clear A20
 by_cases c3 : t613 = true
 rotate_left
 ·replace c3 := Bool.eq_false_iff.mpr c3
  subst c3
  rw [if_neg (show ¬ (false = true) by decide)] at H
  simp only [Option.some.injEq, Prod.mk.injEq] at H
  obtain ⟨rfl, rfl⟩ := H
  go_enter Try.func14, Try.ntmps14
  go_wp2_with (first | ((with_reducible refine gate_dst (N := 1) rfl ?_); refine bx_ev 1 #[.slice A0_0 l0_0.length c0_0, .slice A0_1 l0_1.length c0_1, .slice A0_2 l0_2.length c0_2] 26 ?_; intro gb612 hg w15 hbox hb; have BK612 := Aside0.mk (hbox); have GW612 := gw_ hg HB; have GE612 := gw_ hg HB; replace HB := bst_ HB hb; clear hb hbox hg; obtain ⟨hcz16_0, hcz16_1, hcz16_2⟩ := bcs3_ BK612) | ((with_reducible refine gate_dst (N := 5) rfl ?_); refine goesL_ (some 5) rfl rfl Try.func9 (by kernel_rfl) rfl #[.agg #[.slice A0_0 l0_0.length c0_0, .slice A0_1 l0_1.length c0_1, .slice A0_2 l0_2.length c0_2]] rfl tm_ ?_; (with_reducible refine (spec_GoodPair.calls k _ _ l0_0 _ _ l0_1 _ _ l0_2 false _ ?side1 ?side2 ?side3 ?side4 ?side5 ?side6 A2.out).mono ?_); (case side1 => exact cb_ HR0_0 HB); (case side2 => exact HC0_0.out); (case side3 => exact cb_ HR0_1 HB); (case side4 => exact HC0_1.out); (case side5 => exact cb_ HR0_2 HB); (case side6 => exact HC0_2.out); rintro e w17 ⟨rfl, hb⟩; refine ⟨_, rfl, ?_⟩; replace BK612 := bb_ BK612 hb; replace HB := bst_ HB hb; clear hb))
  go_ret2
  exact ⟨rt_, hB HB⟩
 subst c3
 rw [if_pos rfl] at H
 by_cases c4 : 0 < (l0_0.length : Int)
 rotate_left
 ·rw [if_neg c4] at H
  exact absurd H (by simp)
 rw [if_pos c4] at H
 have c4b0 : decide (0 < (l0_0.length : Int)) = true := decide_eq_true c4
 have c4b1 : decide (0 < l0_0.length) = true := decide_eq_true (by omega)
 clear c4
 by_cases c5 : (rd l0_0 0) = 2
 rotate_left
 ·rw [if_neg c5] at H
  have c5b0 : ((rd l0_0 0) == 2) = false := beq_eq_false_iff_ne.mpr c5
  have c5b1 : ((rd l0_0 0) != 2) = true := bne_iff_ne.mpr c5
  simp only [Option.some.injEq, Prod.mk.injEq] at H
  obtain ⟨rfl, rfl⟩ := H
  go_enter Try.func14, Try.ntmps14
  go_wp2_with (first | ((with_reducible refine gate_dst (N := 1) rfl ?_); refine bx_ev 1 #[.slice A0_0 l0_0.length c0_0, .slice A0_1 l0_1.length c0_1, .slice A0_2 l0_2.length c0_2] 26 ?_; intro gb612 hg w11 hbox hb; have BK612 := Aside0.mk (hbox); have GW612 := gw_ hg HB; have GE612 := gw_ hg HB; replace HB := bst_ HB hb; clear hb hbox hg; obtain ⟨hcz12_0, hcz12_1, hcz12_2⟩ := bcs3_ BK612) | ((with_reducible refine gate_dst (N := 5) rfl ?_); refine goesL_ (some 5) rfl rfl Try.func9 (by kernel_rfl) rfl #[.agg #[.slice A0_0 l0_0.length c0_0, .slice A0_1 l0_1.length c0_1, .slice A0_2 l0_2.length c0_2]] rfl tm_ ?_; (with_reducible refine (spec_GoodPair.calls k _ _ l0_0 _ _ l0_1 _ _ l0_2 true _ ?side1 ?side2 ?side3 ?side4 ?side5 ?side6 A2.out).mono ?_); (case side1 => exact cb_ HR0_0 HB); (case side2 => exact HC0_0.out); (case side3 => exact cb_ HR0_1 HB); (case side4 => exact HC0_1.out); (case side5 => exact cb_ HR0_2 HB); (case side6 => exact HC0_2.out); rintro e w13 ⟨rfl, hb⟩; refine ⟨_, rfl, ?_⟩; replace BK612 := bb_ BK612 hb; replace HB := bst_ HB hb; clear hb; obtain ⟨hcz14_0, hcz14_1, hcz14_2⟩ := bcs3_ BK612; have p614 : 0 ≤ (0 : Int) := (by omega); have q614 : 0 < (l0_0.length : Int) := od_; obtain ⟨ad614, e614, hx614_0⟩ := Kd.at_int HR0_0.out 0 p614 q614; cases e614; have qi614 : (0 < l0_0.length) = True := eq_true (by omega); (try rw [show ((0 : Int)).toNat = 0 from rfl] at hx614_0); (try rw [Addr.add_zero'] at hx614_0); replace hx614_0 := hc_ HB hx614_0; replace p614 := eq_true p614; replace q614 := eq_true q614))
  go_ret2
  exact ⟨rt_, hB HB⟩
 rw [if_pos c5] at H
 have c5b0 : ((rd l0_0 0) == 2) = true := beq_iff_eq.mpr c5
 have c5b1 : ((rd l0_0 0) != 2) = false := bne_eq_false_iff_eq.mpr c5
 clear c5
 by_cases c6 : 1 < (l0_0.length : Int)
 rotate_left
 ·rw [if_neg c6] at H
  exact absurd H (by simp)
 rw [if_pos c6] at H
 have c6b0 : decide (1 < (l0_0.length : Int)) = true := decide_eq_true c6
 have c6b1 : decide (1 < l0_0.length) = true := decide_eq_true (by omega)
 clear c6
 simp only [Option.some.injEq, Prod.mk.injEq] at H
 obtain ⟨rfl, rfl⟩ := H
 go_enter Try.func14, Try.ntmps14
 go_wp2_with (first | ((with_reducible refine gate_dst (N := 1) rfl ?_); refine bx_ev 1 #[.slice A0_0 l0_0.length c0_0, .slice A0_1 l0_1.length c0_1, .slice A0_2 l0_2.length c0_2] 26 ?_; intro gb612 hg w7 hbox hb; have BK612 := Aside0.mk (hbox); have GW612 := gw_ hg HB; have GE612 := gw_ hg HB; replace HB := bst_ HB hb; clear hb hbox hg; obtain ⟨hcz8_0, hcz8_1, hcz8_2⟩ := bcs3_ BK612) | ((with_reducible refine gate_dst (N := 5) rfl ?_); refine goesL_ (some 5) rfl rfl Try.func9 (by kernel_rfl) rfl #[.agg #[.slice A0_0 l0_0.length c0_0, .slice A0_1 l0_1.length c0_1, .slice A0_2 l0_2.length c0_2]] rfl tm_ ?_; (with_reducible refine (spec_GoodPair.calls k _ _ l0_0 _ _ l0_1 _ _ l0_2 true _ ?side1 ?side2 ?side3 ?side4 ?side5 ?side6 A2.out).mono ?_); (case side1 => exact cb_ HR0_0 HB); (case side2 => exact HC0_0.out); (case side3 => exact cb_ HR0_1 HB); (case side4 => exact HC0_1.out); (case side5 => exact cb_ HR0_2 HB); (case side6 => exact HC0_2.out); rintro e w9 ⟨rfl, hb⟩; refine ⟨_, rfl, ?_⟩; replace BK612 := bb_ BK612 hb; replace HB := bst_ HB hb; clear hb; obtain ⟨hcz10_0, hcz10_1, hcz10_2⟩ := bcs3_ BK612; have p614 : 0 ≤ (0 : Int) := (by omega); have q614 : 0 < (l0_0.length : Int) := od_; obtain ⟨ad614, e614, hx614_0⟩ := Kd.at_int HR0_0.out 0 p614 q614; cases e614; have qi614 : (0 < l0_0.length) = True := eq_true (by omega); (try rw [show ((0 : Int)).toNat = 0 from rfl] at hx614_0); (try rw [Addr.add_zero'] at hx614_0); replace hx614_0 := hc_ HB hx614_0; replace p614 := eq_true p614; replace q614 := eq_true q614; have p615 : 0 ≤ (1 : Int) := (by omega); have q615 : 1 < (l0_0.length : Int) := od_; obtain ⟨ad615, e615, hx615_0⟩ := Kd.at_int HR0_0.out 1 p615 q615; obtain rfl : ad614 = ad615 := (by injection e615); (try simp only [show (1 : Int).toNat = 1 from rfl, Nat.reduceMul, Nat.reduceEqDiff, Go.Addr.add, ↓reduceIte] at hx615_0); have qi615 : (1 < l0_0.length) = True := eq_true (by omega); (try rw [show ((1 : Int)).toNat = 1 from rfl] at hx615_0); replace hx615_0 := hc_ HB hx615_0; replace p615 := eq_true p615; replace q615 := eq_true q615))
 go_ret2
 exact ⟨rt_, hB HB⟩

def spec_DrawNewPair.f (l0 : List Int) : Option (Int) := (slices_xorshift_Next.f l0).bind fun bt616 => ((spec_l1Cur_pick.f bt616.1 bt616.2.1 bt616.2.2 6).bind fun bt620 => (some (wrap64 (bt620.1 - 1))))
set_option maxHeartbeats 8000000 in
set_option maxRecDepth 100000 in
theorem spec_DrawNewPair.calls (A0 : Option Addr) (c0 : Nat) (l0 : List Int) (r : Int) (w : World) (hr0 : Kd.C (Kd.int .u8) w A0 l0.length l0) (hc0 : l0.length ≤ c0) (h : spec_DrawNewPair.f l0 = some r) :
  Calls Try.prog 15 #[.slice A0 l0.length c0] w fun e w' => e = .returned (.int .i64 r) ∧ Below w.heap.size w w' := by
 have HR0 := Aside0.mk hr0
 have HC0 := Aside0.mk hc0
 clear hr0 hc0
 have HB := Aside0.mk (Below.refl w.heap.size w)
 have H : ((slices_xorshift_Next.f l0).bind fun bt616 => ((spec_l1Cur_pick.f bt616.1 bt616.2.1 bt616.2.2 6).bind fun bt620 => (some (wrap64 (bt620.1 - 1))))) = some r := h
 clear h
 replace H := Option.bind_eq_some_iff.mp H
 obtain ⟨⟨t616, t617, t618⟩, A20, H⟩ := H
 replace H : ((spec_l1Cur_pick.f t616 t617 t618 6).bind fun bt620 => (some (wrap64 (bt620.1 - 1)))) = some r := H
 have DE_A2 : Aside0 (t616 = l0 ∧ t617 = 0 ∧ t618 = 0) := ⟨by have h_ := A20; simp only [slices_xorshift_Next.f, Option.some.injEq, Prod.mk.injEq] at h_; exact ⟨h_.1.symm, h_.2.1.symm, h_.2.2.symm⟩⟩
 have A2 := Aside0.mk A20
 clear A20
 replace H := Option.bind_eq_some_iff.mp H
 obtain ⟨⟨t620, t621, t622⟩, A30, H⟩ := H
 replace H : (some (wrap64 (t620 - 1))) = some r := H
 have A3 := Aside0.mk A30
 clear A30
 obtain rfl := Option.some.inj H
 go_enter Try.func15, Try.ntmps15
 go_wp2_with (first | ((with_reducible refine gate_dst (N := 6) rfl ?_); refine bx_ev 6 #[.slice A0 l0.length c0, .int .i64 0, .int .u64 0] 47 ?_; intro g619 hg w4 hbox hb2; have hi : IsS47 w w4 g619 t616 t617 t618 := (by rw [DE_A2.out.1, DE_A2.out.2.1, DE_A2.out.2.2]; exact ⟨_, _, hbox, (gw_ hg HB).out, HR0.out⟩); have hb := (bst_ HB hb2).out; clear hg hbox; have HI619 := Aside0.mk (hi); replace HB := Aside0.mk (hb); clear hb hb2 hi) | ((with_reducible refine gate_dst (N := 8) rfl ?_); refine goesL_ (some 8) rfl rfl Try.func32 (by kernel_rfl) rfl #[.pointer (some ⟨g619, 0, none⟩), .int .i64 6] rfl tm_ ?_; (with_reducible refine (spec_l1Cur_pick.calls g619 t616 t617 t618 6 t620 t621 t622 w _ ?side1 ?side2 A3.out).mono ?_); (case side1 => repeat (first | (with_reducible first | exact HI619.out | apply IsS47.alloc | apply IsS47.drewN | apply IsS47.drew | apply IsS47.set_1 | apply IsS47.set_2) | exact HI619.out)); (case side2 => repeat (first | (with_reducible first | exact HB.out | apply below_alloc | apply pw_below_drewN | apply below_drew1 | refine below_set ?_ (IsS47.ge HI619.out)) | exact HB.out)); rintro e w5 ⟨rfl, hi, hb, hk⟩; refine ⟨_, rfl, ?_⟩; replace HB := Aside0.mk (hb); replace HI619 := Aside0.mk (hi); clear hb hk hi))
 go_ret
 exact ⟨rt_, by repeat (first | (with_reducible first | exact HB.out | apply below_alloc | apply pw_below_drewN | apply below_drew1 | refine below_set ?_ (IsS47.ge HI619.out)) | exact HB.out)⟩

def impl_NewPair.f (a0 : Int) : Option (List Int × List Int × (List (S36)) × Bool) := (impl_in.f a0 0 3).bind fun t624 => (if t624 = true then (if a0 = 0 then (some ((([0, 0] : List Int)), (([a0, a0] : List Int)), ([] : List (S36)), true)) else (some ((([1, 1] : List Int)), (([a0, a0] : List Int)), ([] : List (S36)), true))) else (some (([] : List Int), ([] : List Int), ([] : List (S36)), false)))
set_option maxHeartbeats 8000000 in
set_option maxRecDepth 100000 in
theorem impl_NewPair.calls (a0 : Int) (r1 : List Int) (r2 : List Int) (r3 : List (S36)) (r4 : Bool) (w : World) (h : impl_NewPair.f a0 = some (r1, r2, r3, r4)) :
  Calls Try.prog 16 #[.int .i64 a0] w fun e w' => ∃ v0_ v1_ v2_ : Value, e = .returned (.tuple #[.agg #[v0_, v1_, v2_], .bool r4]) ∧ Kd.R (Kd.int .i64) 3 w' w.heap.size (fun k_ => no_ v1_ k_) v0_ r1 ∧ Kd.R (Kd.int .i64) 3 w' w.heap.size (fun k_ => no_ v0_ k_) v1_ r2 ∧ Kd.R k36 36 w' w.heap.size (fun _ => True) v2_ r3 ∧ Below w.heap.size w w' := by
 have hu26 := Try.underlying26
 have HB := Aside0.mk (Below.refl w.heap.size w)
 have H : ((impl_in.f a0 0 3).bind fun t624 => (if t624 = true then (if a0 = 0 then (some ((([0, 0] : List Int)), (([a0, a0] : List Int)), ([] : List (S36)), true)) else (some ((([1, 1] : List Int)), (([a0, a0] : List Int)), ([] : List (S36)), true))) else (some (([] : List Int), ([] : List Int), ([] : List (S36)), false)))) = some (r1, r2, r3, r4) := h
 clear h
 replace H := Option.bind_eq_some_iff.mp H
 obtain ⟨t624, A20, H⟩ := H
 replace H : (if t624 = true then (if a0 = 0 then (some ((([0, 0] : List Int)), (([a0, a0] : List Int)), ([] : List (S36)), true)) else (some ((([1, 1] : List Int)), (([a0, a0] : List Int)), ([] : List (S36)), true))) else (some (([] : List Int), ([] : List Int), ([] : List (S36)), false))) = some (r1, r2, r3, r4) := H
 have A2 := Aside0.mk A20
 clear A20
 by_cases c3 : t624 = true
 rotate_left
 ·replace c3 := Bool.eq_false_iff.mpr c3
  subst c3
  rw [if_neg (show ¬ (false = true) by decide)] at H
  simp only [Option.some.injEq, Prod.mk.injEq] at H
  obtain ⟨rfl, rfl, rfl, rfl⟩ := H
  go_enter Try.func16, Try.ntmps16
  go_wp2_with (first | ((with_reducible refine gate_dst (N := 2) rfl ?_); refine bx_ev 2 #[.slice none 0 0, .slice none 0 0, .slice none 0 0] 26 ?_; intro gb623 hg w21 hbox hb; have BK623 := Aside0.mk (hbox); have GW623 := gw_ hg HB; have GE623 := gw_ hg HB; replace HB := bst_ HB hb; clear hb hbox hg) | ((with_reducible refine gate_dst (N := 6) rfl ?_); refine goesL_ (some 6) rfl rfl Try.func21 (by kernel_rfl) rfl #[.int .i64 a0, .int .i64 0, .int .i64 3] rfl tm_ ?_; (with_reducible refine (impl_in.calls a0 0 3 false _ A2.out).mono ?_); rintro e w' ⟨rfl, ⟨nd, rfl⟩⟩; refine ⟨_, rfl, ?_⟩; (try (rw [drewN_self w21]; generalize hq_ : World.drewN w21 _ = w21; have n0_ : Aside0 (w21.heap[gb623]? = some (.cells #[.slice none 0 0, .slice none 0 0, .slice none 0 0] 26 (0, 0))) := ⟨by rw [← hq_]; exact (ba BK623.out)⟩; have n1_ : Aside0 (Below w.heap.size w w21) := ⟨by rw [← hq_]; exact (hB HB)⟩; clear BK623 HB hq_; have BK623 := n0_; have HB := n1_; clear n0_ n1_)); obtain ⟨hcz22_0, hcz22_1, hcz22_2⟩ := bcs3_ BK623; obtain ⟨hfz22_0, hfz22_1, hfz22_2⟩ := bz3_ BK623))
  refine bodyPost_ret (results_ct rfl _ _ gb623 26 #[.slice none 0 0, .slice none 0 0, .slice none 0 0] (0, 0) _ rfl (bw0_ BK623) Try.underlying26 rfl (by kernel_rfl)) rfl ?_
  exact ⟨_, _, _, rt_, by first | exact Kd.R_nil _ _ _ _ _ | exact Kd.N_nil _ _ _ _ _ | exact Kd.V_nil _ _ _ _ _ | exact Kd.Q_nil _ _ _ _ _ | exact Kd.S_nil _ _ _ _ _, by first | exact Kd.R_nil _ _ _ _ _ | exact Kd.N_nil _ _ _ _ _ | exact Kd.V_nil _ _ _ _ _ | exact Kd.Q_nil _ _ _ _ _ | exact Kd.S_nil _ _ _ _ _, by first | exact Kd.R_nil _ _ _ _ _ | exact Kd.N_nil _ _ _ _ _ | exact Kd.V_nil _ _ _ _ _ | exact Kd.Q_nil _ _ _ _ _ | exact Kd.S_nil _ _ _ _ _, hB HB⟩
 subst c3
 rw [if_pos rfl] at H
 by_cases c4 : a0 = 0
 ·rw [if_pos c4] at H
  have c4b0 : (a0 == 0) = true := beq_iff_eq.mpr c4
  have c4b1 : (a0 != 0) = false := bne_eq_false_iff_eq.mpr c4
  clear c4
  obtain ⟨y625, hy625⟩ : ∃ y_ : List Int, y_ = (([0, 0] : List Int)) := ⟨_, rfl⟩
  replace H : (some (y625, (([a0, a0] : List Int)), ([] : List (S36)), true)) = some (r1, r2, r3, r4) := by first | (rw [hy625]; with_reducible exact H) | (have H2_ := (Option.bind_some _ _).symm.trans H; rw [hy625]; with_reducible exact H2_) | (have H2_ := (Option.bind_some _ _).symm.trans H; with_reducible exact H2_) | with_reducible exact H | (rw [hy625]; exact H) | exact H
  have Ny625 := Aside0.mk hy625
  clear hy625
  obtain ⟨y628, hy628⟩ : ∃ y_ : List Int, y_ = (([a0, a0] : List Int)) := ⟨_, rfl⟩
  replace H : (some (y625, y628, ([] : List (S36)), true)) = some (r1, r2, r3, r4) := by first | (rw [hy628]; with_reducible exact H) | (have H2_ := (Option.bind_some _ _).symm.trans H; rw [hy628]; with_reducible exact H2_) | (have H2_ := (Option.bind_some _ _).symm.trans H; with_reducible exact H2_) | with_reducible exact H | (rw [hy628]; exact H) | exact H
  have Ny628 := Aside0.mk hy628
  clear hy628
  simp only [Option.some.injEq, Prod.mk.injEq] at H
  obtain ⟨rfl, rfl, rfl, rfl⟩ := H
  go_enter Try.func16, Try.ntmps16
  go_wp2_with (first | ((with_reducible refine gate_dst (N := 2) rfl ?_); refine bx_ev 2 #[.slice none 0 0, .slice none 0 0, .slice none 0 0] 26 ?_; intro gb623 hg w5 hbox hb; have BK623 := Aside0.mk (hbox); have GW623 := gw_ hg HB; have GE623 := gw_ hg HB; replace HB := bst_ HB hb; clear hb hbox hg) | ((with_reducible refine gate_dst (N := 6) rfl ?_); refine goesL_ (some 6) rfl rfl Try.func21 (by kernel_rfl) rfl #[.int .i64 a0, .int .i64 0, .int .i64 3] rfl tm_ ?_; (with_reducible refine (impl_in.calls a0 0 3 true _ A2.out).mono ?_); rintro e w' ⟨rfl, ⟨nd, rfl⟩⟩; refine ⟨_, rfl, ?_⟩; (try (rw [drewN_self w5]; generalize hq_ : World.drewN w5 _ = w5; have n0_ : Aside0 (w5.heap[gb623]? = some (.cells #[.slice none 0 0, .slice none 0 0, .slice none 0 0] 26 (0, 0))) := ⟨by rw [← hq_]; exact (ba BK623.out)⟩; have n1_ : Aside0 (Below w.heap.size w w5) := ⟨by rw [← hq_]; exact (hB HB)⟩; clear BK623 HB hq_; have BK623 := n0_; have HB := n1_; clear n0_ n1_))) | ((with_reducible refine gate_dst (N := 13) rfl ?_); refine Kd.R_lit (Kd.int .i64) _ 3 ?hg (N := 13) ?hd (xs := ([0, 0] : List Int)) (inner := [.int .i64 0, .int .i64 0]) (ok := fun _ => True) (okp := fun _ => True) ?hr ?hp (fun _ hk => hk) trivial (Below.refl _ _) (Nat.le_refl _) (by simp) ?_; (case hd => rfl); (case hg => rfl); (case hr => first | (go_simp; done) | (go_simp; rfl)); (case hp => exact (Reps.one (show Kd.M (Kd.int .i64) _ _ _ 0 [.int .i64 0] from rfl) (Reps.one (show Kd.M (Kd.int .i64) _ _ _ 0 [.int .i64 0] from rfl) (Reps.none _ _)))); intro v626 w6 ho7 hb hg_ hnew_; clear hg_ hnew_; (first | rw [← Ny625.out] at ho7 | (simp only [Int.reduceToNat] at ho7; rw [← Ny625.out] at ho7)); have HO627 := Aside0.mk (Kd.R_lower ho7 (below_size (hB HB))); replace BK623 := bb_ BK623 hb; replace HB := bst_ HB hb; clear hb ho7) | ((with_reducible refine gate_dst (N := 16) rfl ?_); refine Kd.R_lit (Kd.int .i64) _ 3 ?hg (N := 16) ?hd (xs := ([a0, a0] : List Int)) (inner := [.int .i64 a0, .int .i64 a0]) (ok := fun _ => True) (okp := fun _ => True) ?hr ?hp (fun _ hk => hk) trivial (Below.refl _ _) (Nat.le_refl _) (by simp) ?_; (case hd => rfl); (case hg => rfl); (case hr => first | (go_simp; done) | (go_simp; rfl)); (case hp => exact (Reps.one (show Kd.M (Kd.int .i64) _ _ _ a0 [.int .i64 a0] from rfl) (Reps.one (show Kd.M (Kd.int .i64) _ _ _ a0 [.int .i64 a0] from rfl) (Reps.none _ _)))); intro v629 w8 ho9 hb hg_ hnew_; clear hg_ hnew_; (first | rw [← Ny628.out] at ho9 | (simp only [Int.reduceToNat] at ho9; rw [← Ny628.out] at ho9)); have HO630 := Aside0.mk (Kd.R_lower (Kd.R_new' ho9 (rl_ HO627)) (below_size (hB HB))); replace HO627 := re_ HO627 ho9 hb; replace BK623 := bb_ BK623 hb; replace HB := bst_ HB hb; clear hb ho9; obtain ⟨Ao10, co10, eo10⟩ := Kd.R_slice HO630.out; subst eo10; obtain ⟨Ao11, co11, eo11⟩ := Kd.R_slice HO627.out; subst eo11; obtain ⟨hcz12_0, hcz12_1, hcz12_2⟩ := bcs3_ BK623; obtain ⟨hfz12_0, hfz12_1, hfz12_2⟩ := bz3_ BK623))
  refine bodyPost_ret (results_ct rfl _ _ gb623 26 #[.slice Ao11 y625.length co11, .slice Ao10 y628.length co10, .slice none 0 0] (0, 0) _ rfl (bw0_ BK623) Try.underlying26 rfl (by kernel_rfl)) rfl ?_
  exact ⟨_, _, _, rt_, ro_ (fs3_ HO627.out BK623.out) (fun _ hk => hk.1.2), ro_ (fs3_ HO630.out BK623.out) (fun _ hk => hk.1.2), by first | exact Kd.R_nil _ _ _ _ _ | exact Kd.N_nil _ _ _ _ _ | exact Kd.V_nil _ _ _ _ _ | exact Kd.Q_nil _ _ _ _ _ | exact Kd.S_nil _ _ _ _ _, hB HB⟩
 rw [if_neg c4] at H
 have c4b0 : (a0 == 0) = false := beq_eq_false_iff_ne.mpr c4
 have c4b1 : (a0 != 0) = true := bne_iff_ne.mpr c4
 obtain ⟨y631, hy631⟩ : ∃ y_ : List Int, y_ = (([1, 1] : List Int)) := ⟨_, rfl⟩
 replace H : (some (y631, (([a0, a0] : List Int)), ([] : List (S36)), true)) = some (r1, r2, r3, r4) := by first | (rw [hy631]; with_reducible exact H) | (have H2_ := (Option.bind_some _ _).symm.trans H; rw [hy631]; with_reducible exact H2_) | (have H2_ := (Option.bind_some _ _).symm.trans H; with_reducible exact H2_) | with_reducible exact H | (rw [hy631]; exact H) | exact H
 have Ny631 := Aside0.mk hy631
 clear hy631
 obtain ⟨y634, hy634⟩ : ∃ y_ : List Int, y_ = (([a0, a0] : List Int)) := ⟨_, rfl⟩
 replace H : (some (y631, y634, ([] : List (S36)), true)) = some (r1, r2, r3, r4) := by first | (rw [hy634]; with_reducible exact H) | (have H2_ := (Option.bind_some _ _).symm.trans H; rw [hy634]; with_reducible exact H2_) | (have H2_ := (Option.bind_some _ _).symm.trans H; with_reducible exact H2_) | with_reducible exact H | (rw [hy634]; exact H) | exact H
 have Ny634 := Aside0.mk hy634
 clear hy634
 simp only [Option.some.injEq, Prod.mk.injEq] at H
 obtain ⟨rfl, rfl, rfl, rfl⟩ := H
 go_enter Try.func16, Try.ntmps16
 go_wp2_with (first | ((with_reducible refine gate_dst (N := 2) rfl ?_); refine bx_ev 2 #[.slice none 0 0, .slice none 0 0, .slice none 0 0] 26 ?_; intro gb623 hg w13 hbox hb; have BK623 := Aside0.mk (hbox); have GW623 := gw_ hg HB; have GE623 := gw_ hg HB; replace HB := bst_ HB hb; clear hb hbox hg) | ((with_reducible refine gate_dst (N := 6) rfl ?_); refine goesL_ (some 6) rfl rfl Try.func21 (by kernel_rfl) rfl #[.int .i64 a0, .int .i64 0, .int .i64 3] rfl tm_ ?_; (with_reducible refine (impl_in.calls a0 0 3 true _ A2.out).mono ?_); rintro e w' ⟨rfl, ⟨nd, rfl⟩⟩; refine ⟨_, rfl, ?_⟩; (try (rw [drewN_self w13]; generalize hq_ : World.drewN w13 _ = w13; have n0_ : Aside0 (w13.heap[gb623]? = some (.cells #[.slice none 0 0, .slice none 0 0, .slice none 0 0] 26 (0, 0))) := ⟨by rw [← hq_]; exact (ba BK623.out)⟩; have n1_ : Aside0 (Below w.heap.size w w13) := ⟨by rw [← hq_]; exact (hB HB)⟩; clear BK623 HB hq_; have BK623 := n0_; have HB := n1_; clear n0_ n1_))) | ((with_reducible refine gate_dst (N := 13) rfl ?_); refine Kd.R_lit (Kd.int .i64) _ 3 ?hg (N := 13) ?hd (xs := ([1, 1] : List Int)) (inner := [.int .i64 1, .int .i64 1]) (ok := fun _ => True) (okp := fun _ => True) ?hr ?hp (fun _ hk => hk) trivial (Below.refl _ _) (Nat.le_refl _) (by simp) ?_; (case hd => rfl); (case hg => rfl); (case hr => first | (go_simp; done) | (go_simp; rfl)); (case hp => exact (Reps.one (show Kd.M (Kd.int .i64) _ _ _ 1 [.int .i64 1] from rfl) (Reps.one (show Kd.M (Kd.int .i64) _ _ _ 1 [.int .i64 1] from rfl) (Reps.none _ _)))); intro v632 w14 ho15 hb hg_ hnew_; clear hg_ hnew_; (first | rw [← Ny631.out] at ho15 | (simp only [Int.reduceToNat] at ho15; rw [← Ny631.out] at ho15)); have HO633 := Aside0.mk (Kd.R_lower ho15 (below_size (hB HB))); replace BK623 := bb_ BK623 hb; replace HB := bst_ HB hb; clear hb ho15) | ((with_reducible refine gate_dst (N := 16) rfl ?_); refine Kd.R_lit (Kd.int .i64) _ 3 ?hg (N := 16) ?hd (xs := ([a0, a0] : List Int)) (inner := [.int .i64 a0, .int .i64 a0]) (ok := fun _ => True) (okp := fun _ => True) ?hr ?hp (fun _ hk => hk) trivial (Below.refl _ _) (Nat.le_refl _) (by simp) ?_; (case hd => rfl); (case hg => rfl); (case hr => first | (go_simp; done) | (go_simp; rfl)); (case hp => exact (Reps.one (show Kd.M (Kd.int .i64) _ _ _ a0 [.int .i64 a0] from rfl) (Reps.one (show Kd.M (Kd.int .i64) _ _ _ a0 [.int .i64 a0] from rfl) (Reps.none _ _)))); intro v635 w16 ho17 hb hg_ hnew_; clear hg_ hnew_; (first | rw [← Ny634.out] at ho17 | (simp only [Int.reduceToNat] at ho17; rw [← Ny634.out] at ho17)); have HO636 := Aside0.mk (Kd.R_lower (Kd.R_new' ho17 (rl_ HO633)) (below_size (hB HB))); replace HO633 := re_ HO633 ho17 hb; replace BK623 := bb_ BK623 hb; replace HB := bst_ HB hb; clear hb ho17; obtain ⟨Ao18, co18, eo18⟩ := Kd.R_slice HO636.out; subst eo18; obtain ⟨Ao19, co19, eo19⟩ := Kd.R_slice HO633.out; subst eo19; obtain ⟨hcz20_0, hcz20_1, hcz20_2⟩ := bcs3_ BK623; obtain ⟨hfz20_0, hfz20_1, hfz20_2⟩ := bz3_ BK623))
 refine bodyPost_ret (results_ct rfl _ _ gb623 26 #[.slice Ao19 y631.length co19, .slice Ao18 y634.length co18, .slice none 0 0] (0, 0) _ rfl (bw0_ BK623) Try.underlying26 rfl (by kernel_rfl)) rfl ?_
 exact ⟨_, _, _, rt_, ro_ (fs3_ HO633.out BK623.out) (fun _ hk => hk.1.2), ro_ (fs3_ HO636.out BK623.out) (fun _ hk => hk.1.2), by first | exact Kd.R_nil _ _ _ _ _ | exact Kd.N_nil _ _ _ _ _ | exact Kd.V_nil _ _ _ _ _ | exact Kd.Q_nil _ _ _ _ _ | exact Kd.S_nil _ _ _ _ _, hB HB⟩

end Go.Proofs.Ytefdgdloghhnaaa.P
