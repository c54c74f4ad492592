import Derived.Test.YtfkjnpgpofcinaaF0
import Derived.Test.YtfkjnpgpofcinaaF21
import Derived.Test.YtfkjnpgpofcinaaF22
import Derived.Test.YtfkjnpgpofcinaaF23
namespace Go.Proofs.Ytfkjnpgpofcinaa.P
open Go.RowKit Go.Proofs.YtfkjnpgpofcinaaW.PrintWords Go.Proofs.YtfkjnpgpofcinaaW.PrintLast Go.Proofs.YtfkjnpgpofcinaaW.PrintMore
attribute [local go_sem] max2_int min2_int max_two min_two max_three min_three max_four min_four   -- for this text's walks alone
set_option linter.unusedVariables false
set_option linter.unusedSimpArgs false
attribute [local go_sem high] eqA45 eqA76 eqA83

def spec_PlayPair.l0 : Nat → List Bool → List (S37) → Int → Int → List Int → List Int → List (S45) → Option (List Int × List Int × (List (S45)) × List Bool × Bool)
 | 0, _, _, _, _, _, _, _ => none
 | k + 1, x7, x20, x21, x22, x572000, x572001, x572002 => if x22 < x21 then (if 0 ≤ x22 then (if x22 < (x20.length : Int) then ((spec_l3Own.f x572000 x572001 x572002).bind fun bt583 => ((spec_l3Step.f k bt583.1 bt583.2.1 bt583.2.2 ((rd_T37 x20 x22).f0) ((rd_T37 x20 x22).f1)).bind fun bt592 => (if bt592.2.2.2 = true then (if x7.length < 140737488355328 then (spec_PlayPair.l0 k (x7 ++ [bt592.2.2.2]) x20 x21 (wrap64 (x22 + 1)) bt592.1 bt592.2.1 bt592.2.2.1) else (none)) else (if x7.length < 140737488355328 then (spec_PlayPair.l0 k (x7 ++ [bt592.2.2.2]) x20 x21 (wrap64 (x22 + 1)) x572000 x572001 x572002) else (none))))) else (none)) else (none)) else ((spec_l3Own.f x572000 x572001 x572002).bind fun bt572 => (some (bt572.1, bt572.2.1, bt572.2.2, x7, true)))
def spec_PlayPair.f (k : Nat) (l0 : List (S37)) : Option (List Int × List Int × (List (S45)) × List Bool × Bool) := if (l0.length : Int) > 60 then (some (([] : List Int), ([] : List Int), ([] : List (S45)), ([] : List Bool), false)) else ((spec_NewPair.f 0).bind fun bt561 => (spec_PlayPair.l0 k ([] : List Bool) l0 (l0.length : Int) 0 bt561.1 bt561.2.1 bt561.2.2.1))
theorem spec_PlayPair.mono_l : ∀ k, (∀ y0 y1 y2 y3 y4 y5 y6, LeO (spec_PlayPair.l0 k y0 y1 y2 y3 y4 y5 y6) (spec_PlayPair.l0 (k + 1) y0 y1 y2 y3 y4 y5 y6))
 | 0 => fun _ _ _ _ _ _ _ r h => by simp [spec_PlayPair.l0] at h
 | k + 1 => by
  have ih0 := spec_PlayPair.mono_l k
  ·intro y0 y1 y2 y3 y4 y5 y6
   unfold spec_PlayPair.l0
   repeat' first
   | (with_reducible exact ih0 _ _ _ _ _ _ _)
   | (with_reducible exact spec_l3Step.mono _ _ _ _ _ _)
   | (with_reducible exact LeO.refl _)
   | (with_reducible exact LeO.none _)
   | (with_reducible refine LeO.ite ?_ ?_)
   | (with_reducible refine LeO.bind ?_ (fun _ => ?_))
theorem spec_PlayPair.mono : ∀ a0 k, LeO (spec_PlayPair.f k a0) (spec_PlayPair.f (k + 1) a0) := by
 intro a0 k
 have ih0 := spec_PlayPair.mono_l k
 unfold spec_PlayPair.f
 repeat' first
   | (with_reducible exact ih0 _ _ _ _ _ _ _)
   | (with_reducible exact spec_l3Step.mono _ _ _ _ _ _)
   | (with_reducible exact LeO.refl _)
   | (with_reducible exact LeO.none _)
   | (with_reducible refine LeO.ite ?_ ?_)
   | (with_reducible refine LeO.bind ?_ (fun _ => ?_))
def spec_PlayPair.T8 : Bool × List (List Nat × List Nat) := (true, [([], []), ([0], [0]), ([], []), ([1, 2, 1], [1, 2]), ([3], [3]), ([4], [4]), ([4], [4]), ([], []), ([7, 5, 3, 0, 1, 2, 3, 4, 5, 7], [5, 7]), ([6, 8, 0, 1, 2, 3, 4, 5, 6, 7, 8], [6])])
def spec_PlayPair.B8 : List Nat := [0, 1, 0, 7, 15, 31, 31, 0, 191, 511]
theorem spec_PlayPair.tab8 : rtab .any (opsOf Try.f33 8) = spec_PlayPair.T8 := by kernel_rfl
theorem spec_PlayPair.bits8 : waitsOk spec_PlayPair.T8.2 spec_PlayPair.B8 = true := by kernel_rfl
set_option maxHeartbeats 8000000 in
set_option maxRecDepth 100000 in
theorem spec_PlayPair.calls (k : Nat) (A0 : Option Addr) (c0 : Nat) (l0 : List (S37)) (r1 : List Int) (r2 : List Int) (r3 : List (S45)) (r4 : List Bool) (r5 : Bool) (w : World) (hr0 : Kd.C k37 w A0 l0.length l0) (hc0 : l0.length ≤ c0) (h : spec_PlayPair.f k l0 = some (r1, r2, r3, r4, r5)) :
  Calls Try.prog 33 #[.slice A0 l0.length c0] w fun e w' => ∃ v0_ v1_ v2_ v3_ : Value, e = .returned (.tuple #[.agg #[v0_, v1_, v2_], v3_, .bool r5]) ∧ Kd.R (Kd.int .i64) 3 w' w.heap.size (fun k_ => no_ v1_ k_) v0_ r1 ∧ Kd.R (Kd.int .i64) 3 w' w.heap.size (fun k_ => no_ v0_ k_) v1_ r2 ∧ Kd.R k45 45 w' w.heap.size (fun _ => True) v2_ r3 ∧ Kd.R Kd.bool 4 w' w.heap.size (fun _ => True) v3_ r4 ∧ Below w.heap.size w w' := by
 have hu35 := Try.underlying35
 have hu37 := Try.underlying37
 have HR0 := Aside0.mk hr0
 have HC0 := Aside0.mk hc0
 clear hr0 hc0
 have HB := Aside0.mk (Below.refl w.heap.size w)
 have H : (if (l0.length : Int) > 60 then (some (([] : List Int), ([] : List Int), ([] : List (S45)), ([] : List Bool), false)) else ((spec_NewPair.f 0).bind fun bt561 => (spec_PlayPair.l0 k ([] : List Bool) l0 (l0.length : Int) 0 bt561.1 bt561.2.1 bt561.2.2.1))) = some (r1, r2, r3, r4, r5) := h
 clear h
 by_cases c2 : (l0.length : Int) > 60
 ·rw [if_pos c2] at H
  have c2b0 : decide (60 < (l0.length : Int)) = true := decide_eq_true c2
  have c2b1 : decide (60 < l0.length) = true := decide_eq_true (by omega)
  clear c2
  simp only [Option.some.injEq, Prod.mk.injEq] at H
  obtain ⟨rfl, rfl, rfl, rfl, rfl⟩ := H
  go_enter Try.func33, Try.ntmps33
  go_wp2_with (first | ((with_reducible refine gate_dst (N := 2) rfl ?_); refine box_event ?hg (N := 2) ?hd (cs := #[.slice none 0 0, .slice none 0 0, .slice none 0 0]) (t := 35) ?hr ?_; (case hd => rfl); (case hg => rfl); (case hr => first | (go_simp; done) | (go_simp; rfl)); intro gb560 hg w3 hbox hb; have BK560 := Aside0.mk (hbox); have GW560 := gw_ hg HB; have GE560 := gw_ hg HB; replace HB := bst_ HB hb; clear hb hbox hg; have hcz4_0 : w3.cell? ⟨gb560, 0, none⟩ = some (.slice none 0 0) := bc_ BK560 0; have hcz4_1 : w3.cell? ⟨gb560, 1, none⟩ = some (.slice none 0 0) := bc_ BK560 1; have hcz4_2 : w3.cell? ⟨gb560, 2, none⟩ = some (.slice none 0 0) := bc_ BK560 2; have hfz4_0 := blk_frozen BK560.out 0; have hfz4_1 := blk_frozen BK560.out 1; have hfz4_2 := blk_frozen BK560.out 2))
  refine bodyPost_ret (results_ctt rfl _ _ gb560 35 #[.slice none 0 0, .slice none 0 0, .slice none 0 0] (0, 0) _ rfl (by (with_reducible repeat (first | refine blk_drewN ?_ _ | refine blk_drew ?_ | refine blk_alloc ?_ _)); refine blk_put (cs := #[.slice none 0 0, .slice none 0 0, .slice none 0 0]) ?_ 2 _ rfl; (with_reducible repeat (first | refine blk_drewN ?_ _ | refine blk_drew ?_ | refine blk_alloc ?_ _)); refine blk_put (cs := #[.slice none 0 0, .slice none 0 0, .slice none 0 0]) ?_ 1 _ rfl; (with_reducible repeat (first | refine blk_drewN ?_ _ | refine blk_drew ?_ | refine blk_alloc ?_ _)); refine blk_put (cs := #[.slice none 0 0, .slice none 0 0, .slice none 0 0]) ?_ 0 _ rfl; (with_reducible repeat (first | refine blk_drewN ?_ _ | refine blk_drew ?_ | refine blk_alloc ?_ _)); exact BK560.out) Try.underlying35 rfl (by kernel_rfl)) rfl ?_
  exact ⟨_, _, _, _, by first | rfl | (simp [errW_none, errW_some] <;> rfl) | (simp [*, errW_none, errW_some] <;> rfl), by first | exact Kd.R_nil _ _ _ _ _ | exact Kd.N_nil _ _ _ _ _ | exact Kd.V_nil _ _ _ _ _ | exact Kd.Q_nil _ _ _ _ _ | exact Kd.S_nil _ _ _ _ _, by first | exact Kd.R_nil _ _ _ _ _ | exact Kd.N_nil _ _ _ _ _ | exact Kd.V_nil _ _ _ _ _ | exact Kd.Q_nil _ _ _ _ _ | exact Kd.S_nil _ _ _ _ _, by first | exact Kd.R_nil _ _ _ _ _ | exact Kd.N_nil _ _ _ _ _ | exact Kd.V_nil _ _ _ _ _ | exact Kd.Q_nil _ _ _ _ _ | exact Kd.S_nil _ _ _ _ _, by first | exact Kd.R_nil _ _ _ _ _ | exact Kd.N_nil _ _ _ _ _ | exact Kd.V_nil _ _ _ _ _ | exact Kd.Q_nil _ _ _ _ _ | exact Kd.S_nil _ _ _ _ _, by repeat (first | (with_reducible first | exact HB.out | apply below_alloc | apply pw_below_drewN | apply below_drew1 | refine below_set ?_ GE560.out) | exact HB.out)⟩
 rw [if_neg c2] at H
 have c2b0 : decide (60 < (l0.length : Int)) = false := decide_eq_false c2
 have c2b1 : decide (60 < l0.length) = false := decide_eq_false (by omega)
 clear c2
 replace H := Option.bind_eq_some_iff.mp H
 obtain ⟨⟨t561, t564, t567, t570⟩, A50, H⟩ := H
 replace H : (spec_PlayPair.l0 k ([] : List Bool) l0 (l0.length : Int) 0 t561 t564 t567) = some (r1, r2, r3, r4, r5) := H
 have A5 := Aside0.mk A50
 clear A50
 have H' := Aside0.mk H
 clear H
 go_enter Try.func33, Try.ntmps33
 go_wp2_with (first | ((with_reducible refine gate_dst (N := 2) rfl ?_); refine box_event ?hg (N := 2) ?hd (cs := #[.slice none 0 0, .slice none 0 0, .slice none 0 0]) (t := 35) ?hr ?_; (case hd => rfl); (case hg => rfl); (case hr => first | (go_simp; done) | (go_simp; rfl)); intro gb560 hg w6 hbox hb; have BK560 := Aside0.mk (hbox); have GW560 := gw_ hg HB; have GE560 := gw_ hg HB; replace HB := bst_ HB hb; clear hb hbox hg) | ((with_reducible refine gate_callee (f := 30) rfl ?_); refine goesL_ (some 17) rfl rfl Try.func30 (by kernel_rfl) rfl #[.int .i64 0] rfl tm_ ?_; (with_reducible refine (spec_NewPair.calls 0 t561 t564 t567 t570 _ A5.out).mono ?_); rintro e w7 ⟨v562, v565, v568, rfl, ho0, ho1, ho2, hb⟩; refine ⟨_, rfl, ?_⟩; have HO563 := Aside0.mk (Kd.R_lower ho0 (below_size (hB HB))); have HO566 := Aside0.mk (Kd.R_lower ho1 (below_size (hB HB))); have HO569 := Aside0.mk (Kd.R_lower ho2 (below_size (hB HB))); replace BK560 := bb_ BK560 hb; replace HB := bst_ HB hb; clear hb ho0 ho1 ho2) | ((with_reducible refine gate_dst (N := 5) rfl ?_); refine box_event ?hg (N := 5) ?hd (cs := #[.slice none 0 0, .slice none 0 0, .slice none 0 0]) (t := 35) ?hr ?_; (case hd => rfl); (case hg => rfl); (case hr => first | (go_simp; done) | (go_simp; rfl)); intro gb571 hg w8 hbox hb; have BK571 := Aside0.mk (hbox); have GW571 := gw_ hg HB; have GE571 := gw_ hg HB; have NB560_571 := nl_ hg BK560; have NB571_560 := ng_ hg BK560; replace HO563 := rb_ HO563 hb; replace HO566 := rb_ HO566 hb; replace HO569 := rb_ HO569 hb; replace BK560 := bb_ BK560 hb; replace HB := bst_ HB hb; clear hb hbox hg; obtain ⟨Ao9, co9, eo9⟩ := Kd.R_slice HO563.out; subst eo9; have hnb10 := NB571_560.out; have hnc10 := NB560_571.out; have hcz11_0 : w8.cell? ⟨gb571, 0, none⟩ = some (.slice none 0 0) := bc_ BK571 0; have hcz11_1 : w8.cell? ⟨gb571, 1, none⟩ = some (.slice none 0 0) := bc_ BK571 1; have hcz11_2 : w8.cell? ⟨gb571, 2, none⟩ = some (.slice none 0 0) := bc_ BK571 2; have hfz11_0 := blk_frozen BK571.out 0; have hfz11_1 := blk_frozen BK571.out 1; have hfz11_2 := blk_frozen BK571.out 2; obtain ⟨Ao12, co12, eo12⟩ := Kd.R_slice HO566.out; subst eo12; obtain ⟨Ao13, co13, eo13⟩ := Kd.R_slice HO569.out; subst eo13))
 go_loopg [7, 22] k (fun kq v7 v22 w' => ∃ (x7_1 : List Bool) (x22_1 : Int) (x572000_1 : List Int) (x572001_1 : List Int) (x572002_1 : List (S45)) (u572000 : Value) (u572001 : Value) (u572002 : Value), v22 = .int .i64 x22_1 ∧ Aside0 (spec_PlayPair.l0 kq x7_1 l0 (l0.length : Int) x22_1 x572000_1 x572001_1 x572002_1 = some (r1, r2, r3, r4, r5)) ∧ Aside0 (kq ≤ k) ∧ Aside0 (Kd.R Kd.bool 4 w' w.heap.size (fun _ => True) v7 x7_1) ∧ Aside0 (Kd.R (Kd.int .i64) 3 w' w.heap.size (fun k_ => some k_ ≠ (u572001 : Value).ownBlock) u572000 x572000_1) ∧ Aside0 (Kd.R (Kd.int .i64) 3 w' w.heap.size (fun k_ => some k_ ≠ (u572000 : Value).ownBlock) u572001 x572001_1) ∧ Aside0 (Kd.R k45 45 w' w.heap.size (fun _ => True) u572002 x572002_1) ∧ Aside0 (w'.heap[gb560]? = some (.cells #[(.slice none 0 0), (.slice none 0 0), (.slice none 0 0)] 35 (0, 0))) ∧ Aside0 (w'.heap[gb571]? = some (.cells #[u572000, u572001, u572002] 35 (0, 0))) ∧ Aside0 (Below w.heap.size w w'))
 case atStart => exact ⟨(([] : List Bool)), (0), (t561), (t564), (t567), (.slice Ao9 t561.length co9), (.slice Ao12 t564.length co12), (.slice Ao13 t567.length co13), (by first | rfl | (simp; done) | (simp [*]; done)), H', ⟨Nat.le_refl _⟩, ⟨by first | exact Kd.R_nil _ _ _ _ _ | exact Kd.N_nil _ _ _ _ _ | exact Kd.V_nil _ _ _ _ _ | exact Kd.Q_nil _ _ _ _ _ | exact Kd.S_nil _ _ _ _ _⟩, ⟨by (with_reducible repeat (first | apply Kd.R_alloc | apply Kd.R_drewN | apply Kd.R_drew)); exact Kd.R_mono (fs3_ HO563.out BK571.out) (fun _ hk => hk.1)⟩, ⟨by (with_reducible repeat (first | apply Kd.R_alloc | apply Kd.R_drewN | apply Kd.R_drew)); exact Kd.R_mono (fs3_ HO566.out BK571.out) (fun _ hk => hk.1)⟩, ⟨by (with_reducible repeat (first | apply Kd.R_alloc | apply Kd.R_drewN | apply Kd.R_drew)); exact Kd.R_mono (fs3_ HO569.out BK571.out) (fun _ hk => trivial)⟩, ⟨by (with_reducible repeat (first | refine blk_drewN ?_ _ | refine blk_drew ?_ | refine blk_alloc ?_ _)); refine blk_far ?_ NB560_571.out _; (with_reducible repeat (first | refine blk_drewN ?_ _ | refine blk_drew ?_ | refine blk_alloc ?_ _)); refine blk_far ?_ NB560_571.out _; (with_reducible repeat (first | refine blk_drewN ?_ _ | refine blk_drew ?_ | refine blk_alloc ?_ _)); refine blk_far ?_ NB560_571.out _; (with_reducible repeat (first | refine blk_drewN ?_ _ | refine blk_drew ?_ | refine blk_alloc ?_ _)); exact BK560.out⟩, ⟨by (with_reducible repeat (first | refine blk_drewN ?_ _ | refine blk_drew ?_ | refine blk_alloc ?_ _)); refine blk_put (cs := #[.slice Ao9 t561.length co9, .slice Ao12 t564.length co12, .slice none 0 0]) ?_ 2 _ rfl; (with_reducible repeat (first | refine blk_drewN ?_ _ | refine blk_drew ?_ | refine blk_alloc ?_ _)); refine blk_put (cs := #[.slice Ao9 t561.length co9, .slice none 0 0, .slice none 0 0]) ?_ 1 _ rfl; (with_reducible repeat (first | refine blk_drewN ?_ _ | refine blk_drew ?_ | refine blk_alloc ?_ _)); refine blk_put (cs := #[.slice none 0 0, .slice none 0 0, .slice none 0 0]) ?_ 0 _ rfl; (with_reducible repeat (first | refine blk_drewN ?_ _ | refine blk_drew ?_ | refine blk_alloc ?_ _)); exact BK571.out⟩, ⟨hB HB⟩⟩
 case round =>
  clear H'
  try clear c2
  try clear c2b0
  try clear c2b1
  try clear hcz11_0
  try clear hcz11_1
  try clear hcz11_2
  try clear hfz11_0
  try clear hfz11_1
  try clear hfz11_2
  obtain ⟨x7_1, x22_1, x572000_1, x572001_1, x572002_1, u572000, u572001, u572002, rfl, HA, HK1, HO_7, HO_572000, HO_572001, HO_572002, BK560, BK571, HB⟩ := hrel
  cases gk with
  | zero => exact absurd HA.out (by simp [spec_PlayPair.l0])
  | succ k1 =>
   have H := HA.out
   clear HA
   simp only [spec_PlayPair.l0] at H
   by_cases c14 : x22_1 < (l0.length : Int)
   rotate_left
   ·rw [if_neg c14] at H
    have c14b0 : decide (x22_1 < (l0.length : Int)) = false := decide_eq_false c14
    clear c14
    replace H := Option.bind_eq_some_iff.mp H
    obtain ⟨⟨t572, t575, t578⟩, A740, H⟩ := H
    replace H : (some (t572, t575, t578, x7_1, true)) = some (r1, r2, r3, r4, r5) := H
    have A74 := Aside0.mk A740
    clear A740
    simp only [Option.some.injEq, Prod.mk.injEq] at H
    obtain ⟨rfl, rfl, rfl, rfl, rfl⟩ := H
    have hnb75 := NB571_560.out
    have hnc75 := NB560_571.out
    have hcz76_0 : wr.cell? ⟨gb571, 0, none⟩ = some (u572000) := bc_ BK571 0
    have hcz76_1 : wr.cell? ⟨gb571, 1, none⟩ = some (u572001) := bc_ BK571 1
    have hcz76_2 : wr.cell? ⟨gb571, 2, none⟩ = some (u572002) := bc_ BK571 2
    have hfz76_0 := blk_frozen BK571.out 0
    have hfz76_1 := blk_frozen BK571.out 1
    have hfz76_2 := blk_frozen BK571.out 2
    obtain ⟨Ao77, co77, eo77⟩ := Kd.R_slice HO_572000.out
    subst eo77
    obtain ⟨Ao78, co78, eo78⟩ := Kd.R_slice HO_572001.out
    subst eo78
    obtain ⟨Ao79, co79, eo79⟩ := Kd.R_slice HO_572002.out
    subst eo79
    go_wp2_with (first | ((with_reducible refine gate_callee (f := 88) rfl ?_); refine goesL_ (some 41) rfl rfl Try.func88 (by kernel_rfl) rfl #[.agg #[.slice Ao77 x572000_1.length co77, .slice Ao78 x572001_1.length co78, .slice Ao79 x572002_1.length co79]] rfl tm_ ?_; (with_reducible refine (spec_l3Own.calls _ _ x572000_1 _ _ x572001_1 _ _ x572002_1 t572 t575 t578 _ ?side1 ?side2 ?side3 ?side4 ?side5 ?side6 A74.out).mono ?_); (case side1 => exact ca (Kd.R_reads' HO_572000.out).2.2); (case side2 => exact (Kd.R_reads' HO_572000.out).2.1); (case side3 => exact ca (Kd.R_reads' HO_572001.out).2.2); (case side4 => exact (Kd.R_reads' HO_572001.out).2.1); (case side5 => exact ca (Kd.R_reads' HO_572002.out).2.2); (case side6 => exact (Kd.R_reads' HO_572002.out).2.1); rintro e w80 ⟨v573, v576, v579, rfl, ho0, ho1, ho2, hb⟩; refine ⟨_, rfl, ?_⟩; have HO574 := Aside0.mk (Kd.R_lower (Kd.R_new' (Kd.R_new' ho0 (rl_ HO_572000)) (rl_ HO_572001)) (below_size (hB HB))); have HO577 := Aside0.mk (Kd.R_lower (Kd.R_new' (Kd.R_new' ho1 (rl_ HO_572000)) (rl_ HO_572001)) (below_size (hB HB))); have HO580 := Aside0.mk (Kd.R_lower (Kd.R_new' ho2 (rl_ HO_572002)) (below_size (hB HB))); replace HO_7 := rb_ HO_7 hb; replace HO_572000 := rt2_ HO_572000 hb ho0 ho1; replace HO_572001 := rt2_ HO_572001 hb ho0 ho1; replace HO_572002 := re_ HO_572002 ho2 hb; replace BK560 := bb_ BK560 hb; replace BK571 := bb_ BK571 hb; replace HB := bst_ HB hb; clear hb ho0 ho1 ho2; obtain ⟨Ao81, co81, eo81⟩ := Kd.R_slice HO574.out; subst eo81; have hcz82_0 : w80.cell? ⟨gb560, 0, none⟩ = some (.slice none 0 0) := bc_ BK560 0; have hcz82_1 : w80.cell? ⟨gb560, 1, none⟩ = some (.slice none 0 0) := bc_ BK560 1; have hcz82_2 : w80.cell? ⟨gb560, 2, none⟩ = some (.slice none 0 0) := bc_ BK560 2; have hfz82_0 := blk_frozen BK560.out 0; have hfz82_1 := blk_frozen BK560.out 1; have hfz82_2 := blk_frozen BK560.out 2; obtain ⟨Ao83, co83, eo83⟩ := Kd.R_slice HO577.out; subst eo83; obtain ⟨Ao84, co84, eo84⟩ := Kd.R_slice HO580.out; subst eo84))
    refine bodyPost_ret (results_ctt rfl _ _ gb560 35 #[.slice Ao81 t572.length co81, .slice Ao83 t575.length co83, .slice Ao84 t578.length co84] (0, 0) _ rfl (by (with_reducible repeat (first | refine blk_drewN ?_ _ | refine blk_drew ?_ | refine blk_alloc ?_ _)); refine blk_put (cs := #[.slice Ao81 t572.length co81, .slice Ao83 t575.length co83, .slice none 0 0]) ?_ 2 _ rfl; (with_reducible repeat (first | refine blk_drewN ?_ _ | refine blk_drew ?_ | refine blk_alloc ?_ _)); refine blk_put (cs := #[.slice Ao81 t572.length co81, .slice none 0 0, .slice none 0 0]) ?_ 1 _ rfl; (with_reducible repeat (first | refine blk_drewN ?_ _ | refine blk_drew ?_ | refine blk_alloc ?_ _)); refine blk_put (cs := #[.slice none 0 0, .slice none 0 0, .slice none 0 0]) ?_ 0 _ rfl; (with_reducible repeat (first | refine blk_drewN ?_ _ | refine blk_drew ?_ | refine blk_alloc ?_ _)); exact BK560.out) Try.underlying35 rfl (by kernel_rfl)) rfl ?_
    exact ⟨_, _, _, _, by first | rfl | (simp [errW_none, errW_some] <;> rfl) | (simp [*, errW_none, errW_some] <;> rfl), by (with_reducible repeat (first | apply Kd.R_alloc | apply Kd.R_drewN | apply Kd.R_drew)); exact Kd.R_mono (fs3_ HO574.out BK560.out) (fun _ hk => hk.1.1.1), by (with_reducible repeat (first | apply Kd.R_alloc | apply Kd.R_drewN | apply Kd.R_drew)); exact Kd.R_mono (fs3_ HO577.out BK560.out) (fun _ hk => hk.1.1.1), by (with_reducible repeat (first | apply Kd.R_alloc | apply Kd.R_drewN | apply Kd.R_drew)); exact Kd.R_mono (fs3_ HO580.out BK560.out) (fun _ hk => trivial), by (with_reducible repeat (first | apply Kd.R_alloc | apply Kd.R_drewN | apply Kd.R_drew)); exact Kd.R_mono (fs3_ HO_7.out BK560.out) (fun _ hk => trivial), by repeat (first | (with_reducible first | exact HB.out | apply below_alloc | apply pw_below_drewN | apply below_drew1 | refine below_set ?_ GE560.out | refine below_set ?_ GE571.out) | exact HB.out)⟩
   rw [if_pos c14] at H
   have c14b0 : decide (x22_1 < (l0.length : Int)) = true := decide_eq_true c14
   clear c14
   by_cases c15 : 0 ≤ x22_1
   rotate_left
   ·rw [if_neg c15] at H
    exact absurd H (by simp)
   rw [if_pos c15] at H
   have c15b0 : decide (0 ≤ x22_1) = true := decide_eq_true c15
   clear c15
   by_cases c16 : x22_1 < (l0.length : Int)
   rotate_left
   ·rw [if_neg c16] at H
    exact absurd H (by simp)
   rw [if_pos c16] at H
   have c16b0 : decide (x22_1 < (l0.length : Int)) = true := decide_eq_true c16
   clear c16
   replace H := Option.bind_eq_some_iff.mp H
   obtain ⟨⟨t583, t586, t589⟩, A170, H⟩ := H
   replace H : ((spec_l3Step.f k1 t583 t586 t589 ((rd_T37 l0 x22_1).f0) ((rd_T37 l0 x22_1).f1)).bind fun bt592 => (if bt592.2.2.2 = true then (if x7_1.length < 140737488355328 then (spec_PlayPair.l0 k1 (x7_1 ++ [bt592.2.2.2]) l0 (l0.length : Int) (wrap64 (x22_1 + 1)) bt592.1 bt592.2.1 bt592.2.2.1) else (none)) else (if x7_1.length < 140737488355328 then (spec_PlayPair.l0 k1 (x7_1 ++ [bt592.2.2.2]) l0 (l0.length : Int) (wrap64 (x22_1 + 1)) x572000_1 x572001_1 x572002_1) else (none)))) = some (r1, r2, r3, r4, r5) := H
   have A17 := Aside0.mk A170
   clear A170
   replace H := Option.bind_eq_some_iff.mp H
   obtain ⟨⟨t592, t595, t598, t601⟩, A180, H⟩ := H
   replace H : (if t601 = true then (if x7_1.length < 140737488355328 then (spec_PlayPair.l0 k1 (x7_1 ++ [t601]) l0 (l0.length : Int) (wrap64 (x22_1 + 1)) t592 t595 t598) else (none)) else (if x7_1.length < 140737488355328 then (spec_PlayPair.l0 k1 (x7_1 ++ [t601]) l0 (l0.length : Int) (wrap64 (x22_1 + 1)) x572000_1 x572001_1 x572002_1) else (none))) = some (r1, r2, r3, r4, r5) := H
   have A18 := Aside0.mk A180
   clear A180
   by_cases c19 : t601 = true
   rotate_left
   ·replace c19 := Bool.eq_false_iff.mpr c19
    subst c19
    rw [if_neg (show ¬ (false = true) by decide)] at H
    by_cases c50 : x7_1.length < 140737488355328
    rotate_left
    ·rw [if_neg c50] at H
     exact absurd H (by simp)
    rw [if_pos c50] at H
    have LMc50 := Aside0.mk c50
    clear c50
    obtain ⟨y606, hy606⟩ : ∃ y_ : List Bool, y_ = (x7_1 ++ [false]) := ⟨_, rfl⟩
    replace H : (spec_PlayPair.l0 k1 y606 l0 (l0.length : Int) (wrap64 (x22_1 + 1)) x572000_1 x572001_1 x572002_1) = some (r1, r2, r3, r4, r5) := by first | (rw [hy606]; with_reducible exact H) | (have H2_ := (Option.bind_some _ _).symm.trans H; rw [hy606]; with_reducible exact H2_) | (have H2_ := (Option.bind_some _ _).symm.trans H; with_reducible exact H2_) | with_reducible exact H | (rw [hy606]; exact H) | exact H
    have Ny606 := Aside0.mk hy606
    clear hy606
    have H' := Aside0.mk H
    clear H
    have p581 : 0 ≤ (x22_1 : Int) := of_decide_eq_true (by first | (with_reducible assumption) | assumption)
    have q581 : x22_1 < (l0.length : Int) := of_decide_eq_true (by first | (with_reducible assumption) | assumption)
    obtain ⟨ad581, e581, hx581_0, hx581_1⟩ := at_T37 HR0.out x22_1 p581 q581
    cases e581
    replace hx581_0 := (HB.out.cell (World.block_lt_of_cell? w _ hx581_0)).trans hx581_0
    replace hx581_1 := (HB.out.cell (World.block_lt_of_cell? w _ hx581_1)).trans hx581_1
    replace p581 := eq_true p581
    replace q581 := eq_true q581
    try go_wp2_with (first | ((with_reducible refine gate_dst (N := 9) rfl ?_); refine box_event ?hg (N := 9) ?hd (cs := #[.int .i64 0, .int .i64 0]) (t := 37) ?hr ?_; (case hd => rfl); (case hg => rfl); (case hr => first | (go_simp; done) | (go_simp; rfl)); intro gb582 hg w51 hbox hb; have BK582 := Aside0.mk (hbox); have GW582 := gw_ hg HB; have GE582 := gw_ hg HB; have NB560_582 := nl_ hg BK560; have NB582_560 := ng_ hg BK560; have NB571_582 := nl_ hg BK571; have NB582_571 := ng_ hg BK571; replace HO_7 := rb_ HO_7 hb; replace HO_572000 := rb_ HO_572000 hb; replace HO_572001 := rb_ HO_572001 hb; replace HO_572002 := rb_ HO_572002 hb; replace BK560 := bb_ BK560 hb; replace BK571 := bb_ BK571 hb; replace HB := bst_ HB hb; clear hb hbox hg; have hnb52 := NB582_560.out; have hnc52 := NB560_582.out; have hnb53 := NB582_571.out; have hnc53 := NB571_582.out; have hcz54_0 : w51.cell? ⟨gb582, 0, none⟩ = some (.int .i64 0) := bc_ BK582 0; have hcz54_1 : w51.cell? ⟨gb582, 1, none⟩ = some (.int .i64 0) := bc_ BK582 1; have hfz54_0 := blk_frozen BK582.out 0; have hfz54_1 := blk_frozen BK582.out 1; obtain ⟨Ao55, co55, eo55⟩ := Kd.R_slice HO_572000.out; subst eo55; obtain ⟨Ao56, co56, eo56⟩ := Kd.R_slice HO_572001.out; subst eo56; obtain ⟨Ao57, co57, eo57⟩ := Kd.R_slice HO_572002.out; subst eo57))
    have n0_ : Aside0 (Kd.R Kd.bool 4 ((w51.setCell ⟨gb582, 0, none⟩ (.int .i64 ((rd_T37 l0 x22_1).f0))).setCell ⟨gb582, 1, none⟩ (.int .i64 ((rd_T37 l0 x22_1).f1))) w.heap.size (fun _ => True) u7 x7_1) := ⟨by (with_reducible repeat (first | apply Kd.R_alloc | apply Kd.R_drewN | apply Kd.R_drew)); exact Kd.R_mono (Kd.R_far (p := ⟨gb582, 1, none⟩) (Kd.R_far (p := ⟨gb582, 0, none⟩) (Kd.R_types HO_7.out BK582.out (by decide)) (fun _ hk => hk.2) (.int .i64 ((rd_T37 l0 x22_1).f0))) (fun _ hk => hk.2) (.int .i64 ((rd_T37 l0 x22_1).f1))) (fun _ hk => trivial)⟩
    have n1_ : Aside0 (Kd.R (Kd.int .i64) 3 ((w51.setCell ⟨gb582, 0, none⟩ (.int .i64 ((rd_T37 l0 x22_1).f0))).setCell ⟨gb582, 1, none⟩ (.int .i64 ((rd_T37 l0 x22_1).f1))) w.heap.size (fun k_ => no_ (.slice Ao56 x572001_1.length co56) k_) (.slice Ao55 x572000_1.length co55) x572000_1) := ⟨by (with_reducible repeat (first | apply Kd.R_alloc | apply Kd.R_drewN | apply Kd.R_drew)); exact Kd.R_mono (Kd.R_far (p := ⟨gb582, 1, none⟩) (Kd.R_far (p := ⟨gb582, 0, none⟩) (Kd.R_types HO_572000.out BK582.out (by decide)) (fun _ hk => hk.2) (.int .i64 ((rd_T37 l0 x22_1).f0))) (fun _ hk => hk.2) (.int .i64 ((rd_T37 l0 x22_1).f1))) (fun _ hk => hk.1)⟩
    have n2_ : Aside0 (Kd.R (Kd.int .i64) 3 ((w51.setCell ⟨gb582, 0, none⟩ (.int .i64 ((rd_T37 l0 x22_1).f0))).setCell ⟨gb582, 1, none⟩ (.int .i64 ((rd_T37 l0 x22_1).f1))) w.heap.size (fun k_ => no_ (.slice Ao55 x572000_1.length co55) k_) (.slice Ao56 x572001_1.length co56) x572001_1) := ⟨by (with_reducible repeat (first | apply Kd.R_alloc | apply Kd.R_drewN | apply Kd.R_drew)); exact Kd.R_mono (Kd.R_far (p := ⟨gb582, 1, none⟩) (Kd.R_far (p := ⟨gb582, 0, none⟩) (Kd.R_types HO_572001.out BK582.out (by decide)) (fun _ hk => hk.2) (.int .i64 ((rd_T37 l0 x22_1).f0))) (fun _ hk => hk.2) (.int .i64 ((rd_T37 l0 x22_1).f1))) (fun _ hk => hk.1)⟩
    have n3_ : Aside0 (Kd.R k45 45 ((w51.setCell ⟨gb582, 0, none⟩ (.int .i64 ((rd_T37 l0 x22_1).f0))).setCell ⟨gb582, 1, none⟩ (.int .i64 ((rd_T37 l0 x22_1).f1))) w.heap.size (fun _ => True) (.slice Ao57 x572002_1.length co57) x572002_1) := ⟨by (with_reducible repeat (first | apply Kd.R_alloc | apply Kd.R_drewN | apply Kd.R_drew)); exact Kd.R_mono (Kd.R_far (p := ⟨gb582, 1, none⟩) (Kd.R_far (p := ⟨gb582, 0, none⟩) (Kd.R_types HO_572002.out BK582.out (by decide)) (fun _ hk => hk.2) (.int .i64 ((rd_T37 l0 x22_1).f0))) (fun _ hk => hk.2) (.int .i64 ((rd_T37 l0 x22_1).f1))) (fun _ hk => trivial)⟩
    have n4_ : Aside0 (((w51.setCell ⟨gb582, 0, none⟩ (.int .i64 ((rd_T37 l0 x22_1).f0))).setCell ⟨gb582, 1, none⟩ (.int .i64 ((rd_T37 l0 x22_1).f1))).heap[gb560]? = some (.cells #[.slice none 0 0, .slice none 0 0, .slice none 0 0] 35 (0, 0))) := ⟨by (with_reducible repeat (first | refine blk_drewN ?_ _ | refine blk_drew ?_ | refine blk_alloc ?_ _)); refine blk_far ?_ NB560_582.out _; (with_reducible repeat (first | refine blk_drewN ?_ _ | refine blk_drew ?_ | refine blk_alloc ?_ _)); refine blk_far ?_ NB560_582.out _; (with_reducible repeat (first | refine blk_drewN ?_ _ | refine blk_drew ?_ | refine blk_alloc ?_ _)); exact BK560.out⟩
    have n5_ : Aside0 (((w51.setCell ⟨gb582, 0, none⟩ (.int .i64 ((rd_T37 l0 x22_1).f0))).setCell ⟨gb582, 1, none⟩ (.int .i64 ((rd_T37 l0 x22_1).f1))).heap[gb571]? = some (.cells #[.slice Ao55 x572000_1.length co55, .slice Ao56 x572001_1.length co56, .slice Ao57 x572002_1.length co57] 35 (0, 0))) := ⟨by (with_reducible repeat (first | refine blk_drewN ?_ _ | refine blk_drew ?_ | refine blk_alloc ?_ _)); refine blk_far ?_ NB571_582.out _; (with_reducible repeat (first | refine blk_drewN ?_ _ | refine blk_drew ?_ | refine blk_alloc ?_ _)); refine blk_far ?_ NB571_582.out _; (with_reducible repeat (first | refine blk_drewN ?_ _ | refine blk_drew ?_ | refine blk_alloc ?_ _)); exact BK571.out⟩
    have n6_ : Aside0 (((w51.setCell ⟨gb582, 0, none⟩ (.int .i64 ((rd_T37 l0 x22_1).f0))).setCell ⟨gb582, 1, none⟩ (.int .i64 ((rd_T37 l0 x22_1).f1))).heap[gb582]? = some (.cells #[.int .i64 ((rd_T37 l0 x22_1).f0), .int .i64 ((rd_T37 l0 x22_1).f1)] 37 (0, 0))) := ⟨by (with_reducible repeat (first | refine blk_drewN ?_ _ | refine blk_drew ?_ | refine blk_alloc ?_ _)); refine blk_put (cs := #[.int .i64 ((rd_T37 l0 x22_1).f0), .int .i64 0]) ?_ 1 _ rfl; (with_reducible repeat (first | refine blk_drewN ?_ _ | refine blk_drew ?_ | refine blk_alloc ?_ _)); refine blk_put (cs := #[.int .i64 0, .int .i64 0]) ?_ 0 _ rfl; (with_reducible repeat (first | refine blk_drewN ?_ _ | refine blk_drew ?_ | refine blk_alloc ?_ _)); exact BK582.out⟩
    have n7_ : Aside0 (Below w.heap.size w ((w51.setCell ⟨gb582, 0, none⟩ (.int .i64 ((rd_T37 l0 x22_1).f0))).setCell ⟨gb582, 1, none⟩ (.int .i64 ((rd_T37 l0 x22_1).f1)))) := ⟨hB HB⟩
    (try clear HO_7)
    (try clear HO_572000)
    (try clear HO_572001)
    (try clear HO_572002)
    (try clear BK560)
    (try clear BK571)
    (try clear BK582)
    (try clear HB)
    generalize ((w51.setCell ⟨gb582, 0, none⟩ (.int .i64 ((rd_T37 l0 x22_1).f0))).setCell ⟨gb582, 1, none⟩ (.int .i64 ((rd_T37 l0 x22_1).f1))) = w58 at n0_ n1_ n2_ n3_ n4_ n5_ n6_ n7_ ⊢
    have HO_7 := n0_
    have HO_572000 := n1_
    have HO_572001 := n2_
    have HO_572002 := n3_
    have BK560 := n4_
    have BK571 := n5_
    have BK582 := n6_
    have HB := n7_
    clear n0_ n1_ n2_ n3_ n4_ n5_ n6_ n7_
    replace HO_7 := rd_ HO_7
    replace HO_572000 := rd_ HO_572000
    replace HO_572001 := rd_ HO_572001
    replace HO_572002 := rd_ HO_572002
    replace BK560 := bd_ BK560
    replace BK571 := bd_ BK571
    replace BK582 := bd_ BK582
    replace HB := Aside0.mk (below_drew1 HB.out)
    refine start_ (n := 10) (S := fun w' => w'.cell? ⟨gb571, 0, none⟩ = some (.slice Ao55 x572000_1.length co55) ∧ w'.cell? ⟨gb571, 1, none⟩ = some (.slice Ao56 x572001_1.length co56) ∧ w'.cell? ⟨gb571, 2, none⟩ = some (.slice Ao57 x572002_1.length co57) ∧ w'.cell? ⟨gb582, 0, none⟩ = some (.int .i64 ((rd_T37 l0 x22_1).f0)) ∧ w'.cell? ⟨gb582, 1, none⟩ = some (.int .i64 ((rd_T37 l0 x22_1).f1))) (ds := []) (bs 10 0) (by kernel_rfl) rfl rfl ⟨bc_ BK571 0, bc_ BK571 1, bc_ BK571 2, bc_ BK582 0, bc_ BK582 1⟩ (fun hHeld => ?_); refine with_tabW spec_PlayPair.tab8 spec_PlayPair.bits8 (fun HT_ HW_ => ?_)
    generalize w58.drew = w59 at HO_7 HO_572000 HO_572001 HO_572002 BK560 BK571 BK582 HB hHeld ⊢
    refine tk_ 0 27 (bs 10 1) HT_ HW_ hHeld ?_
    refine tk_ 2 29 (bs 10 5) HT_ HW_ hHeld ?_
    refine join_ (σ := Value × Value × Value × Value × Value × Value × Nat) 2 (bs 10 255) (fun s_ => [(28, .agg #[s_.1, s_.2.1, s_.2.2.1]), (30, .tuple #[.agg #[s_.2.2.2.1, s_.2.2.2.2.1, s_.2.2.2.2.2.1], .bool false]), (10, .pointer (some ⟨s_.2.2.2.2.2.2, 0, none⟩)), (26, .tuple #[.agg #[s_.2.2.2.1, s_.2.2.2.2.1, s_.2.2.2.2.2.1], .bool false]), (31, .agg #[s_.2.2.2.1, s_.2.2.2.2.1, s_.2.2.2.2.2.1]), (32, .bool false)]) (fun s_ w' => (w'.cell? ⟨gb571, 0, none⟩ = some (.slice Ao55 x572000_1.length co55) ∧ w'.cell? ⟨gb571, 1, none⟩ = some (.slice Ao56 x572001_1.length co56) ∧ w'.cell? ⟨gb571, 2, none⟩ = some (.slice Ao57 x572002_1.length co57) ∧ w'.cell? ⟨gb582, 0, none⟩ = some (.int .i64 ((rd_T37 l0 x22_1).f0)) ∧ w'.cell? ⟨gb582, 1, none⟩ = some (.int .i64 ((rd_T37 l0 x22_1).f1))) ∧ (Kd.R (Kd.int .i64) 3 w' w.heap.size (fun k_ => no_ s_.2.2.2.2.1 k_ ∧ no_ (.slice Ao55 x572000_1.length co55) k_ ∧ no_ (.slice Ao56 x572001_1.length co56) k_) s_.2.2.2.1 t592) ∧ (Kd.R (Kd.int .i64) 3 w' w.heap.size (fun k_ => no_ s_.2.2.2.1 k_ ∧ no_ (.slice Ao55 x572000_1.length co55) k_ ∧ no_ (.slice Ao56 x572001_1.length co56) k_) s_.2.2.2.2.1 t595) ∧ (Kd.R k45 45 w' w.heap.size (fun k_ => no_ (.slice Ao57 x572002_1.length co57) k_) s_.2.2.2.2.2.1 t598) ∧ (Kd.R (Kd.int .i64) 3 w' w.heap.size (fun k_ => no_ s_.2.2.2.1 k_ ∧ no_ s_.2.2.2.2.1 k_ ∧ no_ (.slice Ao56 x572001_1.length co56) k_) (.slice Ao55 x572000_1.length co55) x572000_1) ∧ (Kd.R (Kd.int .i64) 3 w' w.heap.size (fun k_ => no_ s_.2.2.2.1 k_ ∧ no_ s_.2.2.2.2.1 k_ ∧ no_ (.slice Ao55 x572000_1.length co55) k_) (.slice Ao56 x572001_1.length co56) x572001_1) ∧ (Kd.R k45 45 w' w.heap.size (fun k_ => no_ s_.2.2.2.2.2.1 k_) (.slice Ao57 x572002_1.length co57) x572002_1) ∧ (Kd.R Kd.bool 4 w' w.heap.size (fun _ => True) u7 x7_1) ∧ (w'.heap[gb560]? = some (.cells #[.slice none 0 0, .slice none 0 0, .slice none 0 0] 35 (0, 0))) ∧ (w'.heap[gb571]? = some (.cells #[.slice Ao55 x572000_1.length co55, .slice Ao56 x572001_1.length co56, .slice Ao57 x572002_1.length co57] 35 (0, 0))) ∧ (w'.heap[gb582]? = some (.cells #[.int .i64 ((rd_T37 l0 x22_1).f0), .int .i64 ((rd_T37 l0 x22_1).f1)] 37 (0, 0))) ∧ (w'.heap[s_.2.2.2.2.2.2]? = some (.cells #[.slice none 0 0, .slice none 0 0, .slice none 0 0] 35 (0, 0))) ∧ (w.heap.size ≤ s_.2.2.2.2.2.2) ∧ (w.heap.size ≤ s_.2.2.2.2.2.2) ∧ (gb560 ≠ s_.2.2.2.2.2.2) ∧ (s_.2.2.2.2.2.2 ≠ gb560) ∧ (gb571 ≠ s_.2.2.2.2.2.2) ∧ (s_.2.2.2.2.2.2 ≠ gb571) ∧ (gb582 ≠ s_.2.2.2.2.2.2) ∧ (s_.2.2.2.2.2.2 ≠ gb582) ∧ (Below w.heap.size w w')) ?_ ?_
    rotate_left
    ·intro hCont
     refine two_ (i := 1) (j := 7) (Ni := some 28) (Nj := some 10) (bs 10 7) (bs 10 133) rfl rfl rfl rfl (two_of HT_.out (by kernel_rfl)) (by decide) (by decide) (fun K hK => ?_) (fun K hK => ?_)
     rotate_left
     ·skip
      refine box_step ?hg (N := 10) ?hd (cs := #[.slice none 0 0, .slice none 0 0, .slice none 0 0]) (t := 35) ?hr ?_; (case hd => rfl); (case hg => rfl); (case hr => first | (go_simp; done) | (go_simp; rfl))
      intro gb602 hg w60 hbox hb
      have BK602 := Aside0.mk (hbox)
      have GW602 := gw_ hg HB
      have GE602 := gw_ hg HB
      have NB560_602 := nl_ hg BK560
      have NB602_560 := ng_ hg BK560
      have NB571_602 := nl_ hg BK571
      have NB602_571 := ng_ hg BK571
      have NB582_602 := nl_ hg BK582
      have NB602_582 := ng_ hg BK582
      replace HO_7 := rb_ HO_7 hb
      replace HO_572000 := rb_ HO_572000 hb
      replace HO_572001 := rb_ HO_572001 hb
      replace HO_572002 := rb_ HO_572002 hb
      replace BK560 := bb_ BK560 hb
      replace BK571 := bb_ BK571 hb
      replace BK582 := bb_ BK582 hb
      replace HB := bst_ HB hb
      clear hb hbox hg
      refine hK.out _ _ ⟨bc_ BK571 0, bc_ BK571 1, bc_ BK571 2, bc_ BK582 0, bc_ BK582 1⟩ (fun hHeld => ?_)
      clear hK K
      refine nm_ 10 ?_
      refine one_ (i := 1) (N := some 28) (bs 10 135) rfl rfl (one_of HT_.out (by kernel_rfl)) (by decide) (fun K hK => ?_)
      refine goes_ Try.func88 (by kernel_rfl) rfl #[.agg #[.slice Ao55 x572000_1.length co55, .slice Ao56 x572001_1.length co56, .slice Ao57 x572002_1.length co57]] (by rfl) rfl rfl tm_ ?_
      with_reducible refine (spec_l3Own.calls _ _ x572000_1 _ _ x572001_1 _ _ x572002_1 t583 t586 t589 _ ?side1 ?side2 ?side3 ?side4 ?side5 ?side6 A17.out).mono ?_
      (case side1 => exact ca (Kd.R_reads' HO_572000.out).2.2)
      (case side2 => exact (Kd.R_reads' HO_572000.out).2.1)
      (case side3 => exact ca (Kd.R_reads' HO_572001.out).2.2)
      (case side4 => exact (Kd.R_reads' HO_572001.out).2.1)
      (case side5 => exact ca (Kd.R_reads' HO_572002.out).2.2)
      (case side6 => exact (Kd.R_reads' HO_572002.out).2.1)
      rintro e w61 ⟨v584, v587, v590, rfl, ho0, ho1, ho2, hb⟩
      refine ⟨_, rfl, ?_⟩
      have HO585 := Aside0.mk (Kd.R_lower (Kd.R_new' (Kd.R_new' ho0 (rl_ HO_572000)) (rl_ HO_572001)) (below_size (hB HB)))
      have HO588 := Aside0.mk (Kd.R_lower (Kd.R_new' (Kd.R_new' ho1 (rl_ HO_572000)) (rl_ HO_572001)) (below_size (hB HB)))
      have HO591 := Aside0.mk (Kd.R_lower (Kd.R_new' ho2 (rl_ HO_572002)) (below_size (hB HB)))
      replace HO_7 := rb_ HO_7 hb
      replace HO_572000 := rt2_ HO_572000 hb ho0 ho1
      replace HO_572001 := rt2_ HO_572001 hb ho0 ho1
      replace HO_572002 := re_ HO_572002 ho2 hb
      replace BK560 := bb_ BK560 hb
      replace BK571 := bb_ BK571 hb
      replace BK582 := bb_ BK582 hb
      replace BK602 := bb_ BK602 hb
      replace HB := bst_ HB hb
      clear hb ho0 ho1 ho2
      obtain ⟨Ao62, co62, eo62⟩ := Kd.R_slice HO585.out
      (first | subst eo62 | (injection eo62 with f1_ f2_ f3_; have f4_ := f1_.symm; have f5_ := f3_.symm; clear f1_ f2_ f3_; subst f4_; subst f5_))
      obtain ⟨Ao63, co63, eo63⟩ := Kd.R_slice HO588.out
      (first | subst eo63 | (injection eo63 with f1_ f2_ f3_; have f4_ := f1_.symm; have f5_ := f3_.symm; clear f1_ f2_ f3_; subst f4_; subst f5_))
      obtain ⟨Ao64, co64, eo64⟩ := Kd.R_slice HO591.out
      (first | subst eo64 | (injection eo64 with f1_ f2_ f3_; have f4_ := f1_.symm; have f5_ := f3_.symm; clear f1_ f2_ f3_; subst f4_; subst f5_))
      refine hK.out _ _ ⟨bc_ BK571 0, bc_ BK571 1, bc_ BK571 2, bc_ BK582 0, bc_ BK582 1⟩ (fun hHeld => ?_)
      clear hK K
      refine nm_ 28 ?_
      refine one_ (i := 3) (N := some 30) (bs 10 143) rfl rfl (one_of HT_.out (by kernel_rfl)) (by decide) (fun K hK => ?_)
      refine goes_ Try.func87 (by kernel_rfl) rfl #[.agg #[.slice Ao62 t583.length co62, .slice Ao63 t586.length co63, .slice Ao64 t589.length co64], .agg #[.int .i64 ((rd_T37 l0 x22_1).f0), .int .i64 ((rd_T37 l0 x22_1).f1)]] (by rfl) rfl rfl tm_ ?_
      with_reducible refine (spec_l3Step.calls k1 (fun k_ => some k_ = (.slice Ao62 t583.length co62 : Value).ownBlock) (.slice Ao62 t583.length co62) t583 (fun k_ => some k_ = (.slice Ao63 t586.length co63 : Value).ownBlock) (.slice Ao63 t586.length co63) t586 (fun k_ => some k_ = (.slice Ao64 t589.length co64 : Value).ownBlock) (.slice Ao64 t589.length co64) t589 ((rd_T37 l0 x22_1).f0) ((rd_T37 l0 x22_1).f1) t592 t595 t598 false w _ ?side1 ?side2 ?side3 ?side4 ?side5 ?side6 A18.out).mono ?_
      (case side1 => repeat (first | (with_reducible first | exact HB.out | apply below_alloc | apply pw_below_drewN | apply below_drew1 | refine below_set ?_ GE560.out | refine below_set ?_ GE571.out | refine below_set ?_ GE582.out | refine below_set ?_ GE602.out) | exact HB.out))
      (case side2 => exact Kd.R_tight rfl HO585.out)
      (case side3 => exact fun k_ e_ => (HO585.out.1 k_ e_.symm).1.1)
      (case side4 => exact Kd.R_tight rfl HO588.out)
      (case side5 => exact fun k_ e_ => (HO588.out.1 k_ e_.symm).1.1)
      (case side6 => exact Kd.R_tight rfl HO591.out)
      rintro e w65 ⟨v593, v596, v599, rfl, ho0, ho1, ho2, hb, hkp⟩
      refine ⟨_, rfl, ?_⟩
      have HO594 := Aside0.mk (Kd.R_mono (ok' := fun k_ => no_ v596 k_ ∧ no_ (.slice Ao55 x572000_1.length co55) k_ ∧ no_ (.slice Ao56 x572001_1.length co56) k_) ho0 (fun k_ hk_ => ⟨hk_.2, Or.elim hk_.1 (fun hs_ => Or.elim hs_ (fun hs_ => fun e_ => ((((Kd.R_apart' HO_572000.out (Kd.R_typed HO591.out) (by decide))).1 k_ e_.symm).1.1.2) hs_) (fun hs_ => Or.elim hs_ (fun hs_ => fun e_ => ((((Kd.R_apart' HO_572000.out (Kd.R_typed HO591.out) (by decide))).1 k_ e_.symm).1.2) hs_) (fun hs_ => fun e_ => ((((Kd.R_apart' HO_572000.out (Kd.R_typed HO591.out) (by decide))).1 k_ e_.symm).2) hs_))) (fun hn_ => (Kd.fresh' (rl_ HO_572000) k_ hn_)), Or.elim hk_.1 (fun hs_ => Or.elim hs_ (fun hs_ => fun e_ => ((((Kd.R_apart' HO_572001.out (Kd.R_typed HO591.out) (by decide))).1 k_ e_.symm).1.1.2) hs_) (fun hs_ => Or.elim hs_ (fun hs_ => fun e_ => ((((Kd.R_apart' HO_572001.out (Kd.R_typed HO591.out) (by decide))).1 k_ e_.symm).1.2) hs_) (fun hs_ => fun e_ => ((((Kd.R_apart' HO_572001.out (Kd.R_typed HO591.out) (by decide))).1 k_ e_.symm).2) hs_))) (fun hn_ => (Kd.fresh' (rl_ HO_572001) k_ hn_))⟩))
      have HO597 := Aside0.mk (Kd.R_mono (ok' := fun k_ => no_ v593 k_ ∧ no_ (.slice Ao55 x572000_1.length co55) k_ ∧ no_ (.slice Ao56 x572001_1.length co56) k_) ho1 (fun k_ hk_ => ⟨hk_.2, Or.elim hk_.1 (fun hs_ => Or.elim hs_ (fun hs_ => fun e_ => ((((Kd.R_apart' HO_572000.out (Kd.R_typed HO591.out) (by decide))).1 k_ e_.symm).1.1.2) hs_) (fun hs_ => Or.elim hs_ (fun hs_ => fun e_ => ((((Kd.R_apart' HO_572000.out (Kd.R_typed HO591.out) (by decide))).1 k_ e_.symm).1.2) hs_) (fun hs_ => fun e_ => ((((Kd.R_apart' HO_572000.out (Kd.R_typed HO591.out) (by decide))).1 k_ e_.symm).2) hs_))) (fun hn_ => (Kd.fresh' (rl_ HO_572000) k_ hn_)), Or.elim hk_.1 (fun hs_ => Or.elim hs_ (fun hs_ => fun e_ => ((((Kd.R_apart' HO_572001.out (Kd.R_typed HO591.out) (by decide))).1 k_ e_.symm).1.1.2) hs_) (fun hs_ => Or.elim hs_ (fun hs_ => fun e_ => ((((Kd.R_apart' HO_572001.out (Kd.R_typed HO591.out) (by decide))).1 k_ e_.symm).1.2) hs_) (fun hs_ => fun e_ => ((((Kd.R_apart' HO_572001.out (Kd.R_typed HO591.out) (by decide))).1 k_ e_.symm).2) hs_))) (fun hn_ => (Kd.fresh' (rl_ HO_572001) k_ hn_))⟩))
      have HO600 := Aside0.mk (Kd.R_mono (ok' := fun k_ => no_ (.slice Ao57 x572002_1.length co57) k_) ho2 (fun k_ hk_ => Or.elim hk_ (fun hs_ => Or.elim hs_ (fun hs_ => fun e_ => ((((Kd.R_apart' (Kd.R_apart' HO_572002.out (Kd.R_typed HO585.out) (by decide)) (Kd.R_typed HO588.out) (by decide))).1 k_ e_.symm).1.2) hs_) (fun hs_ => Or.elim hs_ (fun hs_ => fun e_ => ((((Kd.R_apart' (Kd.R_apart' HO_572002.out (Kd.R_typed HO585.out) (by decide)) (Kd.R_typed HO588.out) (by decide))).1 k_ e_.symm).2) hs_) (fun hs_ => fun e_ => ((((Kd.R_apart' (Kd.R_apart' HO_572002.out (Kd.R_typed HO585.out) (by decide)) (Kd.R_typed HO588.out) (by decide))).1 k_ e_.symm).1.1.2) hs_))) (fun hn_ => (Kd.fresh' (rl_ HO_572002) k_ hn_))))
      replace HO_7 := Aside0.mk (Kd.R_mono (ok' := fun k_ => True) (Kd.R_keptB ((Kd.R_apart' (Kd.R_apart' (Kd.R_apart' HO_7.out (Kd.R_typed HO585.out) (by decide)) (Kd.R_typed HO588.out) (by decide)) (Kd.R_typed HO591.out) (by decide))) hkp (fun k_ hk_ hs_ => Or.elim hs_ (fun e_ => (hk_.1.1.2) e_) (fun e_ => Or.elim e_ (fun e_ => (hk_.1.2) e_) (fun e_ => (hk_.2) e_)))) (fun k_ hk_ => trivial))
      replace HO_572000 := Aside0.mk (Kd.R_mono (ok' := fun k_ => no_ (.slice Ao56 x572001_1.length co56) k_ ∧ no_ v593 k_ ∧ no_ v596 k_) (Kd.R_keptB ((Kd.R_apart' HO_572000.out (Kd.R_typed HO591.out) (by decide))) hkp (fun k_ hk_ hs_ => Or.elim hs_ (fun e_ => (hk_.1.1.2) e_) (fun e_ => Or.elim e_ (fun e_ => (hk_.1.2) e_) (fun e_ => (hk_.2) e_)))) (fun k_ hk_ => ⟨hk_.1.1.1.1, fun e_ => Or.elim (ho0.1 k_ e_.symm).1 (fun hs_ => hk_.2.1 hs_) (fun hn_ => Nat.not_le.2 hk_.2.2 hn_), fun e_ => Or.elim (ho1.1 k_ e_.symm).1 (fun hs_ => hk_.2.1 hs_) (fun hn_ => Nat.not_le.2 hk_.2.2 hn_)⟩))
      replace HO_572001 := Aside0.mk (Kd.R_mono (ok' := fun k_ => no_ (.slice Ao55 x572000_1.length co55) k_ ∧ no_ v593 k_ ∧ no_ v596 k_) (Kd.R_keptB ((Kd.R_apart' HO_572001.out (Kd.R_typed HO591.out) (by decide))) hkp (fun k_ hk_ hs_ => Or.elim hs_ (fun e_ => (hk_.1.1.2) e_) (fun e_ => Or.elim e_ (fun e_ => (hk_.1.2) e_) (fun e_ => (hk_.2) e_)))) (fun k_ hk_ => ⟨hk_.1.1.1.1, fun e_ => Or.elim (ho0.1 k_ e_.symm).1 (fun hs_ => hk_.2.1 hs_) (fun hn_ => Nat.not_le.2 hk_.2.2 hn_), fun e_ => Or.elim (ho1.1 k_ e_.symm).1 (fun hs_ => hk_.2.1 hs_) (fun hn_ => Nat.not_le.2 hk_.2.2 hn_)⟩))
      replace HO_572002 := Aside0.mk (Kd.R_mono (ok' := fun k_ => no_ v599 k_) (Kd.R_keptB ((Kd.R_apart' (Kd.R_apart' HO_572002.out (Kd.R_typed HO585.out) (by decide)) (Kd.R_typed HO588.out) (by decide))) hkp (fun k_ hk_ hs_ => Or.elim hs_ (fun e_ => (hk_.1.2) e_) (fun e_ => Or.elim e_ (fun e_ => (hk_.2) e_) (fun e_ => (hk_.1.1.2) e_)))) (fun k_ hk_ => fun e_ => Or.elim (ho2.1 k_ e_.symm) (fun hs_ => hk_.2.1 hs_) (fun hn_ => Nat.not_le.2 hk_.2.2 hn_)))
      replace BK560 := Aside0.mk (blk_kept (ba BK560.out) hkp (fun hs_ => Or.elim hs_ (kne_ HO585 BK560) (fun e_ => Or.elim e_ (kne_ HO588 BK560) (kne_ HO591 BK560))))
      replace BK571 := Aside0.mk (blk_kept (ba BK571.out) hkp (fun hs_ => Or.elim hs_ (kne_ HO585 BK571) (fun e_ => Or.elim e_ (kne_ HO588 BK571) (kne_ HO591 BK571))))
      replace BK582 := Aside0.mk (blk_kept (ba BK582.out) hkp (fun hs_ => Or.elim hs_ (kne_ HO585 BK582) (fun e_ => Or.elim e_ (kne_ HO588 BK582) (kne_ HO591 BK582))))
      replace BK602 := Aside0.mk (blk_kept (ba BK602.out) hkp (fun hs_ => Or.elim hs_ (kne_ HO585 BK602) (fun e_ => Or.elim e_ (kne_ HO588 BK602) (kne_ HO591 BK602))))
      replace HB := Aside0.mk (hb)
      clear HO585 HO588 HO591
      clear hb ho0 ho1 ho2
      refine hK.out _ _ ⟨bc_ BK571 0, bc_ BK571 1, bc_ BK571 2, bc_ BK582 0, bc_ BK582 1⟩ (fun hHeld => ?_)
      clear hK K
      refine nm_ 30 ?_
      refine pu_ 4 26 (bs 10 159) HT_ ?_
      refine pu_ 5 31 (bs 10 191) HT_ ?_
      refine pu_ 6 32 (bs 10 255) HT_ ?_
      exact norm_ (by simp only [putAll, Act.put, List.setIfInBounds_toArray, List.set_cons_zero, List.set_cons_succ]) (hCont (.slice Ao62 t583.length co62, .slice Ao63 t586.length co63, .slice Ao64 t589.length co64, v593, v596, v599, gb602) _ ⟨hHeld, (ra HO594.out), (ra HO597.out), (ra HO600.out), (rm_ HO_572000 (fun _ hk => ⟨hk.2.1, ⟨hk.2.2, hk.1⟩⟩)).out, (rm_ HO_572001 (fun _ hk => ⟨hk.2.1, ⟨hk.2.2, hk.1⟩⟩)).out, (ra HO_572002.out), (ra HO_7.out), (ba BK560.out), (ba BK571.out), (ba BK582.out), (ba BK602.out), GW602.out, GE602.out, NB560_602.out, NB602_560.out, NB571_602.out, NB602_571.out, NB582_602.out, NB602_582.out, (hB HB)⟩)
     skip
     refine goes_ Try.func88 (by kernel_rfl) rfl #[.agg #[.slice Ao55 x572000_1.length co55, .slice Ao56 x572001_1.length co56, .slice Ao57 x572002_1.length co57]] (by rfl) rfl rfl tm_ ?_
     with_reducible refine (spec_l3Own.calls _ _ x572000_1 _ _ x572001_1 _ _ x572002_1 t583 t586 t589 _ ?side1 ?side2 ?side3 ?side4 ?side5 ?side6 A17.out).mono ?_
     (case side1 => exact ca (Kd.R_reads' HO_572000.out).2.2)
     (case side2 => exact (Kd.R_reads' HO_572000.out).2.1)
     (case side3 => exact ca (Kd.R_reads' HO_572001.out).2.2)
     (case side4 => exact (Kd.R_reads' HO_572001.out).2.1)
     (case side5 => exact ca (Kd.R_reads' HO_572002.out).2.2)
     (case side6 => exact (Kd.R_reads' HO_572002.out).2.1)
     rintro e w60 ⟨v584, v587, v590, rfl, ho0, ho1, ho2, hb⟩
     refine ⟨_, rfl, ?_⟩
     have HO585 := Aside0.mk (Kd.R_lower (Kd.R_new' (Kd.R_new' ho0 (rl_ HO_572000)) (rl_ HO_572001)) (below_size (hB HB)))
     have HO588 := Aside0.mk (Kd.R_lower (Kd.R_new' (Kd.R_new' ho1 (rl_ HO_572000)) (rl_ HO_572001)) (below_size (hB HB)))
     have HO591 := Aside0.mk (Kd.R_lower (Kd.R_new' ho2 (rl_ HO_572002)) (below_size (hB HB)))
     replace HO_7 := rb_ HO_7 hb
     replace HO_572000 := rt2_ HO_572000 hb ho0 ho1
     replace HO_572001 := rt2_ HO_572001 hb ho0 ho1
     replace HO_572002 := re_ HO_572002 ho2 hb
     replace BK560 := bb_ BK560 hb
     replace BK571 := bb_ BK571 hb
     replace BK582 := bb_ BK582 hb
     replace HB := bst_ HB hb
     clear hb ho0 ho1 ho2
     obtain ⟨Ao61, co61, eo61⟩ := Kd.R_slice HO585.out
     (first | subst eo61 | (injection eo61 with f1_ f2_ f3_; have f4_ := f1_.symm; have f5_ := f3_.symm; clear f1_ f2_ f3_; subst f4_; subst f5_))
     obtain ⟨Ao62, co62, eo62⟩ := Kd.R_slice HO588.out
     (first | subst eo62 | (injection eo62 with f1_ f2_ f3_; have f4_ := f1_.symm; have f5_ := f3_.symm; clear f1_ f2_ f3_; subst f4_; subst f5_))
     obtain ⟨Ao63, co63, eo63⟩ := Kd.R_slice HO591.out
     (first | subst eo63 | (injection eo63 with f1_ f2_ f3_; have f4_ := f1_.symm; have f5_ := f3_.symm; clear f1_ f2_ f3_; subst f4_; subst f5_))
     refine hK.out _ _ ⟨bc_ BK571 0, bc_ BK571 1, bc_ BK571 2, bc_ BK582 0, bc_ BK582 1⟩ (fun hHeld => ?_)
     clear hK K
     refine nm_ 28 ?_
     refine two_ (i := 3) (j := 7) (Ni := some 30) (Nj := some 10) (bs 10 15) (bs 10 135) rfl rfl rfl rfl (two_of HT_.out (by kernel_rfl)) (by decide) (by decide) (fun K hK => ?_) (fun K hK => ?_)
     ·skip
      refine goes_ Try.func87 (by kernel_rfl) rfl #[.agg #[.slice Ao61 t583.length co61, .slice Ao62 t586.length co62, .slice Ao63 t589.length co63], .agg #[.int .i64 ((rd_T37 l0 x22_1).f0), .int .i64 ((rd_T37 l0 x22_1).f1)]] (by rfl) rfl rfl tm_ ?_
      with_reducible refine (spec_l3Step.calls k1 (fun k_ => some k_ = (.slice Ao61 t583.length co61 : Value).ownBlock) (.slice Ao61 t583.length co61) t583 (fun k_ => some k_ = (.slice Ao62 t586.length co62 : Value).ownBlock) (.slice Ao62 t586.length co62) t586 (fun k_ => some k_ = (.slice Ao63 t589.length co63 : Value).ownBlock) (.slice Ao63 t589.length co63) t589 ((rd_T37 l0 x22_1).f0) ((rd_T37 l0 x22_1).f1) t592 t595 t598 false w _ ?side1 ?side2 ?side3 ?side4 ?side5 ?side6 A18.out).mono ?_
      (case side1 => repeat (first | (with_reducible first | exact HB.out | apply below_alloc | apply pw_below_drewN | apply below_drew1 | refine below_set ?_ GE560.out | refine below_set ?_ GE571.out | refine below_set ?_ GE582.out) | exact HB.out))
      (case side2 => exact Kd.R_tight rfl HO585.out)
      (case side3 => exact fun k_ e_ => (HO585.out.1 k_ e_.symm).1.1)
      (case side4 => exact Kd.R_tight rfl HO588.out)
      (case side5 => exact fun k_ e_ => (HO588.out.1 k_ e_.symm).1.1)
      (case side6 => exact Kd.R_tight rfl HO591.out)
      rintro e w64 ⟨v593, v596, v599, rfl, ho0, ho1, ho2, hb, hkp⟩
      refine ⟨_, rfl, ?_⟩
      have HO594 := Aside0.mk (Kd.R_mono (ok' := fun k_ => no_ v596 k_ ∧ no_ (.slice Ao55 x572000_1.length co55) k_ ∧ no_ (.slice Ao56 x572001_1.length co56) k_) ho0 (fun k_ hk_ => ⟨hk_.2, Or.elim hk_.1 (fun hs_ => Or.elim hs_ (fun hs_ => fun e_ => ((((Kd.R_apart' HO_572000.out (Kd.R_typed HO591.out) (by decide))).1 k_ e_.symm).1.1.2) hs_) (fun hs_ => Or.elim hs_ (fun hs_ => fun e_ => ((((Kd.R_apart' HO_572000.out (Kd.R_typed HO591.out) (by decide))).1 k_ e_.symm).1.2) hs_) (fun hs_ => fun e_ => ((((Kd.R_apart' HO_572000.out (Kd.R_typed HO591.out) (by decide))).1 k_ e_.symm).2) hs_))) (fun hn_ => (Kd.fresh' (rl_ HO_572000) k_ hn_)), Or.elim hk_.1 (fun hs_ => Or.elim hs_ (fun hs_ => fun e_ => ((((Kd.R_apart' HO_572001.out (Kd.R_typed HO591.out) (by decide))).1 k_ e_.symm).1.1.2) hs_) (fun hs_ => Or.elim hs_ (fun hs_ => fun e_ => ((((Kd.R_apart' HO_572001.out (Kd.R_typed HO591.out) (by decide))).1 k_ e_.symm).1.2) hs_) (fun hs_ => fun e_ => ((((Kd.R_apart' HO_572001.out (Kd.R_typed HO591.out) (by decide))).1 k_ e_.symm).2) hs_))) (fun hn_ => (Kd.fresh' (rl_ HO_572001) k_ hn_))⟩))
      have HO597 := Aside0.mk (Kd.R_mono (ok' := fun k_ => no_ v593 k_ ∧ no_ (.slice Ao55 x572000_1.length co55) k_ ∧ no_ (.slice Ao56 x572001_1.length co56) k_) ho1 (fun k_ hk_ => ⟨hk_.2, Or.elim hk_.1 (fun hs_ => Or.elim hs_ (fun hs_ => fun e_ => ((((Kd.R_apart' HO_572000.out (Kd.R_typed HO591.out) (by decide))).1 k_ e_.symm).1.1.2) hs_) (fun hs_ => Or.elim hs_ (fun hs_ => fun e_ => ((((Kd.R_apart' HO_572000.out (Kd.R_typed HO591.out) (by decide))).1 k_ e_.symm).1.2) hs_) (fun hs_ => fun e_ => ((((Kd.R_apart' HO_572000.out (Kd.R_typed HO591.out) (by decide))).1 k_ e_.symm).2) hs_))) (fun hn_ => (Kd.fresh' (rl_ HO_572000) k_ hn_)), Or.elim hk_.1 (fun hs_ => Or.elim hs_ (fun hs_ => fun e_ => ((((Kd.R_apart' HO_572001.out (Kd.R_typed HO591.out) (by decide))).1 k_ e_.symm).1.1.2) hs_) (fun hs_ => Or.elim hs_ (fun hs_ => fun e_ => ((((Kd.R_apart' HO_572001.out (Kd.R_typed HO591.out) (by decide))).1 k_ e_.symm).1.2) hs_) (fun hs_ => fun e_ => ((((Kd.R_apart' HO_572001.out (Kd.R_typed HO591.out) (by decide))).1 k_ e_.symm).2) hs_))) (fun hn_ => (Kd.fresh' (rl_ HO_572001) k_ hn_))⟩))
      have HO600 := Aside0.mk (Kd.R_mono (ok' := fun k_ => no_ (.slice Ao57 x572002_1.length co57) k_) ho2 (fun k_ hk_ => Or.elim hk_ (fun hs_ => Or.elim hs_ (fun hs_ => fun e_ => ((((Kd.R_apart' (Kd.R_apart' HO_572002.out (Kd.R_typed HO585.out) (by decide)) (Kd.R_typed HO588.out) (by decide))).1 k_ e_.symm).1.2) hs_) (fun hs_ => Or.elim hs_ (fun hs_ => fun e_ => ((((Kd.R_apart' (Kd.R_apart' HO_572002.out (Kd.R_typed HO585.out) (by decide)) (Kd.R_typed HO588.out) (by decide))).1 k_ e_.symm).2) hs_) (fun hs_ => fun e_ => ((((Kd.R_apart' (Kd.R_apart' HO_572002.out (Kd.R_typed HO585.out) (by decide)) (Kd.R_typed HO588.out) (by decide))).1 k_ e_.symm).1.1.2) hs_))) (fun hn_ => (Kd.fresh' (rl_ HO_572002) k_ hn_))))
      replace HO_7 := Aside0.mk (Kd.R_mono (ok' := fun k_ => True) (Kd.R_keptB ((Kd.R_apart' (Kd.R_apart' (Kd.R_apart' HO_7.out (Kd.R_typed HO585.out) (by decide)) (Kd.R_typed HO588.out) (by decide)) (Kd.R_typed HO591.out) (by decide))) hkp (fun k_ hk_ hs_ => Or.elim hs_ (fun e_ => (hk_.1.1.2) e_) (fun e_ => Or.elim e_ (fun e_ => (hk_.1.2) e_) (fun e_ => (hk_.2) e_)))) (fun k_ hk_ => trivial))
      replace HO_572000 := Aside0.mk (Kd.R_mono (ok' := fun k_ => no_ (.slice Ao56 x572001_1.length co56) k_ ∧ no_ v593 k_ ∧ no_ v596 k_) (Kd.R_keptB ((Kd.R_apart' HO_572000.out (Kd.R_typed HO591.out) (by decide))) hkp (fun k_ hk_ hs_ => Or.elim hs_ (fun e_ => (hk_.1.1.2) e_) (fun e_ => Or.elim e_ (fun e_ => (hk_.1.2) e_) (fun e_ => (hk_.2) e_)))) (fun k_ hk_ => ⟨hk_.1.1.1.1, fun e_ => Or.elim (ho0.1 k_ e_.symm).1 (fun hs_ => hk_.2.1 hs_) (fun hn_ => Nat.not_le.2 hk_.2.2 hn_), fun e_ => Or.elim (ho1.1 k_ e_.symm).1 (fun hs_ => hk_.2.1 hs_) (fun hn_ => Nat.not_le.2 hk_.2.2 hn_)⟩))
      replace HO_572001 := Aside0.mk (Kd.R_mono (ok' := fun k_ => no_ (.slice Ao55 x572000_1.length co55) k_ ∧ no_ v593 k_ ∧ no_ v596 k_) (Kd.R_keptB ((Kd.R_apart' HO_572001.out (Kd.R_typed HO591.out) (by decide))) hkp (fun k_ hk_ hs_ => Or.elim hs_ (fun e_ => (hk_.1.1.2) e_) (fun e_ => Or.elim e_ (fun e_ => (hk_.1.2) e_) (fun e_ => (hk_.2) e_)))) (fun k_ hk_ => ⟨hk_.1.1.1.1, fun e_ => Or.elim (ho0.1 k_ e_.symm).1 (fun hs_ => hk_.2.1 hs_) (fun hn_ => Nat.not_le.2 hk_.2.2 hn_), fun e_ => Or.elim (ho1.1 k_ e_.symm).1 (fun hs_ => hk_.2.1 hs_) (fun hn_ => Nat.not_le.2 hk_.2.2 hn_)⟩))
      replace HO_572002 := Aside0.mk (Kd.R_mono (ok' := fun k_ => no_ v599 k_) (Kd.R_keptB ((Kd.R_apart' (Kd.R_apart' HO_572002.out (Kd.R_typed HO585.out) (by decide)) (Kd.R_typed HO588.out) (by decide))) hkp (fun k_ hk_ hs_ => Or.elim hs_ (fun e_ => (hk_.1.2) e_) (fun e_ => Or.elim e_ (fun e_ => (hk_.2) e_) (fun e_ => (hk_.1.1.2) e_)))) (fun k_ hk_ => fun e_ => Or.elim (ho2.1 k_ e_.symm) (fun hs_ => hk_.2.1 hs_) (fun hn_ => Nat.not_le.2 hk_.2.2 hn_)))
      replace BK560 := Aside0.mk (blk_kept (ba BK560.out) hkp (fun hs_ => Or.elim hs_ (kne_ HO585 BK560) (fun e_ => Or.elim e_ (kne_ HO588 BK560) (kne_ HO591 BK560))))
      replace BK571 := Aside0.mk (blk_kept (ba BK571.out) hkp (fun hs_ => Or.elim hs_ (kne_ HO585 BK571) (fun e_ => Or.elim e_ (kne_ HO588 BK571) (kne_ HO591 BK571))))
      replace BK582 := Aside0.mk (blk_kept (ba BK582.out) hkp (fun hs_ => Or.elim hs_ (kne_ HO585 BK582) (fun e_ => Or.elim e_ (kne_ HO588 BK582) (kne_ HO591 BK582))))
      replace HB := Aside0.mk (hb)
      clear HO585 HO588 HO591
      clear hb ho0 ho1 ho2
      refine hK.out _ _ ⟨bc_ BK571 0, bc_ BK571 1, bc_ BK571 2, bc_ BK582 0, bc_ BK582 1⟩ (fun hHeld => ?_)
      clear hK K
      refine nm_ 30 ?_
      refine pu_ 4 26 (bs 10 31) HT_ ?_
      refine pu_ 5 31 (bs 10 63) HT_ ?_
      refine pu_ 6 32 (bs 10 127) HT_ ?_
      refine one_ (i := 7) (N := some 10) (bs 10 255) rfl rfl (one_of HT_.out (by kernel_rfl)) (by decide) (fun K hK => ?_)
      refine box_step ?hg (N := 10) ?hd (cs := #[.slice none 0 0, .slice none 0 0, .slice none 0 0]) (t := 35) ?hr ?_; (case hd => rfl); (case hg => rfl); (case hr => first | (go_simp; done) | (go_simp; rfl))
      intro gb602 hg w65 hbox hb
      have BK602 := Aside0.mk (hbox)
      have GW602 := gw_ hg HB
      have GE602 := gw_ hg HB
      have NB560_602 := nl_ hg BK560
      have NB602_560 := ng_ hg BK560
      have NB571_602 := nl_ hg BK571
      have NB602_571 := ng_ hg BK571
      have NB582_602 := nl_ hg BK582
      have NB602_582 := ng_ hg BK582
      replace HO_7 := rb_ HO_7 hb
      replace HO_572000 := rb_ HO_572000 hb
      replace HO_572001 := rb_ HO_572001 hb
      replace HO_572002 := rb_ HO_572002 hb
      replace HO594 := rb_ HO594 hb
      replace HO597 := rb_ HO597 hb
      replace HO600 := rb_ HO600 hb
      replace BK560 := bb_ BK560 hb
      replace BK571 := bb_ BK571 hb
      replace BK582 := bb_ BK582 hb
      replace HB := bst_ HB hb
      clear hb hbox hg
      refine hK.out _ _ ⟨bc_ BK571 0, bc_ BK571 1, bc_ BK571 2, bc_ BK582 0, bc_ BK582 1⟩ (fun hHeld => ?_)
      clear hK K
      refine nm_ 10 ?_
      exact norm_ (by simp only [putAll, Act.put, List.setIfInBounds_toArray, List.set_cons_zero, List.set_cons_succ]) (hCont (.slice Ao61 t583.length co61, .slice Ao62 t586.length co62, .slice Ao63 t589.length co63, v593, v596, v599, gb602) _ ⟨hHeld, (ra HO594.out), (ra HO597.out), (ra HO600.out), (rm_ HO_572000 (fun _ hk => ⟨hk.2.1, ⟨hk.2.2, hk.1⟩⟩)).out, (rm_ HO_572001 (fun _ hk => ⟨hk.2.1, ⟨hk.2.2, hk.1⟩⟩)).out, (ra HO_572002.out), (ra HO_7.out), (ba BK560.out), (ba BK571.out), (ba BK582.out), (ba BK602.out), GW602.out, GE602.out, NB560_602.out, NB602_560.out, NB571_602.out, NB602_571.out, NB582_602.out, NB602_582.out, (hB HB)⟩)
     skip
     refine box_step ?hg (N := 10) ?hd (cs := #[.slice none 0 0, .slice none 0 0, .slice none 0 0]) (t := 35) ?hr ?_; (case hd => rfl); (case hg => rfl); (case hr => first | (go_simp; done) | (go_simp; rfl))
     intro gb602 hg w61 hbox hb
     have BK602 := Aside0.mk (hbox)
     have GW602 := gw_ hg HB
     have GE602 := gw_ hg HB
     have NB560_602 := nl_ hg BK560
     have NB602_560 := ng_ hg BK560
     have NB571_602 := nl_ hg BK571
     have NB602_571 := ng_ hg BK571
     have NB582_602 := nl_ hg BK582
     have NB602_582 := ng_ hg BK582
     replace HO_7 := rb_ HO_7 hb
     replace HO_572000 := rb_ HO_572000 hb
     replace HO_572001 := rb_ HO_572001 hb
     replace HO_572002 := rb_ HO_572002 hb
     replace HO585 := rb_ HO585 hb
     replace HO588 := rb_ HO588 hb
     replace HO591 := rb_ HO591 hb
     replace BK560 := bb_ BK560 hb
     replace BK571 := bb_ BK571 hb
     replace BK582 := bb_ BK582 hb
     replace HB := bst_ HB hb
     clear hb hbox hg
     obtain ⟨Ao62, co62, eo62⟩ := Kd.R_slice HO585.out
     (first | subst eo62 | (injection eo62 with f1_ f2_ f3_; have f4_ := f1_.symm; have f5_ := f3_.symm; clear f1_ f2_ f3_; subst f4_; subst f5_))
     obtain ⟨Ao63, co63, eo63⟩ := Kd.R_slice HO588.out
     (first | subst eo63 | (injection eo63 with f1_ f2_ f3_; have f4_ := f1_.symm; have f5_ := f3_.symm; clear f1_ f2_ f3_; subst f4_; subst f5_))
     obtain ⟨Ao64, co64, eo64⟩ := Kd.R_slice HO591.out
     (first | subst eo64 | (injection eo64 with f1_ f2_ f3_; have f4_ := f1_.symm; have f5_ := f3_.symm; clear f1_ f2_ f3_; subst f4_; subst f5_))
     refine hK.out _ _ ⟨bc_ BK571 0, bc_ BK571 1, bc_ BK571 2, bc_ BK582 0, bc_ BK582 1⟩ (fun hHeld => ?_)
     clear hK K
     refine nm_ 10 ?_
     refine one_ (i := 3) (N := some 30) (bs 10 143) rfl rfl (one_of HT_.out (by kernel_rfl)) (by decide) (fun K hK => ?_)
     refine goes_ Try.func87 (by kernel_rfl) rfl #[.agg #[.slice Ao62 t583.length co62, .slice Ao63 t586.length co63, .slice Ao64 t589.length co64], .agg #[.int .i64 ((rd_T37 l0 x22_1).f0), .int .i64 ((rd_T37 l0 x22_1).f1)]] (by rfl) rfl rfl tm_ ?_
     with_reducible refine (spec_l3Step.calls k1 (fun k_ => some k_ = (.slice Ao62 t583.length co62 : Value).ownBlock) (.slice Ao62 t583.length co62) t583 (fun k_ => some k_ = (.slice Ao63 t586.length co63 : Value).ownBlock) (.slice Ao63 t586.length co63) t586 (fun k_ => some k_ = (.slice Ao64 t589.length co64 : Value).ownBlock) (.slice Ao64 t589.length co64) t589 ((rd_T37 l0 x22_1).f0) ((rd_T37 l0 x22_1).f1) t592 t595 t598 false w _ ?side1 ?side2 ?side3 ?side4 ?side5 ?side6 A18.out).mono ?_
     (case side1 => repeat (first | (with_reducible first | exact HB.out | apply below_alloc | apply pw_below_drewN | apply below_drew1 | refine below_set ?_ GE560.out | refine below_set ?_ GE571.out | refine below_set ?_ GE582.out | refine below_set ?_ GE602.out) | exact HB.out))
     (case side2 => exact Kd.R_tight rfl HO585.out)
     (case side3 => exact fun k_ e_ => (HO585.out.1 k_ e_.symm).1.1)
     (case side4 => exact Kd.R_tight rfl HO588.out)
     (case side5 => exact fun k_ e_ => (HO588.out.1 k_ e_.symm).1.1)
     (case side6 => exact Kd.R_tight rfl HO591.out)
     rintro e w65 ⟨v593, v596, v599, rfl, ho0, ho1, ho2, hb, hkp⟩
     refine ⟨_, rfl, ?_⟩
     have HO594 := Aside0.mk (Kd.R_mono (ok' := fun k_ => no_ v596 k_ ∧ no_ (.slice Ao55 x572000_1.length co55) k_ ∧ no_ (.slice Ao56 x572001_1.length co56) k_) ho0 (fun k_ hk_ => ⟨hk_.2, Or.elim hk_.1 (fun hs_ => Or.elim hs_ (fun hs_ => fun e_ => ((((Kd.R_apart' HO_572000.out (Kd.R_typed HO591.out) (by decide))).1 k_ e_.symm).1.1.2) hs_) (fun hs_ => Or.elim hs_ (fun hs_ => fun e_ => ((((Kd.R_apart' HO_572000.out (Kd.R_typed HO591.out) (by decide))).1 k_ e_.symm).1.2) hs_) (fun hs_ => fun e_ => ((((Kd.R_apart' HO_572000.out (Kd.R_typed HO591.out) (by decide))).1 k_ e_.symm).2) hs_))) (fun hn_ => (Kd.fresh' (rl_ HO_572000) k_ hn_)), Or.elim hk_.1 (fun hs_ => Or.elim hs_ (fun hs_ => fun e_ => ((((Kd.R_apart' HO_572001.out (Kd.R_typed HO591.out) (by decide))).1 k_ e_.symm).1.1.2) hs_) (fun hs_ => Or.elim hs_ (fun hs_ => fun e_ => ((((Kd.R_apart' HO_572001.out (Kd.R_typed HO591.out) (by decide))).1 k_ e_.symm).1.2) hs_) (fun hs_ => fun e_ => ((((Kd.R_apart' HO_572001.out (Kd.R_typed HO591.out) (by decide))).1 k_ e_.symm).2) hs_))) (fun hn_ => (Kd.fresh' (rl_ HO_572001) k_ hn_))⟩))
     have HO597 := Aside0.mk (Kd.R_mono (ok' := fun k_ => no_ v593 k_ ∧ no_ (.slice Ao55 x572000_1.length co55) k_ ∧ no_ (.slice Ao56 x572001_1.length co56) k_) ho1 (fun k_ hk_ => ⟨hk_.2, Or.elim hk_.1 (fun hs_ => Or.elim hs_ (fun hs_ => fun e_ => ((((Kd.R_apart' HO_572000.out (Kd.R_typed HO591.out) (by decide))).1 k_ e_.symm).1.1.2) hs_) (fun hs_ => Or.elim hs_ (fun hs_ => fun e_ => ((((Kd.R_apart' HO_572000.out (Kd.R_typed HO591.out) (by decide))).1 k_ e_.symm).1.2) hs_) (fun hs_ => fun e_ => ((((Kd.R_apart' HO_572000.out (Kd.R_typed HO591.out) (by decide))).1 k_ e_.symm).2) hs_))) (fun hn_ => (Kd.fresh' (rl_ HO_572000) k_ hn_)), Or.elim hk_.1 (fun hs_ => Or.elim hs_ (fun hs_ => fun e_ => ((((Kd.R_apart' HO_572001.out (Kd.R_typed HO591.out) (by decide))).1 k_ e_.symm).1.1.2) hs_) (fun hs_ => Or.elim hs_ (fun hs_ => fun e_ => ((((Kd.R_apart' HO_572001.out (Kd.R_typed HO591.out) (by decide))).1 k_ e_.symm).1.2) hs_) (fun hs_ => fun e_ => ((((Kd.R_apart' HO_572001.out (Kd.R_typed HO591.out) (by decide))).1 k_ e_.symm).2) hs_))) (fun hn_ => (Kd.fresh' (rl_ HO_572001) k_ hn_))⟩))
     have HO600 := Aside0.mk (Kd.R_mono (ok' := fun k_ => no_ (.slice Ao57 x572002_1.length co57) k_) ho2 (fun k_ hk_ => Or.elim hk_ (fun hs_ => Or.elim hs_ (fun hs_ => fun e_ => ((((Kd.R_apart' (Kd.R_apart' HO_572002.out (Kd.R_typed HO585.out) (by decide)) (Kd.R_typed HO588.out) (by decide))).1 k_ e_.symm).1.2) hs_) (fun hs_ => Or.elim hs_ (fun hs_ => fun e_ => ((((Kd.R_apart' (Kd.R_apart' HO_572002.out (Kd.R_typed HO585.out) (by decide)) (Kd.R_typed HO588.out) (by decide))).1 k_ e_.symm).2) hs_) (fun hs_ => fun e_ => ((((Kd.R_apart' (Kd.R_apart' HO_572002.out (Kd.R_typed HO585.out) (by decide)) (Kd.R_typed HO588.out) (by decide))).1 k_ e_.symm).1.1.2) hs_))) (fun hn_ => (Kd.fresh' (rl_ HO_572002) k_ hn_))))
     replace HO_7 := Aside0.mk (Kd.R_mono (ok' := fun k_ => True) (Kd.R_keptB ((Kd.R_apart' (Kd.R_apart' (Kd.R_apart' HO_7.out (Kd.R_typed HO585.out) (by decide)) (Kd.R_typed HO588.out) (by decide)) (Kd.R_typed HO591.out) (by decide))) hkp (fun k_ hk_ hs_ => Or.elim hs_ (fun e_ => (hk_.1.1.2) e_) (fun e_ => Or.elim e_ (fun e_ => (hk_.1.2) e_) (fun e_ => (hk_.2) e_)))) (fun k_ hk_ => trivial))
     replace HO_572000 := Aside0.mk (Kd.R_mono (ok' := fun k_ => no_ (.slice Ao56 x572001_1.length co56) k_ ∧ no_ v593 k_ ∧ no_ v596 k_) (Kd.R_keptB ((Kd.R_apart' HO_572000.out (Kd.R_typed HO591.out) (by decide))) hkp (fun k_ hk_ hs_ => Or.elim hs_ (fun e_ => (hk_.1.1.2) e_) (fun e_ => Or.elim e_ (fun e_ => (hk_.1.2) e_) (fun e_ => (hk_.2) e_)))) (fun k_ hk_ => ⟨hk_.1.1.1.1, fun e_ => Or.elim (ho0.1 k_ e_.symm).1 (fun hs_ => hk_.2.1 hs_) (fun hn_ => Nat.not_le.2 hk_.2.2 hn_), fun e_ => Or.elim (ho1.1 k_ e_.symm).1 (fun hs_ => hk_.2.1 hs_) (fun hn_ => Nat.not_le.2 hk_.2.2 hn_)⟩))
     replace HO_572001 := Aside0.mk (Kd.R_mono (ok' := fun k_ => no_ (.slice Ao55 x572000_1.length co55) k_ ∧ no_ v593 k_ ∧ no_ v596 k_) (Kd.R_keptB ((Kd.R_apart' HO_572001.out (Kd.R_typed HO591.out) (by decide))) hkp (fun k_ hk_ hs_ => Or.elim hs_ (fun e_ => (hk_.1.1.2) e_) (fun e_ => Or.elim e_ (fun e_ => (hk_.1.2) e_) (fun e_ => (hk_.2) e_)))) (fun k_ hk_ => ⟨hk_.1.1.1.1, fun e_ => Or.elim (ho0.1 k_ e_.symm).1 (fun hs_ => hk_.2.1 hs_) (fun hn_ => Nat.not_le.2 hk_.2.2 hn_), fun e_ => Or.elim (ho1.1 k_ e_.symm).1 (fun hs_ => hk_.2.1 hs_) (fun hn_ => Nat.not_le.2 hk_.2.2 hn_)⟩))
     replace HO_572002 := Aside0.mk (Kd.R_mono (ok' := fun k_ => no_ v599 k_) (Kd.R_keptB ((Kd.R_apart' (Kd.R_apart' HO_572002.out (Kd.R_typed HO585.out) (by decide)) (Kd.R_typed HO588.out) (by decide))) hkp (fun k_ hk_ hs_ => Or.elim hs_ (fun e_ => (hk_.1.2) e_) (fun e_ => Or.elim e_ (fun e_ => (hk_.2) e_) (fun e_ => (hk_.1.1.2) e_)))) (fun k_ hk_ => fun e_ => Or.elim (ho2.1 k_ e_.symm) (fun hs_ => hk_.2.1 hs_) (fun hn_ => Nat.not_le.2 hk_.2.2 hn_)))
     replace BK560 := Aside0.mk (blk_kept (ba BK560.out) hkp (fun hs_ => Or.elim hs_ (kne_ HO585 BK560) (fun e_ => Or.elim e_ (kne_ HO588 BK560) (kne_ HO591 BK560))))
     replace BK571 := Aside0.mk (blk_kept (ba BK571.out) hkp (fun hs_ => Or.elim hs_ (kne_ HO585 BK571) (fun e_ => Or.elim e_ (kne_ HO588 BK571) (kne_ HO591 BK571))))
     replace BK582 := Aside0.mk (blk_kept (ba BK582.out) hkp (fun hs_ => Or.elim hs_ (kne_ HO585 BK582) (fun e_ => Or.elim e_ (kne_ HO588 BK582) (kne_ HO591 BK582))))
     replace BK602 := Aside0.mk (blk_kept (ba BK602.out) hkp (fun hs_ => Or.elim hs_ (kne_ HO585 BK602) (fun e_ => Or.elim e_ (kne_ HO588 BK602) (kne_ HO591 BK602))))
     replace HB := Aside0.mk (hb)
     clear HO585 HO588 HO591
     clear hb ho0 ho1 ho2
     refine hK.out _ _ ⟨bc_ BK571 0, bc_ BK571 1, bc_ BK571 2, bc_ BK582 0, bc_ BK582 1⟩ (fun hHeld => ?_)
     clear hK K
     refine nm_ 30 ?_
     refine pu_ 4 26 (bs 10 159) HT_ ?_
     refine pu_ 5 31 (bs 10 191) HT_ ?_
     refine pu_ 6 32 (bs 10 255) HT_ ?_
     exact norm_ (by simp only [putAll, Act.put, List.setIfInBounds_toArray, List.set_cons_zero, List.set_cons_succ]) (hCont (.slice Ao62 t583.length co62, .slice Ao63 t586.length co63, .slice Ao64 t589.length co64, v593, v596, v599, gb602) _ ⟨hHeld, (ra HO594.out), (ra HO597.out), (ra HO600.out), (rm_ HO_572000 (fun _ hk => ⟨hk.2.1, ⟨hk.2.2, hk.1⟩⟩)).out, (rm_ HO_572001 (fun _ hk => ⟨hk.2.1, ⟨hk.2.2, hk.1⟩⟩)).out, (ra HO_572002.out), (ra HO_7.out), (ba BK560.out), (ba BK571.out), (ba BK582.out), (ba BK602.out), GW602.out, GE602.out, NB560_602.out, NB602_560.out, NB571_602.out, NB602_571.out, NB582_602.out, NB602_582.out, (hB HB)⟩)
    rintro ⟨v584, v587, v590, v593, v596, v599, gb602⟩ w66 ⟨hS_, h0_, h1_, h2_, h3_, h4_, h5_, h6_, h7_, h8_, h9_, h10_, h11_, h12_, h13_, h14_, h15_, h16_, h17_, h18_, h19_⟩
    try dsimp only at h0_ h1_ h2_ h3_ h4_ h5_ h6_ h7_ h8_ h9_ h10_ h11_ h12_ h13_ h14_ h15_ h16_ h17_ h18_ h19_
    have HO594 := Aside0.mk h0_
    have HO597 := Aside0.mk h1_
    have HO600 := Aside0.mk h2_
    have BK602 := Aside0.mk h10_
    have GW602 := Aside0.mk h11_
    have GE602 := Aside0.mk h12_
    have NB560_602 := Aside0.mk h13_
    have NB602_560 := Aside0.mk h14_
    have NB571_602 := Aside0.mk h15_
    have NB602_571 := Aside0.mk h16_
    have NB582_602 := Aside0.mk h17_
    have NB602_582 := Aside0.mk h18_
    replace HO_572000 := Aside0.mk h3_
    replace HO_572001 := Aside0.mk h4_
    replace HO_572002 := Aside0.mk h5_
    replace HO_7 := Aside0.mk h6_
    replace BK560 := Aside0.mk h7_
    replace BK571 := Aside0.mk h8_
    replace BK582 := Aside0.mk h9_
    replace HB := Aside0.mk h19_
    clear h0_ h1_ h2_ h3_ h4_ h5_ h6_ h7_ h8_ h9_ h10_ h11_ h12_ h13_ h14_ h15_ h16_ h17_ h18_ h19_
    have hHeld : w66.cell? ⟨gb571, 0, none⟩ = some (.slice Ao55 x572000_1.length co55) ∧ w66.cell? ⟨gb571, 1, none⟩ = some (.slice Ao56 x572001_1.length co56) ∧ w66.cell? ⟨gb571, 2, none⟩ = some (.slice Ao57 x572002_1.length co57) ∧ w66.cell? ⟨gb582, 0, none⟩ = some (.int .i64 ((rd_T37 l0 x22_1).f0)) ∧ w66.cell? ⟨gb582, 1, none⟩ = some (.int .i64 ((rd_T37 l0 x22_1).f1)) := hS_
    obtain ⟨Ao67, co67, eo67⟩ := Kd.R_slice HO594.out
    (first | subst eo67 | (injection eo67 with f1_ f2_ f3_; have f4_ := f1_.symm; have f5_ := f3_.symm; clear f1_ f2_ f3_; subst f4_; subst f5_))
    obtain ⟨Ao69, co69, eo69⟩ := Kd.R_slice HO597.out
    (first | subst eo69 | (injection eo69 with f1_ f2_ f3_; have f4_ := f1_.symm; have f5_ := f3_.symm; clear f1_ f2_ f3_; subst f4_; subst f5_))
    obtain ⟨Ao71, co71, eo71⟩ := Kd.R_slice HO600.out
    (first | subst eo71 | (injection eo71 with f1_ f2_ f3_; have f4_ := f1_.symm; have f5_ := f3_.symm; clear f1_ f2_ f3_; subst f4_; subst f5_))
    refine norm_ (a' := ?_) ?_ ?_
    rotate_left
    ·simp only [putAll, Act.put, List.setIfInBounds_toArray, List.set_cons_zero, List.set_cons_succ]
     rfl
    refine one_ (i := 8) (N := none) (bs 10 511) rfl rfl (one_of HT_.out (by kernel_rfl)) (by decide) (fun K hK => ?_)
    have hs68 : w66.cell? ⟨gb602, 0, none⟩ = some (.slice none 0 0) := bc_ BK602 0
    have hfs68 := blk_frozen BK602.out 0
    have hns68_0 := NB560_602.out
    have hns68_1 := NB571_602.out
    have hns68_2 := NB582_602.out
    have hms68_0 := NB602_560.out
    have hms68_1 := NB602_571.out
    have hms68_2 := NB602_582.out
    have hs70 : w66.cell? ⟨gb602, 1, none⟩ = some (.slice none 0 0) := bc_ BK602 1
    have hfs70 := blk_frozen BK602.out 1
    have hns70_0 := NB560_602.out
    have hns70_1 := NB571_602.out
    have hns70_2 := NB582_602.out
    have hms70_0 := NB602_560.out
    have hms70_1 := NB602_571.out
    have hms70_2 := NB602_582.out
    have hs72 : w66.cell? ⟨gb602, 2, none⟩ = some (.slice none 0 0) := bc_ BK602 2
    have hfs72 := blk_frozen BK602.out 2
    have hns72_0 := NB560_602.out
    have hns72_1 := NB571_602.out
    have hns72_2 := NB582_602.out
    have hms72_0 := NB602_560.out
    have hms72_1 := NB602_571.out
    have hms72_2 := NB602_582.out
    refine skip_ (w1 := ?_) (by rfl) rfl ?_ ?_
    rotate_left
    ·go_simp
     rfl
    refine hK.out _ _ ⟨((cell_far (p := ⟨gb602, _, none⟩) NB571_602.out _).trans (((cell_far (p := ⟨gb602, _, none⟩) NB571_602.out _).trans (((cell_far (p := ⟨gb602, _, none⟩) NB571_602.out _).trans (hHeld.1)))))), ((cell_far (p := ⟨gb602, _, none⟩) NB571_602.out _).trans (((cell_far (p := ⟨gb602, _, none⟩) NB571_602.out _).trans (((cell_far (p := ⟨gb602, _, none⟩) NB571_602.out _).trans (hHeld.2.1)))))), ((cell_far (p := ⟨gb602, _, none⟩) NB571_602.out _).trans (((cell_far (p := ⟨gb602, _, none⟩) NB571_602.out _).trans (((cell_far (p := ⟨gb602, _, none⟩) NB571_602.out _).trans (hHeld.2.2.1)))))), ((cell_far (p := ⟨gb602, _, none⟩) NB582_602.out _).trans (((cell_far (p := ⟨gb602, _, none⟩) NB582_602.out _).trans (((cell_far (p := ⟨gb602, _, none⟩) NB582_602.out _).trans (hHeld.2.2.2.1)))))), ((cell_far (p := ⟨gb602, _, none⟩) NB582_602.out _).trans (((cell_far (p := ⟨gb602, _, none⟩) NB582_602.out _).trans (((cell_far (p := ⟨gb602, _, none⟩) NB582_602.out _).trans (hHeld.2.2.2.2))))))⟩ (fun hHeld => ?_)
    clear hK K
    refine pu_ 9 11 (bs 10 1023) HT_ ?_
    refine done_ (done_of HT_.out (by kernel_rfl)) ?_
    try go_wp2_with (first | ((with_reducible refine gate_builtin (b := .append) (xs := #[.tmp 35, .tmp 37]) rfl ?_); at_builtin; refine Kd.R_append Kd.bool (w0 := w) w.heap.size rfl (.tmp 35) (.tmp 37) 55 4 (.bool false) 1 rfl Try.underlying55 info4 rfl (by decide) (by omega) u7 x7_1 false [.bool false] (fun _ => True) (fun _ => False) rfl (by first | (go_simp; done) | (go_simp; rfl)) ?aP (fun _ hk => hk.elim) ?aF ?aO ?aB ?aS ?aL ?_; (case aP => exact rfl); (case aB => exact (hB HB)); (case aF => exact (fun _ _ => trivial)); (case aO => exact (ra (Kd.R_mono (fs3_ HO_7.out BK602.out) (fun _ hk => trivial)))); (case aS => exact (below_size (hB HB))); (case aL => have := LMc50.out; omega); intro v607 w73 ho hb hg hat; rw [← Ny606.out] at ho; have HO608 := Aside0.mk (ho); replace HO_572000 := Aside0.mk (Kd.R_over' (ra (fm3_ HO_572000 BK602)) (Kd.R_typed (ra (fm3_ HO_7 BK602))) (by decide) hg); replace HO_572001 := Aside0.mk (Kd.R_over' (ra (fm3_ HO_572001 BK602)) (Kd.R_typed (ra (fm3_ HO_7 BK602))) (by decide) hg); replace HO_572002 := Aside0.mk (Kd.R_over' (ra (fm3_ HO_572002 BK602)) (Kd.R_typed (ra (fm3_ HO_7 BK602))) (by decide) hg); replace BK560 := Aside0.mk (blk_grown (g := gb560) (o := .cells #[.slice none 0 0, .slice none 0 0, .slice none 0 0] 35 (0, 0)) (bx BK560) hg (Kd.R_ne HO_7.out BK560.out (by decide))); replace BK571 := Aside0.mk (blk_grown (g := gb571) (o := .cells #[.slice Ao55 x572000_1.length co55, .slice Ao56 x572001_1.length co56, .slice Ao57 x572002_1.length co57] 35 (0, 0)) (bx BK571) hg (Kd.R_ne HO_7.out BK571.out (by decide))); replace BK582 := Aside0.mk (blk_grown (g := gb582) (o := .cells #[.int .i64 ((rd_T37 l0 x22_1).f0), .int .i64 ((rd_T37 l0 x22_1).f1)] 37 (0, 0)) (bx BK582) hg (Kd.R_ne HO_7.out BK582.out (by decide))); replace HO594 := Aside0.mk (Kd.R_over' (ra (fm3_ HO594 BK602)) (Kd.R_typed (ra (fm3_ HO_7 BK602))) (by decide) hg); replace HO597 := Aside0.mk (Kd.R_over' (ra (fm3_ HO597 BK602)) (Kd.R_typed (ra (fm3_ HO_7 BK602))) (by decide) hg); replace HO600 := Aside0.mk (Kd.R_over' (ra (fm3_ HO600 BK602)) (Kd.R_typed (ra (fm3_ HO_7 BK602))) (by decide) hg); replace BK602 := Aside0.mk (blk_grown (g := gb602) (o := .cells #[.slice Ao67 t592.length co67, .slice Ao69 t595.length co69, .slice Ao71 t598.length co71] 35 (0, 0)) (by (with_reducible repeat (first | refine blk_drewN ?_ _ | refine blk_drew ?_ | refine blk_alloc ?_ _)); refine blk_put (cs := #[.slice Ao67 t592.length co67, .slice Ao69 t595.length co69, .slice none 0 0]) ?_ 2 _ rfl; (with_reducible repeat (first | refine blk_drewN ?_ _ | refine blk_drew ?_ | refine blk_alloc ?_ _)); refine blk_put (cs := #[.slice Ao67 t592.length co67, .slice none 0 0, .slice none 0 0]) ?_ 1 _ rfl; (with_reducible repeat (first | refine blk_drewN ?_ _ | refine blk_drew ?_ | refine blk_alloc ?_ _)); refine blk_put (cs := #[.slice none 0 0, .slice none 0 0, .slice none 0 0]) ?_ 0 _ rfl; (with_reducible repeat (first | refine blk_drewN ?_ _ | refine blk_drew ?_ | refine blk_alloc ?_ _)); exact BK602.out) hg (Kd.R_ne HO_7.out BK602.out (by decide))); replace HB := Aside0.mk (hb); clear HO_7; clear ho hb hg hat))
    go_roundg k1
    case measure => have := HK1.out; omega
    case rel => exact ⟨(y606), (wrap64 (x22_1 + 1)), (x572000_1), (x572001_1), (x572002_1), (.slice Ao55 x572000_1.length co55), (.slice Ao56 x572001_1.length co56), (.slice Ao57 x572002_1.length co57), (by first | rfl | (simp; done) | (simp [*]; done)), H', ⟨by have := HK1.out; omega⟩, ⟨ra HO608.out⟩, rm_ HO_572000 (fun _ hk => hk.2.2), rm_ HO_572001 (fun _ hk => hk.2.2), rm_ HO_572002 (fun _ hk => trivial), ⟨by (with_reducible repeat (first | refine blk_drewN ?_ _ | refine blk_drew ?_ | refine blk_alloc ?_ _)); exact BK560.out⟩, ⟨by (with_reducible repeat (first | refine blk_drewN ?_ _ | refine blk_drew ?_ | refine blk_alloc ?_ _)); exact BK571.out⟩, ⟨hB HB⟩⟩
   subst c19
   rw [if_pos rfl] at H
   by_cases c20 : x7_1.length < 140737488355328
   rotate_left
   ·rw [if_neg c20] at H
    exact absurd H (by simp)
   rw [if_pos c20] at H
   have LMc20 := Aside0.mk c20
   clear c20
   obtain ⟨y603, hy603⟩ : ∃ y_ : List Bool, y_ = (x7_1 ++ [true]) := ⟨_, rfl⟩
   replace H : (spec_PlayPair.l0 k1 y603 l0 (l0.length : Int) (wrap64 (x22_1 + 1)) t592 t595 t598) = some (r1, r2, r3, r4, r5) := by first | (rw [hy603]; with_reducible exact H) | (have H2_ := (Option.bind_some _ _).symm.trans H; rw [hy603]; with_reducible exact H2_) | (have H2_ := (Option.bind_some _ _).symm.trans H; with_reducible exact H2_) | with_reducible exact H | (rw [hy603]; exact H) | exact H
   have Ny603 := Aside0.mk hy603
   clear hy603
   have H' := Aside0.mk H
   clear H
   have p581 : 0 ≤ (x22_1 : Int) := of_decide_eq_true (by first | (with_reducible assumption) | assumption)
   have q581 : x22_1 < (l0.length : Int) := of_decide_eq_true (by first | (with_reducible assumption) | assumption)
   obtain ⟨ad581, e581, hx581_0, hx581_1⟩ := at_T37 HR0.out x22_1 p581 q581
   cases e581
   replace hx581_0 := (HB.out.cell (World.block_lt_of_cell? w _ hx581_0)).trans hx581_0
   replace hx581_1 := (HB.out.cell (World.block_lt_of_cell? w _ hx581_1)).trans hx581_1
   replace p581 := eq_true p581
   replace q581 := eq_true q581
   try go_wp2_with (first | ((with_reducible refine gate_dst (N := 9) rfl ?_); refine box_event ?hg (N := 9) ?hd (cs := #[.int .i64 0, .int .i64 0]) (t := 37) ?hr ?_; (case hd => rfl); (case hg => rfl); (case hr => first | (go_simp; done) | (go_simp; rfl)); intro gb582 hg w21 hbox hb; have BK582 := Aside0.mk (hbox); have GW582 := gw_ hg HB; have GE582 := gw_ hg HB; have NB560_582 := nl_ hg BK560; have NB582_560 := ng_ hg BK560; have NB571_582 := nl_ hg BK571; have NB582_571 := ng_ hg BK571; replace HO_7 := rb_ HO_7 hb; replace HO_572000 := rb_ HO_572000 hb; replace HO_572001 := rb_ HO_572001 hb; replace HO_572002 := rb_ HO_572002 hb; replace BK560 := bb_ BK560 hb; replace BK571 := bb_ BK571 hb; replace HB := bst_ HB hb; clear hb hbox hg; have hnb22 := NB582_560.out; have hnc22 := NB560_582.out; have hnb23 := NB582_571.out; have hnc23 := NB571_582.out; have hcz24_0 : w21.cell? ⟨gb582, 0, none⟩ = some (.int .i64 0) := bc_ BK582 0; have hcz24_1 : w21.cell? ⟨gb582, 1, none⟩ = some (.int .i64 0) := bc_ BK582 1; have hfz24_0 := blk_frozen BK582.out 0; have hfz24_1 := blk_frozen BK582.out 1; obtain ⟨Ao25, co25, eo25⟩ := Kd.R_slice HO_572000.out; subst eo25; obtain ⟨Ao26, co26, eo26⟩ := Kd.R_slice HO_572001.out; subst eo26; obtain ⟨Ao27, co27, eo27⟩ := Kd.R_slice HO_572002.out; subst eo27))
   have n0_ : Aside0 (Kd.R Kd.bool 4 ((w21.setCell ⟨gb582, 0, none⟩ (.int .i64 ((rd_T37 l0 x22_1).f0))).setCell ⟨gb582, 1, none⟩ (.int .i64 ((rd_T37 l0 x22_1).f1))) w.heap.size (fun _ => True) u7 x7_1) := ⟨by (with_reducible repeat (first | apply Kd.R_alloc | apply Kd.R_drewN | apply Kd.R_drew)); exact Kd.R_mono (Kd.R_far (p := ⟨gb582, 1, none⟩) (Kd.R_far (p := ⟨gb582, 0, none⟩) (Kd.R_types HO_7.out BK582.out (by decide)) (fun _ hk => hk.2) (.int .i64 ((rd_T37 l0 x22_1).f0))) (fun _ hk => hk.2) (.int .i64 ((rd_T37 l0 x22_1).f1))) (fun _ hk => trivial)⟩
   have n1_ : Aside0 (Kd.R (Kd.int .i64) 3 ((w21.setCell ⟨gb582, 0, none⟩ (.int .i64 ((rd_T37 l0 x22_1).f0))).setCell ⟨gb582, 1, none⟩ (.int .i64 ((rd_T37 l0 x22_1).f1))) w.heap.size (fun k_ => no_ (.slice Ao26 x572001_1.length co26) k_) (.slice Ao25 x572000_1.length co25) x572000_1) := ⟨by (with_reducible repeat (first | apply Kd.R_alloc | apply Kd.R_drewN | apply Kd.R_drew)); exact Kd.R_mono (Kd.R_far (p := ⟨gb582, 1, none⟩) (Kd.R_far (p := ⟨gb582, 0, none⟩) (Kd.R_types HO_572000.out BK582.out (by decide)) (fun _ hk => hk.2) (.int .i64 ((rd_T37 l0 x22_1).f0))) (fun _ hk => hk.2) (.int .i64 ((rd_T37 l0 x22_1).f1))) (fun _ hk => hk.1)⟩
   have n2_ : Aside0 (Kd.R (Kd.int .i64) 3 ((w21.setCell ⟨gb582, 0, none⟩ (.int .i64 ((rd_T37 l0 x22_1).f0))).setCell ⟨gb582, 1, none⟩ (.int .i64 ((rd_T37 l0 x22_1).f1))) w.heap.size (fun k_ => no_ (.slice Ao25 x572000_1.length co25) k_) (.slice Ao26 x572001_1.length co26) x572001_1) := ⟨by (with_reducible repeat (first | apply Kd.R_alloc | apply Kd.R_drewN | apply Kd.R_drew)); exact Kd.R_mono (Kd.R_far (p := ⟨gb582, 1, none⟩) (Kd.R_far (p := ⟨gb582, 0, none⟩) (Kd.R_types HO_572001.out BK582.out (by decide)) (fun _ hk => hk.2) (.int .i64 ((rd_T37 l0 x22_1).f0))) (fun _ hk => hk.2) (.int .i64 ((rd_T37 l0 x22_1).f1))) (fun _ hk => hk.1)⟩
   have n3_ : Aside0 (Kd.R k45 45 ((w21.setCell ⟨gb582, 0, none⟩ (.int .i64 ((rd_T37 l0 x22_1).f0))).setCell ⟨gb582, 1, none⟩ (.int .i64 ((rd_T37 l0 x22_1).f1))) w.heap.size (fun _ => True) (.slice Ao27 x572002_1.length co27) x572002_1) := ⟨by (with_reducible repeat (first | apply Kd.R_alloc | apply Kd.R_drewN | apply Kd.R_drew)); exact Kd.R_mono (Kd.R_far (p := ⟨gb582, 1, none⟩) (Kd.R_far (p := ⟨gb582, 0, none⟩) (Kd.R_types HO_572002.out BK582.out (by decide)) (fun _ hk => hk.2) (.int .i64 ((rd_T37 l0 x22_1).f0))) (fun _ hk => hk.2) (.int .i64 ((rd_T37 l0 x22_1).f1))) (fun _ hk => trivial)⟩
   have n4_ : Aside0 (((w21.setCell ⟨gb582, 0, none⟩ (.int .i64 ((rd_T37 l0 x22_1).f0))).setCell ⟨gb582, 1, none⟩ (.int .i64 ((rd_T37 l0 x22_1).f1))).heap[gb560]? = some (.cells #[.slice none 0 0, .slice none 0 0, .slice none 0 0] 35 (0, 0))) := ⟨by (with_reducible repeat (first | refine blk_drewN ?_ _ | refine blk_drew ?_ | refine blk_alloc ?_ _)); refine blk_far ?_ NB560_582.out _; (with_reducible repeat (first | refine blk_drewN ?_ _ | refine blk_drew ?_ | refine blk_alloc ?_ _)); refine blk_far ?_ NB560_582.out _; (with_reducible repeat (first | refine blk_drewN ?_ _ | refine blk_drew ?_ | refine blk_alloc ?_ _)); exact BK560.out⟩
   have n5_ : Aside0 (((w21.setCell ⟨gb582, 0, none⟩ (.int .i64 ((rd_T37 l0 x22_1).f0))).setCell ⟨gb582, 1, none⟩ (.int .i64 ((rd_T37 l0 x22_1).f1))).heap[gb571]? = some (.cells #[.slice Ao25 x572000_1.length co25, .slice Ao26 x572001_1.length co26, .slice Ao27 x572002_1.length co27] 35 (0, 0))) := ⟨by (with_reducible repeat (first | refine blk_drewN ?_ _ | refine blk_drew ?_ | refine blk_alloc ?_ _)); refine blk_far ?_ NB571_582.out _; (with_reducible repeat (first | refine blk_drewN ?_ _ | refine blk_drew ?_ | refine blk_alloc ?_ _)); refine blk_far ?_ NB571_582.out _; (with_reducible repeat (first | refine blk_drewN ?_ _ | refine blk_drew ?_ | refine blk_alloc ?_ _)); exact BK571.out⟩
   have n6_ : Aside0 (((w21.setCell ⟨gb582, 0, none⟩ (.int .i64 ((rd_T37 l0 x22_1).f0))).setCell ⟨gb582, 1, none⟩ (.int .i64 ((rd_T37 l0 x22_1).f1))).heap[gb582]? = some (.cells #[.int .i64 ((rd_T37 l0 x22_1).f0), .int .i64 ((rd_T37 l0 x22_1).f1)] 37 (0, 0))) := ⟨by (with_reducible repeat (first | refine blk_drewN ?_ _ | refine blk_drew ?_ | refine blk_alloc ?_ _)); refine blk_put (cs := #[.int .i64 ((rd_T37 l0 x22_1).f0), .int .i64 0]) ?_ 1 _ rfl; (with_reducible repeat (first | refine blk_drewN ?_ _ | refine blk_drew ?_ | refine blk_alloc ?_ _)); refine blk_put (cs := #[.int .i64 0, .int .i64 0]) ?_ 0 _ rfl; (with_reducible repeat (first | refine blk_drewN ?_ _ | refine blk_drew ?_ | refine blk_alloc ?_ _)); exact BK582.out⟩
   have n7_ : Aside0 (Below w.heap.size w ((w21.setCell ⟨gb582, 0, none⟩ (.int .i64 ((rd_T37 l0 x22_1).f0))).setCell ⟨gb582, 1, none⟩ (.int .i64 ((rd_T37 l0 x22_1).f1)))) := ⟨hB HB⟩
   (try clear HO_7)
   (try clear HO_572000)
   (try clear HO_572001)
   (try clear HO_572002)
   (try clear BK560)
   (try clear BK571)
   (try clear BK582)
   (try clear HB)
   generalize ((w21.setCell ⟨gb582, 0, none⟩ (.int .i64 ((rd_T37 l0 x22_1).f0))).setCell ⟨gb582, 1, none⟩ (.int .i64 ((rd_T37 l0 x22_1).f1))) = w28 at n0_ n1_ n2_ n3_ n4_ n5_ n6_ n7_ ⊢
   have HO_7 := n0_
   have HO_572000 := n1_
   have HO_572001 := n2_
   have HO_572002 := n3_
   have BK560 := n4_
   have BK571 := n5_
   have BK582 := n6_
   have HB := n7_
   clear n0_ n1_ n2_ n3_ n4_ n5_ n6_ n7_
   replace HO_7 := rd_ HO_7
   replace HO_572000 := rd_ HO_572000
   replace HO_572001 := rd_ HO_572001
   replace HO_572002 := rd_ HO_572002
   replace BK560 := bd_ BK560
   replace BK571 := bd_ BK571
   replace BK582 := bd_ BK582
   replace HB := Aside0.mk (below_drew1 HB.out)
   refine start_ (n := 10) (S := fun w' => w'.cell? ⟨gb571, 0, none⟩ = some (.slice Ao25 x572000_1.length co25) ∧ w'.cell? ⟨gb571, 1, none⟩ = some (.slice Ao26 x572001_1.length co26) ∧ w'.cell? ⟨gb571, 2, none⟩ = some (.slice Ao27 x572002_1.length co27) ∧ w'.cell? ⟨gb582, 0, none⟩ = some (.int .i64 ((rd_T37 l0 x22_1).f0)) ∧ w'.cell? ⟨gb582, 1, none⟩ = some (.int .i64 ((rd_T37 l0 x22_1).f1))) (ds := []) (bs 10 0) (by kernel_rfl) rfl rfl ⟨bc_ BK571 0, bc_ BK571 1, bc_ BK571 2, bc_ BK582 0, bc_ BK582 1⟩ (fun hHeld => ?_); refine with_tabW spec_PlayPair.tab8 spec_PlayPair.bits8 (fun HT_ HW_ => ?_)
   generalize w28.drew = w29 at HO_7 HO_572000 HO_572001 HO_572002 BK560 BK571 BK582 HB hHeld ⊢
   refine tk_ 0 27 (bs 10 1) HT_ HW_ hHeld ?_
   refine tk_ 2 29 (bs 10 5) HT_ HW_ hHeld ?_
   refine join_ (σ := Value × Value × Value × Value × Value × Value × Nat) 2 (bs 10 255) (fun s_ => [(28, .agg #[s_.1, s_.2.1, s_.2.2.1]), (30, .tuple #[.agg #[s_.2.2.2.1, s_.2.2.2.2.1, s_.2.2.2.2.2.1], .bool true]), (10, .pointer (some ⟨s_.2.2.2.2.2.2, 0, none⟩)), (26, .tuple #[.agg #[s_.2.2.2.1, s_.2.2.2.2.1, s_.2.2.2.2.2.1], .bool true]), (31, .agg #[s_.2.2.2.1, s_.2.2.2.2.1, s_.2.2.2.2.2.1]), (32, .bool true)]) (fun s_ w' => (w'.cell? ⟨gb571, 0, none⟩ = some (.slice Ao25 x572000_1.length co25) ∧ w'.cell? ⟨gb571, 1, none⟩ = some (.slice Ao26 x572001_1.length co26) ∧ w'.cell? ⟨gb571, 2, none⟩ = some (.slice Ao27 x572002_1.length co27) ∧ w'.cell? ⟨gb582, 0, none⟩ = some (.int .i64 ((rd_T37 l0 x22_1).f0)) ∧ w'.cell? ⟨gb582, 1, none⟩ = some (.int .i64 ((rd_T37 l0 x22_1).f1))) ∧ (Kd.R (Kd.int .i64) 3 w' w.heap.size (fun k_ => no_ s_.2.2.2.2.1 k_ ∧ no_ (.slice Ao25 x572000_1.length co25) k_ ∧ no_ (.slice Ao26 x572001_1.length co26) k_) s_.2.2.2.1 t592) ∧ (Kd.R (Kd.int .i64) 3 w' w.heap.size (fun k_ => no_ s_.2.2.2.1 k_ ∧ no_ (.slice Ao25 x572000_1.length co25) k_ ∧ no_ (.slice Ao26 x572001_1.length co26) k_) s_.2.2.2.2.1 t595) ∧ (Kd.R k45 45 w' w.heap.size (fun k_ => no_ (.slice Ao27 x572002_1.length co27) k_) s_.2.2.2.2.2.1 t598) ∧ (Kd.R (Kd.int .i64) 3 w' w.heap.size (fun k_ => no_ s_.2.2.2.1 k_ ∧ no_ s_.2.2.2.2.1 k_ ∧ no_ (.slice Ao26 x572001_1.length co26) k_) (.slice Ao25 x572000_1.length co25) x572000_1) ∧ (Kd.R (Kd.int .i64) 3 w' w.heap.size (fun k_ => no_ s_.2.2.2.1 k_ ∧ no_ s_.2.2.2.2.1 k_ ∧ no_ (.slice Ao25 x572000_1.length co25) k_) (.slice Ao26 x572001_1.length co26) x572001_1) ∧ (Kd.R k45 45 w' w.heap.size (fun k_ => no_ s_.2.2.2.2.2.1 k_) (.slice Ao27 x572002_1.length co27) x572002_1) ∧ (Kd.R Kd.bool 4 w' w.heap.size (fun _ => True) u7 x7_1) ∧ (w'.heap[gb560]? = some (.cells #[.slice none 0 0, .slice none 0 0, .slice none 0 0] 35 (0, 0))) ∧ (w'.heap[gb571]? = some (.cells #[.slice Ao25 x572000_1.length co25, .slice Ao26 x572001_1.length co26, .slice Ao27 x572002_1.length co27] 35 (0, 0))) ∧ (w'.heap[gb582]? = some (.cells #[.int .i64 ((rd_T37 l0 x22_1).f0), .int .i64 ((rd_T37 l0 x22_1).f1)] 37 (0, 0))) ∧ (w'.heap[s_.2.2.2.2.2.2]? = some (.cells #[.slice none 0 0, .slice none 0 0, .slice none 0 0] 35 (0, 0))) ∧ (w.heap.size ≤ s_.2.2.2.2.2.2) ∧ (w.heap.size ≤ s_.2.2.2.2.2.2) ∧ (gb560 ≠ s_.2.2.2.2.2.2) ∧ (s_.2.2.2.2.2.2 ≠ gb560) ∧ (gb571 ≠ s_.2.2.2.2.2.2) ∧ (s_.2.2.2.2.2.2 ≠ gb571) ∧ (gb582 ≠ s_.2.2.2.2.2.2) ∧ (s_.2.2.2.2.2.2 ≠ gb582) ∧ (Below w.heap.size w w')) ?_ ?_
   rotate_left
   ·intro hCont
    refine two_ (i := 1) (j := 7) (Ni := some 28) (Nj := some 10) (bs 10 7) (bs 10 133) rfl rfl rfl rfl (two_of HT_.out (by kernel_rfl)) (by decide) (by decide) (fun K hK => ?_) (fun K hK => ?_)
    rotate_left
    ·skip
     refine box_step ?hg (N := 10) ?hd (cs := #[.slice none 0 0, .slice none 0 0, .slice none 0 0]) (t := 35) ?hr ?_; (case hd => rfl); (case hg => rfl); (case hr => first | (go_simp; done) | (go_simp; rfl))
     intro gb602 hg w30 hbox hb
     have BK602 := Aside0.mk (hbox)
     have GW602 := gw_ hg HB
     have GE602 := gw_ hg HB
     have NB560_602 := nl_ hg BK560
     have NB602_560 := ng_ hg BK560
     have NB571_602 := nl_ hg BK571
     have NB602_571 := ng_ hg BK571
     have NB582_602 := nl_ hg BK582
     have NB602_582 := ng_ hg BK582
     replace HO_7 := rb_ HO_7 hb
     replace HO_572000 := rb_ HO_572000 hb
     replace HO_572001 := rb_ HO_572001 hb
     replace HO_572002 := rb_ HO_572002 hb
     replace BK560 := bb_ BK560 hb
     replace BK571 := bb_ BK571 hb
     replace BK582 := bb_ BK582 hb
     replace HB := bst_ HB hb
     clear hb hbox hg
     refine hK.out _ _ ⟨bc_ BK571 0, bc_ BK571 1, bc_ BK571 2, bc_ BK582 0, bc_ BK582 1⟩ (fun hHeld => ?_)
     clear hK K
     refine nm_ 10 ?_
     refine one_ (i := 1) (N := some 28) (bs 10 135) rfl rfl (one_of HT_.out (by kernel_rfl)) (by decide) (fun K hK => ?_)
     refine goes_ Try.func88 (by kernel_rfl) rfl #[.agg #[.slice Ao25 x572000_1.length co25, .slice Ao26 x572001_1.length co26, .slice Ao27 x572002_1.length co27]] (by rfl) rfl rfl tm_ ?_
     with_reducible refine (spec_l3Own.calls _ _ x572000_1 _ _ x572001_1 _ _ x572002_1 t583 t586 t589 _ ?side1 ?side2 ?side3 ?side4 ?side5 ?side6 A17.out).mono ?_
     (case side1 => exact ca (Kd.R_reads' HO_572000.out).2.2)
     (case side2 => exact (Kd.R_reads' HO_572000.out).2.1)
     (case side3 => exact ca (Kd.R_reads' HO_572001.out).2.2)
     (case side4 => exact (Kd.R_reads' HO_572001.out).2.1)
     (case side5 => exact ca (Kd.R_reads' HO_572002.out).2.2)
     (case side6 => exact (Kd.R_reads' HO_572002.out).2.1)
     rintro e w31 ⟨v584, v587, v590, rfl, ho0, ho1, ho2, hb⟩
     refine ⟨_, rfl, ?_⟩
     have HO585 := Aside0.mk (Kd.R_lower (Kd.R_new' (Kd.R_new' ho0 (rl_ HO_572000)) (rl_ HO_572001)) (below_size (hB HB)))
     have HO588 := Aside0.mk (Kd.R_lower (Kd.R_new' (Kd.R_new' ho1 (rl_ HO_572000)) (rl_ HO_572001)) (below_size (hB HB)))
     have HO591 := Aside0.mk (Kd.R_lower (Kd.R_new' ho2 (rl_ HO_572002)) (below_size (hB HB)))
     replace HO_7 := rb_ HO_7 hb
     replace HO_572000 := rt2_ HO_572000 hb ho0 ho1
     replace HO_572001 := rt2_ HO_572001 hb ho0 ho1
     replace HO_572002 := re_ HO_572002 ho2 hb
     replace BK560 := bb_ BK560 hb
     replace BK571 := bb_ BK571 hb
     replace BK582 := bb_ BK582 hb
     replace BK602 := bb_ BK602 hb
     replace HB := bst_ HB hb
     clear hb ho0 ho1 ho2
     obtain ⟨Ao32, co32, eo32⟩ := Kd.R_slice HO585.out
     (first | subst eo32 | (injection eo32 with f1_ f2_ f3_; have f4_ := f1_.symm; have f5_ := f3_.symm; clear f1_ f2_ f3_; subst f4_; subst f5_))
     obtain ⟨Ao33, co33, eo33⟩ := Kd.R_slice HO588.out
     (first | subst eo33 | (injection eo33 with f1_ f2_ f3_; have f4_ := f1_.symm; have f5_ := f3_.symm; clear f1_ f2_ f3_; subst f4_; subst f5_))
     obtain ⟨Ao34, co34, eo34⟩ := Kd.R_slice HO591.out
     (first | subst eo34 | (injection eo34 with f1_ f2_ f3_; have f4_ := f1_.symm; have f5_ := f3_.symm; clear f1_ f2_ f3_; subst f4_; subst f5_))
     refine hK.out _ _ ⟨bc_ BK571 0, bc_ BK571 1, bc_ BK571 2, bc_ BK582 0, bc_ BK582 1⟩ (fun hHeld => ?_)
     clear hK K
     refine nm_ 28 ?_
     refine one_ (i := 3) (N := some 30) (bs 10 143) rfl rfl (one_of HT_.out (by kernel_rfl)) (by decide) (fun K hK => ?_)
     refine goes_ Try.func87 (by kernel_rfl) rfl #[.agg #[.slice Ao32 t583.length co32, .slice Ao33 t586.length co33, .slice Ao34 t589.length co34], .agg #[.int .i64 ((rd_T37 l0 x22_1).f0), .int .i64 ((rd_T37 l0 x22_1).f1)]] (by rfl) rfl rfl tm_ ?_
     with_reducible refine (spec_l3Step.calls k1 (fun k_ => some k_ = (.slice Ao32 t583.length co32 : Value).ownBlock) (.slice Ao32 t583.length co32) t583 (fun k_ => some k_ = (.slice Ao33 t586.length co33 : Value).ownBlock) (.slice Ao33 t586.length co33) t586 (fun k_ => some k_ = (.slice Ao34 t589.length co34 : Value).ownBlock) (.slice Ao34 t589.length co34) t589 ((rd_T37 l0 x22_1).f0) ((rd_T37 l0 x22_1).f1) t592 t595 t598 true w _ ?side1 ?side2 ?side3 ?side4 ?side5 ?side6 A18.out).mono ?_
     (case side1 => repeat (first | (with_reducible first | exact HB.out | apply below_alloc | apply pw_below_drewN | apply below_drew1 | refine below_set ?_ GE560.out | refine below_set ?_ GE571.out | refine below_set ?_ GE582.out | refine below_set ?_ GE602.out) | exact HB.out))
     (case side2 => exact Kd.R_tight rfl HO585.out)
     (case side3 => exact fun k_ e_ => (HO585.out.1 k_ e_.symm).1.1)
     (case side4 => exact Kd.R_tight rfl HO588.out)
     (case side5 => exact fun k_ e_ => (HO588.out.1 k_ e_.symm).1.1)
     (case side6 => exact Kd.R_tight rfl HO591.out)
     rintro e w35 ⟨v593, v596, v599, rfl, ho0, ho1, ho2, hb, hkp⟩
     refine ⟨_, rfl, ?_⟩
     have HO594 := Aside0.mk (Kd.R_mono (ok' := fun k_ => no_ v596 k_ ∧ no_ (.slice Ao25 x572000_1.length co25) k_ ∧ no_ (.slice Ao26 x572001_1.length co26) k_) ho0 (fun k_ hk_ => ⟨hk_.2, Or.elim hk_.1 (fun hs_ => Or.elim hs_ (fun hs_ => fun e_ => ((((Kd.R_apart' HO_572000.out (Kd.R_typed HO591.out) (by decide))).1 k_ e_.symm).1.1.2) hs_) (fun hs_ => Or.elim hs_ (fun hs_ => fun e_ => ((((Kd.R_apart' HO_572000.out (Kd.R_typed HO591.out) (by decide))).1 k_ e_.symm).1.2) hs_) (fun hs_ => fun e_ => ((((Kd.R_apart' HO_572000.out (Kd.R_typed HO591.out) (by decide))).1 k_ e_.symm).2) hs_))) (fun hn_ => (Kd.fresh' (rl_ HO_572000) k_ hn_)), Or.elim hk_.1 (fun hs_ => Or.elim hs_ (fun hs_ => fun e_ => ((((Kd.R_apart' HO_572001.out (Kd.R_typed HO591.out) (by decide))).1 k_ e_.symm).1.1.2) hs_) (fun hs_ => Or.elim hs_ (fun hs_ => fun e_ => ((((Kd.R_apart' HO_572001.out (Kd.R_typed HO591.out) (by decide))).1 k_ e_.symm).1.2) hs_) (fun hs_ => fun e_ => ((((Kd.R_apart' HO_572001.out (Kd.R_typed HO591.out) (by decide))).1 k_ e_.symm).2) hs_))) (fun hn_ => (Kd.fresh' (rl_ HO_572001) k_ hn_))⟩))
     have HO597 := Aside0.mk (Kd.R_mono (ok' := fun k_ => no_ v593 k_ ∧ no_ (.slice Ao25 x572000_1.length co25) k_ ∧ no_ (.slice Ao26 x572001_1.length co26) k_) ho1 (fun k_ hk_ => ⟨hk_.2, Or.elim hk_.1 (fun hs_ => Or.elim hs_ (fun hs_ => fun e_ => ((((Kd.R_apart' HO_572000.out (Kd.R_typed HO591.out) (by decide))).1 k_ e_.symm).1.1.2) hs_) (fun hs_ => Or.elim hs_ (fun hs_ => fun e_ => ((((Kd.R_apart' HO_572000.out (Kd.R_typed HO591.out) (by decide))).1 k_ e_.symm).1.2) hs_) (fun hs_ => fun e_ => ((((Kd.R_apart' HO_572000.out (Kd.R_typed HO591.out) (by decide))).1 k_ e_.symm).2) hs_))) (fun hn_ => (Kd.fresh' (rl_ HO_572000) k_ hn_)), Or.elim hk_.1 (fun hs_ => Or.elim hs_ (fun hs_ => fun e_ => ((((Kd.R_apart' HO_572001.out (Kd.R_typed HO591.out) (by decide))).1 k_ e_.symm).1.1.2) hs_) (fun hs_ => Or.elim hs_ (fun hs_ => fun e_ => ((((Kd.R_apart' HO_572001.out (Kd.R_typed HO591.out) (by decide))).1 k_ e_.symm).1.2) hs_) (fun hs_ => fun e_ => ((((Kd.R_apart' HO_572001.out (Kd.R_typed HO591.out) (by decide))).1 k_ e_.symm).2) hs_))) (fun hn_ => (Kd.fresh' (rl_ HO_572001) k_ hn_))⟩))
     have HO600 := Aside0.mk (Kd.R_mono (ok' := fun k_ => no_ (.slice Ao27 x572002_1.length co27) k_) ho2 (fun k_ hk_ => Or.elim hk_ (fun hs_ => Or.elim hs_ (fun hs_ => fun e_ => ((((Kd.R_apart' (Kd.R_apart' HO_572002.out (Kd.R_typed HO585.out) (by decide)) (Kd.R_typed HO588.out) (by decide))).1 k_ e_.symm).1.2) hs_) (fun hs_ => Or.elim hs_ (fun hs_ => fun e_ => ((((Kd.R_apart' (Kd.R_apart' HO_572002.out (Kd.R_typed HO585.out) (by decide)) (Kd.R_typed HO588.out) (by decide))).1 k_ e_.symm).2) hs_) (fun hs_ => fun e_ => ((((Kd.R_apart' (Kd.R_apart' HO_572002.out (Kd.R_typed HO585.out) (by decide)) (Kd.R_typed HO588.out) (by decide))).1 k_ e_.symm).1.1.2) hs_))) (fun hn_ => (Kd.fresh' (rl_ HO_572002) k_ hn_))))
     replace HO_7 := Aside0.mk (Kd.R_mono (ok' := fun k_ => True) (Kd.R_keptB ((Kd.R_apart' (Kd.R_apart' (Kd.R_apart' HO_7.out (Kd.R_typed HO585.out) (by decide)) (Kd.R_typed HO588.out) (by decide)) (Kd.R_typed HO591.out) (by decide))) hkp (fun k_ hk_ hs_ => Or.elim hs_ (fun e_ => (hk_.1.1.2) e_) (fun e_ => Or.elim e_ (fun e_ => (hk_.1.2) e_) (fun e_ => (hk_.2) e_)))) (fun k_ hk_ => trivial))
     replace HO_572000 := Aside0.mk (Kd.R_mono (ok' := fun k_ => no_ (.slice Ao26 x572001_1.length co26) k_ ∧ no_ v593 k_ ∧ no_ v596 k_) (Kd.R_keptB ((Kd.R_apart' HO_572000.out (Kd.R_typed HO591.out) (by decide))) hkp (fun k_ hk_ hs_ => Or.elim hs_ (fun e_ => (hk_.1.1.2) e_) (fun e_ => Or.elim e_ (fun e_ => (hk_.1.2) e_) (fun e_ => (hk_.2) e_)))) (fun k_ hk_ => ⟨hk_.1.1.1.1, fun e_ => Or.elim (ho0.1 k_ e_.symm).1 (fun hs_ => hk_.2.1 hs_) (fun hn_ => Nat.not_le.2 hk_.2.2 hn_), fun e_ => Or.elim (ho1.1 k_ e_.symm).1 (fun hs_ => hk_.2.1 hs_) (fun hn_ => Nat.not_le.2 hk_.2.2 hn_)⟩))
     replace HO_572001 := Aside0.mk (Kd.R_mono (ok' := fun k_ => no_ (.slice Ao25 x572000_1.length co25) k_ ∧ no_ v593 k_ ∧ no_ v596 k_) (Kd.R_keptB ((Kd.R_apart' HO_572001.out (Kd.R_typed HO591.out) (by decide))) hkp (fun k_ hk_ hs_ => Or.elim hs_ (fun e_ => (hk_.1.1.2) e_) (fun e_ => Or.elim e_ (fun e_ => (hk_.1.2) e_) (fun e_ => (hk_.2) e_)))) (fun k_ hk_ => ⟨hk_.1.1.1.1, fun e_ => Or.elim (ho0.1 k_ e_.symm).1 (fun hs_ => hk_.2.1 hs_) (fun hn_ => Nat.not_le.2 hk_.2.2 hn_), fun e_ => Or.elim (ho1.1 k_ e_.symm).1 (fun hs_ => hk_.2.1 hs_) (fun hn_ => Nat.not_le.2 hk_.2.2 hn_)⟩))
     replace HO_572002 := Aside0.mk (Kd.R_mono (ok' := fun k_ => no_ v599 k_) (Kd.R_keptB ((Kd.R_apart' (Kd.R_apart' HO_572002.out (Kd.R_typed HO585.out) (by decide)) (Kd.R_typed HO588.out) (by decide))) hkp (fun k_ hk_ hs_ => Or.elim hs_ (fun e_ => (hk_.1.2) e_) (fun e_ => Or.elim e_ (fun e_ => (hk_.2) e_) (fun e_ => (hk_.1.1.2) e_)))) (fun k_ hk_ => fun e_ => Or.elim (ho2.1 k_ e_.symm) (fun hs_ => hk_.2.1 hs_) (fun hn_ => Nat.not_le.2 hk_.2.2 hn_)))
     replace BK560 := Aside0.mk (blk_kept (ba BK560.out) hkp (fun hs_ => Or.elim hs_ (kne_ HO585 BK560) (fun e_ => Or.elim e_ (kne_ HO588 BK560) (kne_ HO591 BK560))))
     replace BK571 := Aside0.mk (blk_kept (ba BK571.out) hkp (fun hs_ => Or.elim hs_ (kne_ HO585 BK571) (fun e_ => Or.elim e_ (kne_ HO588 BK571) (kne_ HO591 BK571))))
     replace BK582 := Aside0.mk (blk_kept (ba BK582.out) hkp (fun hs_ => Or.elim hs_ (kne_ HO585 BK582) (fun e_ => Or.elim e_ (kne_ HO588 BK582) (kne_ HO591 BK582))))
     replace BK602 := Aside0.mk (blk_kept (ba BK602.out) hkp (fun hs_ => Or.elim hs_ (kne_ HO585 BK602) (fun e_ => Or.elim e_ (kne_ HO588 BK602) (kne_ HO591 BK602))))
     replace HB := Aside0.mk (hb)
     clear HO585 HO588 HO591
     clear hb ho0 ho1 ho2
     refine hK.out _ _ ⟨bc_ BK571 0, bc_ BK571 1, bc_ BK571 2, bc_ BK582 0, bc_ BK582 1⟩ (fun hHeld => ?_)
     clear hK K
     refine nm_ 30 ?_
     refine pu_ 4 26 (bs 10 159) HT_ ?_
     refine pu_ 5 31 (bs 10 191) HT_ ?_
     refine pu_ 6 32 (bs 10 255) HT_ ?_
     exact norm_ (by simp only [putAll, Act.put, List.setIfInBounds_toArray, List.set_cons_zero, List.set_cons_succ]) (hCont (.slice Ao32 t583.length co32, .slice Ao33 t586.length co33, .slice Ao34 t589.length co34, v593, v596, v599, gb602) _ ⟨hHeld, (ra HO594.out), (ra HO597.out), (ra HO600.out), (rm_ HO_572000 (fun _ hk => ⟨hk.2.1, ⟨hk.2.2, hk.1⟩⟩)).out, (rm_ HO_572001 (fun _ hk => ⟨hk.2.1, ⟨hk.2.2, hk.1⟩⟩)).out, (ra HO_572002.out), (ra HO_7.out), (ba BK560.out), (ba BK571.out), (ba BK582.out), (ba BK602.out), GW602.out, GE602.out, NB560_602.out, NB602_560.out, NB571_602.out, NB602_571.out, NB582_602.out, NB602_582.out, (hB HB)⟩)
    skip
    refine goes_ Try.func88 (by kernel_rfl) rfl #[.agg #[.slice Ao25 x572000_1.length co25, .slice Ao26 x572001_1.length co26, .slice Ao27 x572002_1.length co27]] (by rfl) rfl rfl tm_ ?_
    with_reducible refine (spec_l3Own.calls _ _ x572000_1 _ _ x572001_1 _ _ x572002_1 t583 t586 t589 _ ?side1 ?side2 ?side3 ?side4 ?side5 ?side6 A17.out).mono ?_
    (case side1 => exact ca (Kd.R_reads' HO_572000.out).2.2)
    (case side2 => exact (Kd.R_reads' HO_572000.out).2.1)
    (case side3 => exact ca (Kd.R_reads' HO_572001.out).2.2)
    (case side4 => exact (Kd.R_reads' HO_572001.out).2.1)
    (case side5 => exact ca (Kd.R_reads' HO_572002.out).2.2)
    (case side6 => exact (Kd.R_reads' HO_572002.out).2.1)
    rintro e w30 ⟨v584, v587, v590, rfl, ho0, ho1, ho2, hb⟩
    refine ⟨_, rfl, ?_⟩
    have HO585 := Aside0.mk (Kd.R_lower (Kd.R_new' (Kd.R_new' ho0 (rl_ HO_572000)) (rl_ HO_572001)) (below_size (hB HB)))
    have HO588 := Aside0.mk (Kd.R_lower (Kd.R_new' (Kd.R_new' ho1 (rl_ HO_572000)) (rl_ HO_572001)) (below_size (hB HB)))
    have HO591 := Aside0.mk (Kd.R_lower (Kd.R_new' ho2 (rl_ HO_572002)) (below_size (hB HB)))
    replace HO_7 := rb_ HO_7 hb
    replace HO_572000 := rt2_ HO_572000 hb ho0 ho1
    replace HO_572001 := rt2_ HO_572001 hb ho0 ho1
    replace HO_572002 := re_ HO_572002 ho2 hb
    replace BK560 := bb_ BK560 hb
    replace BK571 := bb_ BK571 hb
    replace BK582 := bb_ BK582 hb
    replace HB := bst_ HB hb
    clear hb ho0 ho1 ho2
    obtain ⟨Ao31, co31, eo31⟩ := Kd.R_slice HO585.out
    (first | subst eo31 | (injection eo31 with f1_ f2_ f3_; have f4_ := f1_.symm; have f5_ := f3_.symm; clear f1_ f2_ f3_; subst f4_; subst f5_))
    obtain ⟨Ao32, co32, eo32⟩ := Kd.R_slice HO588.out
    (first | subst eo32 | (injection eo32 with f1_ f2_ f3_; have f4_ := f1_.symm; have f5_ := f3_.symm; clear f1_ f2_ f3_; subst f4_; subst f5_))
    obtain ⟨Ao33, co33, eo33⟩ := Kd.R_slice HO591.out
    (first | subst eo33 | (injection eo33 with f1_ f2_ f3_; have f4_ := f1_.symm; have f5_ := f3_.symm; clear f1_ f2_ f3_; subst f4_; subst f5_))
    refine hK.out _ _ ⟨bc_ BK571 0, bc_ BK571 1, bc_ BK571 2, bc_ BK582 0, bc_ BK582 1⟩ (fun hHeld => ?_)
    clear hK K
    refine nm_ 28 ?_
    refine two_ (i := 3) (j := 7) (Ni := some 30) (Nj := some 10) (bs 10 15) (bs 10 135) rfl rfl rfl rfl (two_of HT_.out (by kernel_rfl)) (by decide) (by decide) (fun K hK => ?_) (fun K hK => ?_)
    ·skip
     refine goes_ Try.func87 (by kernel_rfl) rfl #[.agg #[.slice Ao31 t583.length co31, .slice Ao32 t586.length co32, .slice Ao33 t589.length co33], .agg #[.int .i64 ((rd_T37 l0 x22_1).f0), .int .i64 ((rd_T37 l0 x22_1).f1)]] (by rfl) rfl rfl tm_ ?_
     with_reducible refine (spec_l3Step.calls k1 (fun k_ => some k_ = (.slice Ao31 t583.length co31 : Value).ownBlock) (.slice Ao31 t583.length co31) t583 (fun k_ => some k_ = (.slice Ao32 t586.length co32 : Value).ownBlock) (.slice Ao32 t586.length co32) t586 (fun k_ => some k_ = (.slice Ao33 t589.length co33 : Value).ownBlock) (.slice Ao33 t589.length co33) t589 ((rd_T37 l0 x22_1).f0) ((rd_T37 l0 x22_1).f1) t592 t595 t598 true w _ ?side1 ?side2 ?side3 ?side4 ?side5 ?side6 A18.out).mono ?_
     (case side1 => repeat (first | (with_reducible first | exact HB.out | apply below_alloc | apply pw_below_drewN | apply below_drew1 | refine below_set ?_ GE560.out | refine below_set ?_ GE571.out | refine below_set ?_ GE582.out) | exact HB.out))
     (case side2 => exact Kd.R_tight rfl HO585.out)
     (case side3 => exact fun k_ e_ => (HO585.out.1 k_ e_.symm).1.1)
     (case side4 => exact Kd.R_tight rfl HO588.out)
     (case side5 => exact fun k_ e_ => (HO588.out.1 k_ e_.symm).1.1)
     (case side6 => exact Kd.R_tight rfl HO591.out)
     rintro e w34 ⟨v593, v596, v599, rfl, ho0, ho1, ho2, hb, hkp⟩
     refine ⟨_, rfl, ?_⟩
     have HO594 := Aside0.mk (Kd.R_mono (ok' := fun k_ => no_ v596 k_ ∧ no_ (.slice Ao25 x572000_1.length co25) k_ ∧ no_ (.slice Ao26 x572001_1.length co26) k_) ho0 (fun k_ hk_ => ⟨hk_.2, Or.elim hk_.1 (fun hs_ => Or.elim hs_ (fun hs_ => fun e_ => ((((Kd.R_apart' HO_572000.out (Kd.R_typed HO591.out) (by decide))).1 k_ e_.symm).1.1.2) hs_) (fun hs_ => Or.elim hs_ (fun hs_ => fun e_ => ((((Kd.R_apart' HO_572000.out (Kd.R_typed HO591.out) (by decide))).1 k_ e_.symm).1.2) hs_) (fun hs_ => fun e_ => ((((Kd.R_apart' HO_572000.out (Kd.R_typed HO591.out) (by decide))).1 k_ e_.symm).2) hs_))) (fun hn_ => (Kd.fresh' (rl_ HO_572000) k_ hn_)), Or.elim hk_.1 (fun hs_ => Or.elim hs_ (fun hs_ => fun e_ => ((((Kd.R_apart' HO_572001.out (Kd.R_typed HO591.out) (by decide))).1 k_ e_.symm).1.1.2) hs_) (fun hs_ => Or.elim hs_ (fun hs_ => fun e_ => ((((Kd.R_apart' HO_572001.out (Kd.R_typed HO591.out) (by decide))).1 k_ e_.symm).1.2) hs_) (fun hs_ => fun e_ => ((((Kd.R_apart' HO_572001.out (Kd.R_typed HO591.out) (by decide))).1 k_ e_.symm).2) hs_))) (fun hn_ => (Kd.fresh' (rl_ HO_572001) k_ hn_))⟩))
     have HO597 := Aside0.mk (Kd.R_mono (ok' := fun k_ => no_ v593 k_ ∧ no_ (.slice Ao25 x572000_1.length co25) k_ ∧ no_ (.slice Ao26 x572001_1.length co26) k_) ho1 (fun k_ hk_ => ⟨hk_.2, Or.elim hk_.1 (fun hs_ => Or.elim hs_ (fun hs_ => fun e_ => ((((Kd.R_apart' HO_572000.out (Kd.R_typed HO591.out) (by decide))).1 k_ e_.symm).1.1.2) hs_) (fun hs_ => Or.elim hs_ (fun hs_ => fun e_ => ((((Kd.R_apart' HO_572000.out (Kd.R_typed HO591.out) (by decide))).1 k_ e_.symm).1.2) hs_) (fun hs_ => fun e_ => ((((Kd.R_apart' HO_572000.out (Kd.R_typed HO591.out) (by decide))).1 k_ e_.symm).2) hs_))) (fun hn_ => (Kd.fresh' (rl_ HO_572000) k_ hn_)), Or.elim hk_.1 (fun hs_ => Or.elim hs_ (fun hs_ => fun e_ => ((((Kd.R_apart' HO_572001.out (Kd.R_typed HO591.out) (by decide))).1 k_ e_.symm).1.1.2) hs_) (fun hs_ => Or.elim hs_ (fun hs_ => fun e_ => ((((Kd.R_apart' HO_572001.out (Kd.R_typed HO591.out) (by decide))).1 k_ e_.symm).1.2) hs_) (fun hs_ => fun e_ => ((((Kd.R_apart' HO_572001.out (Kd.R_typed HO591.out) (by decide))).1 k_ e_.symm).2) hs_))) (fun hn_ => (Kd.fresh' (rl_ HO_572001) k_ hn_))⟩))
     have HO600 := Aside0.mk (Kd.R_mono (ok' := fun k_ => no_ (.slice Ao27 x572002_1.length co27) k_) ho2 (fun k_ hk_ => Or.elim hk_ (fun hs_ => Or.elim hs_ (fun hs_ => fun e_ => ((((Kd.R_apart' (Kd.R_apart' HO_572002.out (Kd.R_typed HO585.out) (by decide)) (Kd.R_typed HO588.out) (by decide))).1 k_ e_.symm).1.2) hs_) (fun hs_ => Or.elim hs_ (fun hs_ => fun e_ => ((((Kd.R_apart' (Kd.R_apart' HO_572002.out (Kd.R_typed HO585.out) (by decide)) (Kd.R_typed HO588.out) (by decide))).1 k_ e_.symm).2) hs_) (fun hs_ => fun e_ => ((((Kd.R_apart' (Kd.R_apart' HO_572002.out (Kd.R_typed HO585.out) (by decide)) (Kd.R_typed HO588.out) (by decide))).1 k_ e_.symm).1.1.2) hs_))) (fun hn_ => (Kd.fresh' (rl_ HO_572002) k_ hn_))))
     replace HO_7 := Aside0.mk (Kd.R_mono (ok' := fun k_ => True) (Kd.R_keptB ((Kd.R_apart' (Kd.R_apart' (Kd.R_apart' HO_7.out (Kd.R_typed HO585.out) (by decide)) (Kd.R_typed HO588.out) (by decide)) (Kd.R_typed HO591.out) (by decide))) hkp (fun k_ hk_ hs_ => Or.elim hs_ (fun e_ => (hk_.1.1.2) e_) (fun e_ => Or.elim e_ (fun e_ => (hk_.1.2) e_) (fun e_ => (hk_.2) e_)))) (fun k_ hk_ => trivial))
     replace HO_572000 := Aside0.mk (Kd.R_mono (ok' := fun k_ => no_ (.slice Ao26 x572001_1.length co26) k_ ∧ no_ v593 k_ ∧ no_ v596 k_) (Kd.R_keptB ((Kd.R_apart' HO_572000.out (Kd.R_typed HO591.out) (by decide))) hkp (fun k_ hk_ hs_ => Or.elim hs_ (fun e_ => (hk_.1.1.2) e_) (fun e_ => Or.elim e_ (fun e_ => (hk_.1.2) e_) (fun e_ => (hk_.2) e_)))) (fun k_ hk_ => ⟨hk_.1.1.1.1, fun e_ => Or.elim (ho0.1 k_ e_.symm).1 (fun hs_ => hk_.2.1 hs_) (fun hn_ => Nat.not_le.2 hk_.2.2 hn_), fun e_ => Or.elim (ho1.1 k_ e_.symm).1 (fun hs_ => hk_.2.1 hs_) (fun hn_ => Nat.not_le.2 hk_.2.2 hn_)⟩))
     replace HO_572001 := Aside0.mk (Kd.R_mono (ok' := fun k_ => no_ (.slice Ao25 x572000_1.length co25) k_ ∧ no_ v593 k_ ∧ no_ v596 k_) (Kd.R_keptB ((Kd.R_apart' HO_572001.out (Kd.R_typed HO591.out) (by decide))) hkp (fun k_ hk_ hs_ => Or.elim hs_ (fun e_ => (hk_.1.1.2) e_) (fun e_ => Or.elim e_ (fun e_ => (hk_.1.2) e_) (fun e_ => (hk_.2) e_)))) (fun k_ hk_ => ⟨hk_.1.1.1.1, fun e_ => Or.elim (ho0.1 k_ e_.symm).1 (fun hs_ => hk_.2.1 hs_) (fun hn_ => Nat.not_le.2 hk_.2.2 hn_), fun e_ => Or.elim (ho1.1 k_ e_.symm).1 (fun hs_ => hk_.2.1 hs_) (fun hn_ => Nat.not_le.2 hk_.2.2 hn_)⟩))
     replace HO_572002 := Aside0.mk (Kd.R_mono (ok' := fun k_ => no_ v599 k_) (Kd.R_keptB ((Kd.R_apart' (Kd.R_apart' HO_572002.out (Kd.R_typed HO585.out) (by decide)) (Kd.R_typed HO588.out) (by decide))) hkp (fun k_ hk_ hs_ => Or.elim hs_ (fun e_ => (hk_.1.2) e_) (fun e_ => Or.elim e_ (fun e_ => (hk_.2) e_) (fun e_ => (hk_.1.1.2) e_)))) (fun k_ hk_ => fun e_ => Or.elim (ho2.1 k_ e_.symm) (fun hs_ => hk_.2.1 hs_) (fun hn_ => Nat.not_le.2 hk_.2.2 hn_)))
     replace BK560 := Aside0.mk (blk_kept (ba BK560.out) hkp (fun hs_ => Or.elim hs_ (kne_ HO585 BK560) (fun e_ => Or.elim e_ (kne_ HO588 BK560) (kne_ HO591 BK560))))
     replace BK571 := Aside0.mk (blk_kept (ba BK571.out) hkp (fun hs_ => Or.elim hs_ (kne_ HO585 BK571) (fun e_ => Or.elim e_ (kne_ HO588 BK571) (kne_ HO591 BK571))))
     replace BK582 := Aside0.mk (blk_kept (ba BK582.out) hkp (fun hs_ => Or.elim hs_ (kne_ HO585 BK582) (fun e_ => Or.elim e_ (kne_ HO588 BK582) (kne_ HO591 BK582))))
     replace HB := Aside0.mk (hb)
     clear HO585 HO588 HO591
     clear hb ho0 ho1 ho2
     refine hK.out _ _ ⟨bc_ BK571 0, bc_ BK571 1, bc_ BK571 2, bc_ BK582 0, bc_ BK582 1⟩ (fun hHeld => ?_)
     clear hK K
     refine nm_ 30 ?_
     refine pu_ 4 26 (bs 10 31) HT_ ?_
     refine pu_ 5 31 (bs 10 63) HT_ ?_
     refine pu_ 6 32 (bs 10 127) HT_ ?_
     refine one_ (i := 7) (N := some 10) (bs 10 255) rfl rfl (one_of HT_.out (by kernel_rfl)) (by decide) (fun K hK => ?_)
     refine box_step ?hg (N := 10) ?hd (cs := #[.slice none 0 0, .slice none 0 0, .slice none 0 0]) (t := 35) ?hr ?_; (case hd => rfl); (case hg => rfl); (case hr => first | (go_simp; done) | (go_simp; rfl))
     intro gb602 hg w35 hbox hb
     have BK602 := Aside0.mk (hbox)
     have GW602 := gw_ hg HB
     have GE602 := gw_ hg HB
     have NB560_602 := nl_ hg BK560
     have NB602_560 := ng_ hg BK560
     have NB571_602 := nl_ hg BK571
     have NB602_571 := ng_ hg BK571
     have NB582_602 := nl_ hg BK582
     have NB602_582 := ng_ hg BK582
     replace HO_7 := rb_ HO_7 hb
     replace HO_572000 := rb_ HO_572000 hb
     replace HO_572001 := rb_ HO_572001 hb
     replace HO_572002 := rb_ HO_572002 hb
     replace HO594 := rb_ HO594 hb
     replace HO597 := rb_ HO597 hb
     replace HO600 := rb_ HO600 hb
     replace BK560 := bb_ BK560 hb
     replace BK571 := bb_ BK571 hb
     replace BK582 := bb_ BK582 hb
     replace HB := bst_ HB hb
     clear hb hbox hg
     refine hK.out _ _ ⟨bc_ BK571 0, bc_ BK571 1, bc_ BK571 2, bc_ BK582 0, bc_ BK582 1⟩ (fun hHeld => ?_)
     clear hK K
     refine nm_ 10 ?_
     exact norm_ (by simp only [putAll, Act.put, List.setIfInBounds_toArray, List.set_cons_zero, List.set_cons_succ]) (hCont (.slice Ao31 t583.length co31, .slice Ao32 t586.length co32, .slice Ao33 t589.length co33, v593, v596, v599, gb602) _ ⟨hHeld, (ra HO594.out), (ra HO597.out), (ra HO600.out), (rm_ HO_572000 (fun _ hk => ⟨hk.2.1, ⟨hk.2.2, hk.1⟩⟩)).out, (rm_ HO_572001 (fun _ hk => ⟨hk.2.1, ⟨hk.2.2, hk.1⟩⟩)).out, (ra HO_572002.out), (ra HO_7.out), (ba BK560.out), (ba BK571.out), (ba BK582.out), (ba BK602.out), GW602.out, GE602.out, NB560_602.out, NB602_560.out, NB571_602.out, NB602_571.out, NB582_602.out, NB602_582.out, (hB HB)⟩)
    skip
    refine box_step ?hg (N := 10) ?hd (cs := #[.slice none 0 0, .slice none 0 0, .slice none 0 0]) (t := 35) ?hr ?_; (case hd => rfl); (case hg => rfl); (case hr => first | (go_simp; done) | (go_simp; rfl))
    intro gb602 hg w31 hbox hb
    have BK602 := Aside0.mk (hbox)
    have GW602 := gw_ hg HB
    have GE602 := gw_ hg HB
    have NB560_602 := nl_ hg BK560
    have NB602_560 := ng_ hg BK560
    have NB571_602 := nl_ hg BK571
    have NB602_571 := ng_ hg BK571
    have NB582_602 := nl_ hg BK582
    have NB602_582 := ng_ hg BK582
    replace HO_7 := rb_ HO_7 hb
    replace HO_572000 := rb_ HO_572000 hb
    replace HO_572001 := rb_ HO_572001 hb
    replace HO_572002 := rb_ HO_572002 hb
    replace HO585 := rb_ HO585 hb
    replace HO588 := rb_ HO588 hb
    replace HO591 := rb_ HO591 hb
    replace BK560 := bb_ BK560 hb
    replace BK571 := bb_ BK571 hb
    replace BK582 := bb_ BK582 hb
    replace HB := bst_ HB hb
    clear hb hbox hg
    obtain ⟨Ao32, co32, eo32⟩ := Kd.R_slice HO585.out
    (first | subst eo32 | (injection eo32 with f1_ f2_ f3_; have f4_ := f1_.symm; have f5_ := f3_.symm; clear f1_ f2_ f3_; subst f4_; subst f5_))
    obtain ⟨Ao33, co33, eo33⟩ := Kd.R_slice HO588.out
    (first | subst eo33 | (injection eo33 with f1_ f2_ f3_; have f4_ := f1_.symm; have f5_ := f3_.symm; clear f1_ f2_ f3_; subst f4_; subst f5_))
    obtain ⟨Ao34, co34, eo34⟩ := Kd.R_slice HO591.out
    (first | subst eo34 | (injection eo34 with f1_ f2_ f3_; have f4_ := f1_.symm; have f5_ := f3_.symm; clear f1_ f2_ f3_; subst f4_; subst f5_))
    refine hK.out _ _ ⟨bc_ BK571 0, bc_ BK571 1, bc_ BK571 2, bc_ BK582 0, bc_ BK582 1⟩ (fun hHeld => ?_)
    clear hK K
    refine nm_ 10 ?_
    refine one_ (i := 3) (N := some 30) (bs 10 143) rfl rfl (one_of HT_.out (by kernel_rfl)) (by decide) (fun K hK => ?_)
    refine goes_ Try.func87 (by kernel_rfl) rfl #[.agg #[.slice Ao32 t583.length co32, .slice Ao33 t586.length co33, .slice Ao34 t589.length co34], .agg #[.int .i64 ((rd_T37 l0 x22_1).f0), .int .i64 ((rd_T37 l0 x22_1).f1)]] (by rfl) rfl rfl tm_ ?_
    with_reducible refine (spec_l3Step.calls k1 (fun k_ => some k_ = (.slice Ao32 t583.length co32 : Value).ownBlock) (.slice Ao32 t583.length co32) t583 (fun k_ => some k_ = (.slice Ao33 t586.length co33 : Value).ownBlock) (.slice Ao33 t586.length co33) t586 (fun k_ => some k_ = (.slice Ao34 t589.length co34 : Value).ownBlock) (.slice Ao34 t589.length co34) t589 ((rd_T37 l0 x22_1).f0) ((rd_T37 l0 x22_1).f1) t592 t595 t598 true w _ ?side1 ?side2 ?side3 ?side4 ?side5 ?side6 A18.out).mono ?_
    (case side1 => repeat (first | (with_reducible first | exact HB.out | apply below_alloc | apply pw_below_drewN | apply below_drew1 | refine below_set ?_ GE560.out | refine below_set ?_ GE571.out | refine below_set ?_ GE582.out | refine below_set ?_ GE602.out) | exact HB.out))
    (case side2 => exact Kd.R_tight rfl HO585.out)
    (case side3 => exact fun k_ e_ => (HO585.out.1 k_ e_.symm).1.1)
    (case side4 => exact Kd.R_tight rfl HO588.out)
    (case side5 => exact fun k_ e_ => (HO588.out.1 k_ e_.symm).1.1)
    (case side6 => exact Kd.R_tight rfl HO591.out)
    rintro e w35 ⟨v593, v596, v599, rfl, ho0, ho1, ho2, hb, hkp⟩
    refine ⟨_, rfl, ?_⟩
    have HO594 := Aside0.mk (Kd.R_mono (ok' := fun k_ => no_ v596 k_ ∧ no_ (.slice Ao25 x572000_1.length co25) k_ ∧ no_ (.slice Ao26 x572001_1.length co26) k_) ho0 (fun k_ hk_ => ⟨hk_.2, Or.elim hk_.1 (fun hs_ => Or.elim hs_ (fun hs_ => fun e_ => ((((Kd.R_apart' HO_572000.out (Kd.R_typed HO591.out) (by decide))).1 k_ e_.symm).1.1.2) hs_) (fun hs_ => Or.elim hs_ (fun hs_ => fun e_ => ((((Kd.R_apart' HO_572000.out (Kd.R_typed HO591.out) (by decide))).1 k_ e_.symm).1.2) hs_) (fun hs_ => fun e_ => ((((Kd.R_apart' HO_572000.out (Kd.R_typed HO591.out) (by decide))).1 k_ e_.symm).2) hs_))) (fun hn_ => (Kd.fresh' (rl_ HO_572000) k_ hn_)), Or.elim hk_.1 (fun hs_ => Or.elim hs_ (fun hs_ => fun e_ => ((((Kd.R_apart' HO_572001.out (Kd.R_typed HO591.out) (by decide))).1 k_ e_.symm).1.1.2) hs_) (fun hs_ => Or.elim hs_ (fun hs_ => fun e_ => ((((Kd.R_apart' HO_572001.out (Kd.R_typed HO591.out) (by decide))).1 k_ e_.symm).1.2) hs_) (fun hs_ => fun e_ => ((((Kd.R_apart' HO_572001.out (Kd.R_typed HO591.out) (by decide))).1 k_ e_.symm).2) hs_))) (fun hn_ => (Kd.fresh' (rl_ HO_572001) k_ hn_))⟩))
    have HO597 := Aside0.mk (Kd.R_mono (ok' := fun k_ => no_ v593 k_ ∧ no_ (.slice Ao25 x572000_1.length co25) k_ ∧ no_ (.slice Ao26 x572001_1.length co26) k_) ho1 (fun k_ hk_ => ⟨hk_.2, Or.elim hk_.1 (fun hs_ => Or.elim hs_ (fun hs_ => fun e_ => ((((Kd.R_apart' HO_572000.out (Kd.R_typed HO591.out) (by decide))).1 k_ e_.symm).1.1.2) hs_) (fun hs_ => Or.elim hs_ (fun hs_ => fun e_ => ((((Kd.R_apart' HO_572000.out (Kd.R_typed HO591.out) (by decide))).1 k_ e_.symm).1.2) hs_) (fun hs_ => fun e_ => ((((Kd.R_apart' HO_572000.out (Kd.R_typed HO591.out) (by decide))).1 k_ e_.symm).2) hs_))) (fun hn_ => (Kd.fresh' (rl_ HO_572000) k_ hn_)), Or.elim hk_.1 (fun hs_ => Or.elim hs_ (fun hs_ => fun e_ => ((((Kd.R_apart' HO_572001.out (Kd.R_typed HO591.out) (by decide))).1 k_ e_.symm).1.1.2) hs_) (fun hs_ => Or.elim hs_ (fun hs_ => fun e_ => ((((Kd.R_apart' HO_572001.out (Kd.R_typed HO591.out) (by decide))).1 k_ e_.symm).1.2) hs_) (fun hs_ => fun e_ => ((((Kd.R_apart' HO_572001.out (Kd.R_typed HO591.out) (by decide))).1 k_ e_.symm).2) hs_))) (fun hn_ => (Kd.fresh' (rl_ HO_572001) k_ hn_))⟩))
    have HO600 := Aside0.mk (Kd.R_mono (ok' := fun k_ => no_ (.slice Ao27 x572002_1.length co27) k_) ho2 (fun k_ hk_ => Or.elim hk_ (fun hs_ => Or.elim hs_ (fun hs_ => fun e_ => ((((Kd.R_apart' (Kd.R_apart' HO_572002.out (Kd.R_typed HO585.out) (by decide)) (Kd.R_typed HO588.out) (by decide))).1 k_ e_.symm).1.2) hs_) (fun hs_ => Or.elim hs_ (fun hs_ => fun e_ => ((((Kd.R_apart' (Kd.R_apart' HO_572002.out (Kd.R_typed HO585.out) (by decide)) (Kd.R_typed HO588.out) (by decide))).1 k_ e_.symm).2) hs_) (fun hs_ => fun e_ => ((((Kd.R_apart' (Kd.R_apart' HO_572002.out (Kd.R_typed HO585.out) (by decide)) (Kd.R_typed HO588.out) (by decide))).1 k_ e_.symm).1.1.2) hs_))) (fun hn_ => (Kd.fresh' (rl_ HO_572002) k_ hn_))))
    replace HO_7 := Aside0.mk (Kd.R_mono (ok' := fun k_ => True) (Kd.R_keptB ((Kd.R_apart' (Kd.R_apart' (Kd.R_apart' HO_7.out (Kd.R_typed HO585.out) (by decide)) (Kd.R_typed HO588.out) (by decide)) (Kd.R_typed HO591.out) (by decide))) hkp (fun k_ hk_ hs_ => Or.elim hs_ (fun e_ => (hk_.1.1.2) e_) (fun e_ => Or.elim e_ (fun e_ => (hk_.1.2) e_) (fun e_ => (hk_.2) e_)))) (fun k_ hk_ => trivial))
    replace HO_572000 := Aside0.mk (Kd.R_mono (ok' := fun k_ => no_ (.slice Ao26 x572001_1.length co26) k_ ∧ no_ v593 k_ ∧ no_ v596 k_) (Kd.R_keptB ((Kd.R_apart' HO_572000.out (Kd.R_typed HO591.out) (by decide))) hkp (fun k_ hk_ hs_ => Or.elim hs_ (fun e_ => (hk_.1.1.2) e_) (fun e_ => Or.elim e_ (fun e_ => (hk_.1.2) e_) (fun e_ => (hk_.2) e_)))) (fun k_ hk_ => ⟨hk_.1.1.1.1, fun e_ => Or.elim (ho0.1 k_ e_.symm).1 (fun hs_ => hk_.2.1 hs_) (fun hn_ => Nat.not_le.2 hk_.2.2 hn_), fun e_ => Or.elim (ho1.1 k_ e_.symm).1 (fun hs_ => hk_.2.1 hs_) (fun hn_ => Nat.not_le.2 hk_.2.2 hn_)⟩))
    replace HO_572001 := Aside0.mk (Kd.R_mono (ok' := fun k_ => no_ (.slice Ao25 x572000_1.length co25) k_ ∧ no_ v593 k_ ∧ no_ v596 k_) (Kd.R_keptB ((Kd.R_apart' HO_572001.out (Kd.R_typed HO591.out) (by decide))) hkp (fun k_ hk_ hs_ => Or.elim hs_ (fun e_ => (hk_.1.1.2) e_) (fun e_ => Or.elim e_ (fun e_ => (hk_.1.2) e_) (fun e_ => (hk_.2) e_)))) (fun k_ hk_ => ⟨hk_.1.1.1.1, fun e_ => Or.elim (ho0.1 k_ e_.symm).1 (fun hs_ => hk_.2.1 hs_) (fun hn_ => Nat.not_le.2 hk_.2.2 hn_), fun e_ => Or.elim (ho1.1 k_ e_.symm).1 (fun hs_ => hk_.2.1 hs_) (fun hn_ => Nat.not_le.2 hk_.2.2 hn_)⟩))
    replace HO_572002 := Aside0.mk (Kd.R_mono (ok' := fun k_ => no_ v599 k_) (Kd.R_keptB ((Kd.R_apart' (Kd.R_apart' HO_572002.out (Kd.R_typed HO585.out) (by decide)) (Kd.R_typed HO588.out) (by decide))) hkp (fun k_ hk_ hs_ => Or.elim hs_ (fun e_ => (hk_.1.2) e_) (fun e_ => Or.elim e_ (fun e_ => (hk_.2) e_) (fun e_ => (hk_.1.1.2) e_)))) (fun k_ hk_ => fun e_ => Or.elim (ho2.1 k_ e_.symm) (fun hs_ => hk_.2.1 hs_) (fun hn_ => Nat.not_le.2 hk_.2.2 hn_)))
    replace BK560 := Aside0.mk (blk_kept (ba BK560.out) hkp (fun hs_ => Or.elim hs_ (kne_ HO585 BK560) (fun e_ => Or.elim e_ (kne_ HO588 BK560) (kne_ HO591 BK560))))
    replace BK571 := Aside0.mk (blk_kept (ba BK571.out) hkp (fun hs_ => Or.elim hs_ (kne_ HO585 BK571) (fun e_ => Or.elim e_ (kne_ HO588 BK571) (kne_ HO591 BK571))))
    replace BK582 := Aside0.mk (blk_kept (ba BK582.out) hkp (fun hs_ => Or.elim hs_ (kne_ HO585 BK582) (fun e_ => Or.elim e_ (kne_ HO588 BK582) (kne_ HO591 BK582))))
    replace BK602 := Aside0.mk (blk_kept (ba BK602.out) hkp (fun hs_ => Or.elim hs_ (kne_ HO585 BK602) (fun e_ => Or.elim e_ (kne_ HO588 BK602) (kne_ HO591 BK602))))
    replace HB := Aside0.mk (hb)
    clear HO585 HO588 HO591
    clear hb ho0 ho1 ho2
    refine hK.out _ _ ⟨bc_ BK571 0, bc_ BK571 1, bc_ BK571 2, bc_ BK582 0, bc_ BK582 1⟩ (fun hHeld => ?_)
    clear hK K
    refine nm_ 30 ?_
    refine pu_ 4 26 (bs 10 159) HT_ ?_
    refine pu_ 5 31 (bs 10 191) HT_ ?_
    refine pu_ 6 32 (bs 10 255) HT_ ?_
    exact norm_ (by simp only [putAll, Act.put, List.setIfInBounds_toArray, List.set_cons_zero, List.set_cons_succ]) (hCont (.slice Ao32 t583.length co32, .slice Ao33 t586.length co33, .slice Ao34 t589.length co34, v593, v596, v599, gb602) _ ⟨hHeld, (ra HO594.out), (ra HO597.out), (ra HO600.out), (rm_ HO_572000 (fun _ hk => ⟨hk.2.1, ⟨hk.2.2, hk.1⟩⟩)).out, (rm_ HO_572001 (fun _ hk => ⟨hk.2.1, ⟨hk.2.2, hk.1⟩⟩)).out, (ra HO_572002.out), (ra HO_7.out), (ba BK560.out), (ba BK571.out), (ba BK582.out), (ba BK602.out), GW602.out, GE602.out, NB560_602.out, NB602_560.out, NB571_602.out, NB602_571.out, NB582_602.out, NB602_582.out, (hB HB)⟩)
   rintro ⟨v584, v587, v590, v593, v596, v599, gb602⟩ w36 ⟨hS_, h0_, h1_, h2_, h3_, h4_, h5_, h6_, h7_, h8_, h9_, h10_, h11_, h12_, h13_, h14_, h15_, h16_, h17_, h18_, h19_⟩
   try dsimp only at h0_ h1_ h2_ h3_ h4_ h5_ h6_ h7_ h8_ h9_ h10_ h11_ h12_ h13_ h14_ h15_ h16_ h17_ h18_ h19_
   have HO594 := Aside0.mk h0_
   have HO597 := Aside0.mk h1_
   have HO600 := Aside0.mk h2_
   have BK602 := Aside0.mk h10_
   have GW602 := Aside0.mk h11_
   have GE602 := Aside0.mk h12_
   have NB560_602 := Aside0.mk h13_
   have NB602_560 := Aside0.mk h14_
   have NB571_602 := Aside0.mk h15_
   have NB602_571 := Aside0.mk h16_
   have NB582_602 := Aside0.mk h17_
   have NB602_582 := Aside0.mk h18_
   replace HO_572000 := Aside0.mk h3_
   replace HO_572001 := Aside0.mk h4_
   replace HO_572002 := Aside0.mk h5_
   replace HO_7 := Aside0.mk h6_
   replace BK560 := Aside0.mk h7_
   replace BK571 := Aside0.mk h8_
   replace BK582 := Aside0.mk h9_
   replace HB := Aside0.mk h19_
   clear h0_ h1_ h2_ h3_ h4_ h5_ h6_ h7_ h8_ h9_ h10_ h11_ h12_ h13_ h14_ h15_ h16_ h17_ h18_ h19_
   have hHeld : w36.cell? ⟨gb571, 0, none⟩ = some (.slice Ao25 x572000_1.length co25) ∧ w36.cell? ⟨gb571, 1, none⟩ = some (.slice Ao26 x572001_1.length co26) ∧ w36.cell? ⟨gb571, 2, none⟩ = some (.slice Ao27 x572002_1.length co27) ∧ w36.cell? ⟨gb582, 0, none⟩ = some (.int .i64 ((rd_T37 l0 x22_1).f0)) ∧ w36.cell? ⟨gb582, 1, none⟩ = some (.int .i64 ((rd_T37 l0 x22_1).f1)) := hS_
   obtain ⟨Ao37, co37, eo37⟩ := Kd.R_slice HO594.out
   (first | subst eo37 | (injection eo37 with f1_ f2_ f3_; have f4_ := f1_.symm; have f5_ := f3_.symm; clear f1_ f2_ f3_; subst f4_; subst f5_))
   obtain ⟨Ao39, co39, eo39⟩ := Kd.R_slice HO597.out
   (first | subst eo39 | (injection eo39 with f1_ f2_ f3_; have f4_ := f1_.symm; have f5_ := f3_.symm; clear f1_ f2_ f3_; subst f4_; subst f5_))
   obtain ⟨Ao41, co41, eo41⟩ := Kd.R_slice HO600.out
   (first | subst eo41 | (injection eo41 with f1_ f2_ f3_; have f4_ := f1_.symm; have f5_ := f3_.symm; clear f1_ f2_ f3_; subst f4_; subst f5_))
   refine norm_ (a' := ?_) ?_ ?_
   rotate_left
   ·simp only [putAll, Act.put, List.setIfInBounds_toArray, List.set_cons_zero, List.set_cons_succ]
    rfl
   refine one_ (i := 8) (N := none) (bs 10 511) rfl rfl (one_of HT_.out (by kernel_rfl)) (by decide) (fun K hK => ?_)
   have hs38 : w36.cell? ⟨gb602, 0, none⟩ = some (.slice none 0 0) := bc_ BK602 0
   have hfs38 := blk_frozen BK602.out 0
   have hns38_0 := NB560_602.out
   have hns38_1 := NB571_602.out
   have hns38_2 := NB582_602.out
   have hms38_0 := NB602_560.out
   have hms38_1 := NB602_571.out
   have hms38_2 := NB602_582.out
   have hs40 : w36.cell? ⟨gb602, 1, none⟩ = some (.slice none 0 0) := bc_ BK602 1
   have hfs40 := blk_frozen BK602.out 1
   have hns40_0 := NB560_602.out
   have hns40_1 := NB571_602.out
   have hns40_2 := NB582_602.out
   have hms40_0 := NB602_560.out
   have hms40_1 := NB602_571.out
   have hms40_2 := NB602_582.out
   have hs42 : w36.cell? ⟨gb602, 2, none⟩ = some (.slice none 0 0) := bc_ BK602 2
   have hfs42 := blk_frozen BK602.out 2
   have hns42_0 := NB560_602.out
   have hns42_1 := NB571_602.out
   have hns42_2 := NB582_602.out
   have hms42_0 := NB602_560.out
   have hms42_1 := NB602_571.out
   have hms42_2 := NB602_582.out
   refine skip_ (w1 := ?_) (by rfl) rfl ?_ ?_
   rotate_left
   ·go_simp
    rfl
   refine hK.out _ _ ⟨((cell_far (p := ⟨gb602, _, none⟩) NB571_602.out _).trans (((cell_far (p := ⟨gb602, _, none⟩) NB571_602.out _).trans (((cell_far (p := ⟨gb602, _, none⟩) NB571_602.out _).trans (hHeld.1)))))), ((cell_far (p := ⟨gb602, _, none⟩) NB571_602.out _).trans (((cell_far (p := ⟨gb602, _, none⟩) NB571_602.out _).trans (((cell_far (p := ⟨gb602, _, none⟩) NB571_602.out _).trans (hHeld.2.1)))))), ((cell_far (p := ⟨gb602, _, none⟩) NB571_602.out _).trans (((cell_far (p := ⟨gb602, _, none⟩) NB571_602.out _).trans (((cell_far (p := ⟨gb602, _, none⟩) NB571_602.out _).trans (hHeld.2.2.1)))))), ((cell_far (p := ⟨gb602, _, none⟩) NB582_602.out _).trans (((cell_far (p := ⟨gb602, _, none⟩) NB582_602.out _).trans (((cell_far (p := ⟨gb602, _, none⟩) NB582_602.out _).trans (hHeld.2.2.2.1)))))), ((cell_far (p := ⟨gb602, _, none⟩) NB582_602.out _).trans (((cell_far (p := ⟨gb602, _, none⟩) NB582_602.out _).trans (((cell_far (p := ⟨gb602, _, none⟩) NB582_602.out _).trans (hHeld.2.2.2.2))))))⟩ (fun hHeld => ?_)
   clear hK K
   refine pu_ 9 11 (bs 10 1023) HT_ ?_
   refine done_ (done_of HT_.out (by kernel_rfl)) ?_
   have hnb43 := NB602_560.out
   have hnc43 := NB560_602.out
   have hnb44 := NB602_571.out
   have hnc44 := NB571_602.out
   have hnb45 := NB602_582.out
   have hnc45 := NB582_602.out
   have hcz46_0 : w36.cell? ⟨gb602, 0, none⟩ = some (.slice none 0 0) := bc_ BK602 0
   have hcz46_1 : w36.cell? ⟨gb602, 1, none⟩ = some (.slice none 0 0) := bc_ BK602 1
   have hcz46_2 : w36.cell? ⟨gb602, 2, none⟩ = some (.slice none 0 0) := bc_ BK602 2
   have hfz46_0 := blk_frozen BK602.out 0
   have hfz46_1 := blk_frozen BK602.out 1
   have hfz46_2 := blk_frozen BK602.out 2
   have hnb47 := NB571_560.out
   have hnc47 := NB560_571.out
   have hcz48_0 : w36.cell? ⟨gb571, 0, none⟩ = some (.slice Ao25 x572000_1.length co25) := bc_ BK571 0
   have hcz48_1 : w36.cell? ⟨gb571, 1, none⟩ = some (.slice Ao26 x572001_1.length co26) := bc_ BK571 1
   have hcz48_2 : w36.cell? ⟨gb571, 2, none⟩ = some (.slice Ao27 x572002_1.length co27) := bc_ BK571 2
   have hfz48_0 := blk_frozen BK571.out 0
   have hfz48_1 := blk_frozen BK571.out 1
   have hfz48_2 := blk_frozen BK571.out 2
   try go_wp2_with (first | ((with_reducible refine gate_builtin (b := .append) (xs := #[.tmp 35, .tmp 37]) rfl ?_); at_builtin; refine Kd.R_append Kd.bool (w0 := w) w.heap.size rfl (.tmp 35) (.tmp 37) 55 4 (.bool false) 1 rfl Try.underlying55 info4 rfl (by decide) (by omega) u7 x7_1 true [.bool true] (fun _ => True) (fun _ => False) rfl (by first | (go_simp; done) | (go_simp; rfl)) ?aP (fun _ hk => hk.elim) ?aF ?aO ?aB ?aS ?aL ?_; (case aP => exact rfl); (case aB => exact (hB HB)); (case aF => exact (fun _ _ => trivial)); (case aO => exact (ra (Kd.R_mono (Kd.R_far (p := ⟨gb571, 2, none⟩) (Kd.R_far (p := ⟨gb571, 1, none⟩) (Kd.R_far (p := ⟨gb571, 0, none⟩) (Kd.R_far (p := ⟨gb602, 2, none⟩) (Kd.R_far (p := ⟨gb602, 1, none⟩) (Kd.R_far (p := ⟨gb602, 0, none⟩) (Kd.R_types (Kd.R_types HO_7.out BK602.out (by decide)) BK571.out (by decide)) (fun _ hk => hk.1.2) (.slice Ao37 t592.length co37)) (fun _ hk => hk.1.2) (.slice Ao39 t595.length co39)) (fun _ hk => hk.1.2) (.slice Ao41 t598.length co41)) (fun _ hk => hk.2) (.slice Ao37 t592.length co37)) (fun _ hk => hk.2) (.slice Ao39 t595.length co39)) (fun _ hk => hk.2) (.slice Ao41 t598.length co41)) (fun _ hk => trivial)))); (case aS => exact (below_size (hB HB))); (case aL => have := LMc20.out; omega); intro v604 w49 ho hb hg hat; rw [← Ny603.out] at ho; have HO605 := Aside0.mk (ho); replace HO_572000 := Aside0.mk (Kd.R_over' (ra (Kd.R_mono (Kd.R_mono (Kd.R_far (p := ⟨gb571, 2, none⟩) (Kd.R_far (p := ⟨gb571, 1, none⟩) (Kd.R_far (p := ⟨gb571, 0, none⟩) (Kd.R_far (p := ⟨gb602, 2, none⟩) (Kd.R_far (p := ⟨gb602, 1, none⟩) (Kd.R_far (p := ⟨gb602, 0, none⟩) (Kd.R_types (Kd.R_types HO_572000.out BK602.out (by decide)) BK571.out (by decide)) (fun _ hk => hk.1.2) (.slice Ao37 t592.length co37)) (fun _ hk => hk.1.2) (.slice Ao39 t595.length co39)) (fun _ hk => hk.1.2) (.slice Ao41 t598.length co41)) (fun _ hk => hk.2) (.slice Ao37 t592.length co37)) (fun _ hk => hk.2) (.slice Ao39 t595.length co39)) (fun _ hk => hk.2) (.slice Ao41 t598.length co41)) (fun _ h_ => h_.1)) (fun _ h_ => h_.1))) (Kd.R_typed (ra (Kd.R_mono (Kd.R_mono (Kd.R_far (p := ⟨gb571, 2, none⟩) (Kd.R_far (p := ⟨gb571, 1, none⟩) (Kd.R_far (p := ⟨gb571, 0, none⟩) (Kd.R_far (p := ⟨gb602, 2, none⟩) (Kd.R_far (p := ⟨gb602, 1, none⟩) (Kd.R_far (p := ⟨gb602, 0, none⟩) (Kd.R_types (Kd.R_types HO_7.out BK602.out (by decide)) BK571.out (by decide)) (fun _ hk => hk.1.2) (.slice Ao37 t592.length co37)) (fun _ hk => hk.1.2) (.slice Ao39 t595.length co39)) (fun _ hk => hk.1.2) (.slice Ao41 t598.length co41)) (fun _ hk => hk.2) (.slice Ao37 t592.length co37)) (fun _ hk => hk.2) (.slice Ao39 t595.length co39)) (fun _ hk => hk.2) (.slice Ao41 t598.length co41)) (fun _ h_ => h_.1)) (fun _ h_ => h_.1)))) (by decide) hg); replace HO_572001 := Aside0.mk (Kd.R_over' (ra (Kd.R_mono (Kd.R_mono (Kd.R_far (p := ⟨gb571, 2, none⟩) (Kd.R_far (p := ⟨gb571, 1, none⟩) (Kd.R_far (p := ⟨gb571, 0, none⟩) (Kd.R_far (p := ⟨gb602, 2, none⟩) (Kd.R_far (p := ⟨gb602, 1, none⟩) (Kd.R_far (p := ⟨gb602, 0, none⟩) (Kd.R_types (Kd.R_types HO_572001.out BK602.out (by decide)) BK571.out (by decide)) (fun _ hk => hk.1.2) (.slice Ao37 t592.length co37)) (fun _ hk => hk.1.2) (.slice Ao39 t595.length co39)) (fun _ hk => hk.1.2) (.slice Ao41 t598.length co41)) (fun _ hk => hk.2) (.slice Ao37 t592.length co37)) (fun _ hk => hk.2) (.slice Ao39 t595.length co39)) (fun _ hk => hk.2) (.slice Ao41 t598.length co41)) (fun _ h_ => h_.1)) (fun _ h_ => h_.1))) (Kd.R_typed (ra (Kd.R_mono (Kd.R_mono (Kd.R_far (p := ⟨gb571, 2, none⟩) (Kd.R_far (p := ⟨gb571, 1, none⟩) (Kd.R_far (p := ⟨gb571, 0, none⟩) (Kd.R_far (p := ⟨gb602, 2, none⟩) (Kd.R_far (p := ⟨gb602, 1, none⟩) (Kd.R_far (p := ⟨gb602, 0, none⟩) (Kd.R_types (Kd.R_types HO_7.out BK602.out (by decide)) BK571.out (by decide)) (fun _ hk => hk.1.2) (.slice Ao37 t592.length co37)) (fun _ hk => hk.1.2) (.slice Ao39 t595.length co39)) (fun _ hk => hk.1.2) (.slice Ao41 t598.length co41)) (fun _ hk => hk.2) (.slice Ao37 t592.length co37)) (fun _ hk => hk.2) (.slice Ao39 t595.length co39)) (fun _ hk => hk.2) (.slice Ao41 t598.length co41)) (fun _ h_ => h_.1)) (fun _ h_ => h_.1)))) (by decide) hg); replace HO_572002 := Aside0.mk (Kd.R_over' (ra (Kd.R_mono (Kd.R_mono (Kd.R_far (p := ⟨gb571, 2, none⟩) (Kd.R_far (p := ⟨gb571, 1, none⟩) (Kd.R_far (p := ⟨gb571, 0, none⟩) (Kd.R_far (p := ⟨gb602, 2, none⟩) (Kd.R_far (p := ⟨gb602, 1, none⟩) (Kd.R_far (p := ⟨gb602, 0, none⟩) (Kd.R_types (Kd.R_types HO_572002.out BK602.out (by decide)) BK571.out (by decide)) (fun _ hk => hk.1.2) (.slice Ao37 t592.length co37)) (fun _ hk => hk.1.2) (.slice Ao39 t595.length co39)) (fun _ hk => hk.1.2) (.slice Ao41 t598.length co41)) (fun _ hk => hk.2) (.slice Ao37 t592.length co37)) (fun _ hk => hk.2) (.slice Ao39 t595.length co39)) (fun _ hk => hk.2) (.slice Ao41 t598.length co41)) (fun _ h_ => h_.1)) (fun _ h_ => h_.1))) (Kd.R_typed (ra (Kd.R_mono (Kd.R_mono (Kd.R_far (p := ⟨gb571, 2, none⟩) (Kd.R_far (p := ⟨gb571, 1, none⟩) (Kd.R_far (p := ⟨gb571, 0, none⟩) (Kd.R_far (p := ⟨gb602, 2, none⟩) (Kd.R_far (p := ⟨gb602, 1, none⟩) (Kd.R_far (p := ⟨gb602, 0, none⟩) (Kd.R_types (Kd.R_types HO_7.out BK602.out (by decide)) BK571.out (by decide)) (fun _ hk => hk.1.2) (.slice Ao37 t592.length co37)) (fun _ hk => hk.1.2) (.slice Ao39 t595.length co39)) (fun _ hk => hk.1.2) (.slice Ao41 t598.length co41)) (fun _ hk => hk.2) (.slice Ao37 t592.length co37)) (fun _ hk => hk.2) (.slice Ao39 t595.length co39)) (fun _ hk => hk.2) (.slice Ao41 t598.length co41)) (fun _ h_ => h_.1)) (fun _ h_ => h_.1)))) (by decide) hg); replace BK560 := Aside0.mk (blk_grown (g := gb560) (o := .cells #[.slice none 0 0, .slice none 0 0, .slice none 0 0] 35 (0, 0)) (bx BK560) hg (Kd.R_ne HO_7.out BK560.out (by decide))); replace BK582 := Aside0.mk (blk_grown (g := gb582) (o := .cells #[.int .i64 ((rd_T37 l0 x22_1).f0), .int .i64 ((rd_T37 l0 x22_1).f1)] 37 (0, 0)) (bx BK582) hg (Kd.R_ne HO_7.out BK582.out (by decide))); replace HO594 := Aside0.mk (Kd.R_over' (ra (Kd.R_mono (Kd.R_mono (Kd.R_far (p := ⟨gb571, 2, none⟩) (Kd.R_far (p := ⟨gb571, 1, none⟩) (Kd.R_far (p := ⟨gb571, 0, none⟩) (Kd.R_far (p := ⟨gb602, 2, none⟩) (Kd.R_far (p := ⟨gb602, 1, none⟩) (Kd.R_far (p := ⟨gb602, 0, none⟩) (Kd.R_types (Kd.R_types HO594.out BK602.out (by decide)) BK571.out (by decide)) (fun _ hk => hk.1.2) (.slice Ao37 t592.length co37)) (fun _ hk => hk.1.2) (.slice Ao39 t595.length co39)) (fun _ hk => hk.1.2) (.slice Ao41 t598.length co41)) (fun _ hk => hk.2) (.slice Ao37 t592.length co37)) (fun _ hk => hk.2) (.slice Ao39 t595.length co39)) (fun _ hk => hk.2) (.slice Ao41 t598.length co41)) (fun _ h_ => h_.1)) (fun _ h_ => h_.1))) (Kd.R_typed (ra (Kd.R_mono (Kd.R_mono (Kd.R_far (p := ⟨gb571, 2, none⟩) (Kd.R_far (p := ⟨gb571, 1, none⟩) (Kd.R_far (p := ⟨gb571, 0, none⟩) (Kd.R_far (p := ⟨gb602, 2, none⟩) (Kd.R_far (p := ⟨gb602, 1, none⟩) (Kd.R_far (p := ⟨gb602, 0, none⟩) (Kd.R_types (Kd.R_types HO_7.out BK602.out (by decide)) BK571.out (by decide)) (fun _ hk => hk.1.2) (.slice Ao37 t592.length co37)) (fun _ hk => hk.1.2) (.slice Ao39 t595.length co39)) (fun _ hk => hk.1.2) (.slice Ao41 t598.length co41)) (fun _ hk => hk.2) (.slice Ao37 t592.length co37)) (fun _ hk => hk.2) (.slice Ao39 t595.length co39)) (fun _ hk => hk.2) (.slice Ao41 t598.length co41)) (fun _ h_ => h_.1)) (fun _ h_ => h_.1)))) (by decide) hg); replace HO597 := Aside0.mk (Kd.R_over' (ra (Kd.R_mono (Kd.R_mono (Kd.R_far (p := ⟨gb571, 2, none⟩) (Kd.R_far (p := ⟨gb571, 1, none⟩) (Kd.R_far (p := ⟨gb571, 0, none⟩) (Kd.R_far (p := ⟨gb602, 2, none⟩) (Kd.R_far (p := ⟨gb602, 1, none⟩) (Kd.R_far (p := ⟨gb602, 0, none⟩) (Kd.R_types (Kd.R_types HO597.out BK602.out (by decide)) BK571.out (by decide)) (fun _ hk => hk.1.2) (.slice Ao37 t592.length co37)) (fun _ hk => hk.1.2) (.slice Ao39 t595.length co39)) (fun _ hk => hk.1.2) (.slice Ao41 t598.length co41)) (fun _ hk => hk.2) (.slice Ao37 t592.length co37)) (fun _ hk => hk.2) (.slice Ao39 t595.length co39)) (fun _ hk => hk.2) (.slice Ao41 t598.length co41)) (fun _ h_ => h_.1)) (fun _ h_ => h_.1))) (Kd.R_typed (ra (Kd.R_mono (Kd.R_mono (Kd.R_far (p := ⟨gb571, 2, none⟩) (Kd.R_far (p := ⟨gb571, 1, none⟩) (Kd.R_far (p := ⟨gb571, 0, none⟩) (Kd.R_far (p := ⟨gb602, 2, none⟩) (Kd.R_far (p := ⟨gb602, 1, none⟩) (Kd.R_far (p := ⟨gb602, 0, none⟩) (Kd.R_types (Kd.R_types HO_7.out BK602.out (by decide)) BK571.out (by decide)) (fun _ hk => hk.1.2) (.slice Ao37 t592.length co37)) (fun _ hk => hk.1.2) (.slice Ao39 t595.length co39)) (fun _ hk => hk.1.2) (.slice Ao41 t598.length co41)) (fun _ hk => hk.2) (.slice Ao37 t592.length co37)) (fun _ hk => hk.2) (.slice Ao39 t595.length co39)) (fun _ hk => hk.2) (.slice Ao41 t598.length co41)) (fun _ h_ => h_.1)) (fun _ h_ => h_.1)))) (by decide) hg); replace HO600 := Aside0.mk (Kd.R_over' (ra (Kd.R_mono (Kd.R_mono (Kd.R_far (p := ⟨gb571, 2, none⟩) (Kd.R_far (p := ⟨gb571, 1, none⟩) (Kd.R_far (p := ⟨gb571, 0, none⟩) (Kd.R_far (p := ⟨gb602, 2, none⟩) (Kd.R_far (p := ⟨gb602, 1, none⟩) (Kd.R_far (p := ⟨gb602, 0, none⟩) (Kd.R_types (Kd.R_types HO600.out BK602.out (by decide)) BK571.out (by decide)) (fun _ hk => hk.1.2) (.slice Ao37 t592.length co37)) (fun _ hk => hk.1.2) (.slice Ao39 t595.length co39)) (fun _ hk => hk.1.2) (.slice Ao41 t598.length co41)) (fun _ hk => hk.2) (.slice Ao37 t592.length co37)) (fun _ hk => hk.2) (.slice Ao39 t595.length co39)) (fun _ hk => hk.2) (.slice Ao41 t598.length co41)) (fun _ h_ => h_.1)) (fun _ h_ => h_.1))) (Kd.R_typed (ra (Kd.R_mono (Kd.R_mono (Kd.R_far (p := ⟨gb571, 2, none⟩) (Kd.R_far (p := ⟨gb571, 1, none⟩) (Kd.R_far (p := ⟨gb571, 0, none⟩) (Kd.R_far (p := ⟨gb602, 2, none⟩) (Kd.R_far (p := ⟨gb602, 1, none⟩) (Kd.R_far (p := ⟨gb602, 0, none⟩) (Kd.R_types (Kd.R_types HO_7.out BK602.out (by decide)) BK571.out (by decide)) (fun _ hk => hk.1.2) (.slice Ao37 t592.length co37)) (fun _ hk => hk.1.2) (.slice Ao39 t595.length co39)) (fun _ hk => hk.1.2) (.slice Ao41 t598.length co41)) (fun _ hk => hk.2) (.slice Ao37 t592.length co37)) (fun _ hk => hk.2) (.slice Ao39 t595.length co39)) (fun _ hk => hk.2) (.slice Ao41 t598.length co41)) (fun _ h_ => h_.1)) (fun _ h_ => h_.1)))) (by decide) hg); replace BK571 := Aside0.mk (blk_grown (g := gb571) (o := .cells #[.slice Ao37 t592.length co37, .slice Ao39 t595.length co39, .slice Ao41 t598.length co41] 35 (0, 0)) (by (with_reducible repeat (first | refine blk_drewN ?_ _ | refine blk_drew ?_ | refine blk_alloc ?_ _)); refine blk_put (cs := #[.slice Ao37 t592.length co37, .slice Ao39 t595.length co39, .slice Ao27 x572002_1.length co27]) ?_ 2 _ rfl; (with_reducible repeat (first | refine blk_drewN ?_ _ | refine blk_drew ?_ | refine blk_alloc ?_ _)); refine blk_put (cs := #[.slice Ao37 t592.length co37, .slice Ao26 x572001_1.length co26, .slice Ao27 x572002_1.length co27]) ?_ 1 _ rfl; (with_reducible repeat (first | refine blk_drewN ?_ _ | refine blk_drew ?_ | refine blk_alloc ?_ _)); refine blk_put (cs := #[.slice Ao25 x572000_1.length co25, .slice Ao26 x572001_1.length co26, .slice Ao27 x572002_1.length co27]) ?_ 0 _ rfl; (with_reducible repeat (first | refine blk_drewN ?_ _ | refine blk_drew ?_ | refine blk_alloc ?_ _)); refine blk_far ?_ NB571_602.out _; (with_reducible repeat (first | refine blk_drewN ?_ _ | refine blk_drew ?_ | refine blk_alloc ?_ _)); refine blk_far ?_ NB571_602.out _; (with_reducible repeat (first | refine blk_drewN ?_ _ | refine blk_drew ?_ | refine blk_alloc ?_ _)); refine blk_far ?_ NB571_602.out _; (with_reducible repeat (first | refine blk_drewN ?_ _ | refine blk_drew ?_ | refine blk_alloc ?_ _)); exact BK571.out) hg (Kd.R_ne HO_7.out BK571.out (by decide))); replace BK602 := Aside0.mk (blk_grown (g := gb602) (o := .cells #[.slice Ao37 t592.length co37, .slice Ao39 t595.length co39, .slice Ao41 t598.length co41] 35 (0, 0)) (by (with_reducible repeat (first | refine blk_drewN ?_ _ | refine blk_drew ?_ | refine blk_alloc ?_ _)); refine blk_far ?_ NB602_571.out _; (with_reducible repeat (first | refine blk_drewN ?_ _ | refine blk_drew ?_ | refine blk_alloc ?_ _)); refine blk_far ?_ NB602_571.out _; (with_reducible repeat (first | refine blk_drewN ?_ _ | refine blk_drew ?_ | refine blk_alloc ?_ _)); refine blk_far ?_ NB602_571.out _; (with_reducible repeat (first | refine blk_drewN ?_ _ | refine blk_drew ?_ | refine blk_alloc ?_ _)); refine blk_put (cs := #[.slice Ao37 t592.length co37, .slice Ao39 t595.length co39, .slice none 0 0]) ?_ 2 _ rfl; (with_reducible repeat (first | refine blk_drewN ?_ _ | refine blk_drew ?_ | refine blk_alloc ?_ _)); refine blk_put (cs := #[.slice Ao37 t592.length co37, .slice none 0 0, .slice none 0 0]) ?_ 1 _ rfl; (with_reducible repeat (first | refine blk_drewN ?_ _ | refine blk_drew ?_ | refine blk_alloc ?_ _)); refine blk_put (cs := #[.slice none 0 0, .slice none 0 0, .slice none 0 0]) ?_ 0 _ rfl; (with_reducible repeat (first | refine blk_drewN ?_ _ | refine blk_drew ?_ | refine blk_alloc ?_ _)); exact BK602.out) hg (Kd.R_ne HO_7.out BK602.out (by decide))); replace HB := Aside0.mk (hb); clear HO_7; clear ho hb hg hat))
   go_roundg k1
   case measure => have := HK1.out; omega
   case rel => exact ⟨(y603), (wrap64 (x22_1 + 1)), (t592), (t595), (t598), (.slice Ao37 t592.length co37), (.slice Ao39 t595.length co39), (.slice Ao41 t598.length co41), (by first | rfl | (simp; done) | (simp [*]; done)), H', ⟨by have := HK1.out; omega⟩, ⟨ra HO605.out⟩, rm_ HO594 (fun _ hk => hk.1), rm_ HO597 (fun _ hk => hk.1), rm_ HO600 (fun _ hk => trivial), ⟨by (with_reducible repeat (first | refine blk_drewN ?_ _ | refine blk_drew ?_ | refine blk_alloc ?_ _)); exact BK560.out⟩, ⟨by (with_reducible repeat (first | refine blk_drewN ?_ _ | refine blk_drew ?_ | refine blk_alloc ?_ _)); exact BK571.out⟩, ⟨hB HB⟩⟩

end Go.Proofs.Ytfkjnpgpofcinaa.P
