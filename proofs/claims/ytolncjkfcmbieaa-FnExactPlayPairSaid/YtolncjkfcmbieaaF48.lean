import Derived.Test.YtolncjkfcmbieaaF0
import Derived.Test.YtolncjkfcmbieaaF34
import Derived.Test.YtolncjkfcmbieaaF35
import Derived.Test.YtolncjkfcmbieaaF47
namespace Go.Proofs.Ytolncjkfcmbieaa.P
open Go.RowKit Go.Proofs.YtolncjkfcmbieaaW.PrintWords Go.Proofs.YtolncjkfcmbieaaW.PrintLast Go.Proofs.YtolncjkfcmbieaaW.PrintMore
attribute [local go_sem] max2_int min2_int max_two min_two max_three min_three max_four min_four   -- for this text's walks alone
set_option linter.unusedVariables false
set_option linter.unusedSimpArgs false

def spec_PlayPair.l0 : Nat → List Bool → List (S51) → Int → Int → List Int → List Int → List (S127) → Option (List Int × List Int × (List (S127)) × List Bool × Bool)
 | 0, _, _, _, _, _, _, _ => none
 | k + 1, x7, x20, x21, x22, x1386000, x1386001, x1386002 => if x22 < x21 then (if 0 ≤ x22 then (if x22 < (x20.length : Int) then ((spec_l3Own.f x1386000 x1386001 x1386002).bind fun bt1397 => ((spec_l3Step.f k bt1397.1 bt1397.2.1 bt1397.2.2 ((rd_T51 x20 x22).f0) ((rd_T51 x20 x22).f1)).bind fun bt1406 => (if bt1406.2.2.2 = true then (if x7.length < 140737488355328 then (spec_PlayPair.l0 k (x7 ++ [bt1406.2.2.2]) x20 x21 (wrap64 (x22 + 1)) bt1406.1 bt1406.2.1 bt1406.2.2.1) else (none)) else (if x7.length < 140737488355328 then (spec_PlayPair.l0 k (x7 ++ [bt1406.2.2.2]) x20 x21 (wrap64 (x22 + 1)) x1386000 x1386001 x1386002) else (none))))) else (none)) else (none)) else ((spec_l3Own.f x1386000 x1386001 x1386002).bind fun bt1386 => (some (bt1386.1, bt1386.2.1, bt1386.2.2, x7, true)))
def spec_PlayPair.f (k : Nat) (l0 : List (S51)) : Option (List Int × List Int × (List (S127)) × List Bool × Bool) := if (l0.length : Int) > 60 then (some (([] : List Int), ([] : List Int), ([] : List (S127)), ([] : List Bool), false)) else ((spec_NewPair.f 0).bind fun bt1375 => (spec_PlayPair.l0 k ([] : List Bool) l0 (l0.length : Int) 0 bt1375.1 bt1375.2.1 bt1375.2.2.1))
theorem spec_PlayPair.mono_l : ∀ k, (∀ y0 y1 y2 y3 y4 y5 y6, LeO (spec_PlayPair.l0 k y0 y1 y2 y3 y4 y5 y6) (spec_PlayPair.l0 (k + 1) y0 y1 y2 y3 y4 y5 y6))
 | 0 => fun _ _ _ _ _ _ _ r h => by simp [spec_PlayPair.l0] at h
 | k + 1 => by
  have ih0 := spec_PlayPair.mono_l k
  ·intro y0 y1 y2 y3 y4 y5 y6
   unfold spec_PlayPair.l0
   repeat' first
   | (with_reducible exact ih0 _ _ _ _ _ _ _)
   | (with_reducible exact spec_l3Step.mono _ _ _ _ _ _)
   | (with_reducible exact LeO.refl _)
   | (with_reducible exact LeO.none _)
   | (with_reducible refine LeO.ite ?_ ?_)
   | (with_reducible refine LeO.bind ?_ (fun _ => ?_))
theorem spec_PlayPair.mono : ∀ a0 k, LeO (spec_PlayPair.f k a0) (spec_PlayPair.f (k + 1) a0) := by
 intro a0 k
 have ih0 := spec_PlayPair.mono_l k
 unfold spec_PlayPair.f
 repeat' first
   | (with_reducible exact ih0 _ _ _ _ _ _ _)
   | (with_reducible exact spec_l3Step.mono _ _ _ _ _ _)
   | (with_reducible exact LeO.refl _)
   | (with_reducible exact LeO.none _)
   | (with_reducible refine LeO.ite ?_ ?_)
   | (with_reducible refine LeO.bind ?_ (fun _ => ?_))
def spec_PlayPair.T8 : Bool × List (List Nat × List Nat) := (true, [([], []), ([0], [0]), ([], []), ([1, 2, 1], [1, 2]), ([3], [3]), ([4], [4]), ([4], [4]), ([], []), ([7, 5, 3, 0, 1, 2, 3, 4, 5, 7], [5, 7]), ([6, 8, 0, 1, 2, 3, 4, 5, 6, 7, 8], [6])])
def spec_PlayPair.B8 : List Nat := [0, 1, 0, 7, 15, 31, 31, 0, 191, 511]
theorem spec_PlayPair.tab8 : rtab .any (opsOf Try.f54 8) = spec_PlayPair.T8 := by kernel_rfl
theorem spec_PlayPair.bits8 : waitsOk spec_PlayPair.T8.2 spec_PlayPair.B8 = true := by kernel_rfl
set_option maxHeartbeats 8000000 in
set_option maxRecDepth 100000 in
theorem spec_PlayPair.calls (k : Nat) (A0 : Option Addr) (c0 : Nat) (l0 : List (S51)) (r1 : List Int) (r2 : List Int) (r3 : List (S127)) (r4 : List Bool) (r5 : Bool) (w : World) (hr0 : Kd.C k51 w A0 l0.length l0) (hc0 : l0.length ≤ c0) (h : spec_PlayPair.f k l0 = some (r1, r2, r3, r4, r5)) :
  Calls Try.prog 54 #[.slice A0 l0.length c0] w fun e w' => ∃ v0_ v1_ v2_ v3_ : Value, e = .returned (.tuple #[.agg #[v0_, v1_, v2_], v3_, .bool r5]) ∧ Kd.R (Kd.int .i64) 3 w' w.heap.size (fun k_ => no_ v1_ k_) v0_ r1 ∧ Kd.R (Kd.int .i64) 3 w' w.heap.size (fun k_ => no_ v0_ k_) v1_ r2 ∧ Kd.R k127 127 w' w.heap.size (fun _ => True) v2_ r3 ∧ Kd.R Kd.bool 4 w' w.heap.size (fun _ => True) v3_ r4 ∧ Below w.heap.size w w' := by
 have hu47 := Try.underlying47
 have hu51 := Try.underlying51
 have HR0 := Aside0.mk hr0
 have HC0 := Aside0.mk hc0
 clear hr0 hc0
 have HB := Aside0.mk (Below.refl w.heap.size w)
 have H : (if (l0.length : Int) > 60 then (some (([] : List Int), ([] : List Int), ([] : List (S127)), ([] : List Bool), false)) else ((spec_NewPair.f 0).bind fun bt1375 => (spec_PlayPair.l0 k ([] : List Bool) l0 (l0.length : Int) 0 bt1375.1 bt1375.2.1 bt1375.2.2.1))) = some (r1, r2, r3, r4, r5) := h
 clear h
 by_cases c2 : (l0.length : Int) > 60
 ·rw [if_pos c2] at H
  have c2b0 : decide (60 < (l0.length : Int)) = true := decide_eq_true c2
  have c2b1 : decide (60 < l0.length) = true := decide_eq_true (by omega)
  clear c2
  simp only [Option.some.injEq, Prod.mk.injEq] at H
  obtain ⟨rfl, rfl, rfl, rfl, rfl⟩ := H
  go_enter Try.func54, Try.ntmps54
  go_wp2_with (first | ((with_reducible refine gate_dst (N := 2) rfl ?_); refine box_event ?hg (N := 2) ?hd (cs := #[.slice none 0 0, .slice none 0 0, .slice none 0 0]) (t := 47) ?hr ?_; (case hd => rfl); (case hg => rfl); (case hr => first | (go_simp; done) | (go_simp; rfl)); intro gb1374 hg w3 hbox hb; have BK1374 := Aside0.mk (hbox); have GW1374 := gw_ hg HB; have GE1374 := gw_ hg HB; replace HB := bst_ HB hb; clear hb hbox hg; have hcz4_0 : w3.cell? ⟨gb1374, 0, none⟩ = some (.slice none 0 0) := bc_ BK1374 0; have hcz4_1 : w3.cell? ⟨gb1374, 1, none⟩ = some (.slice none 0 0) := bc_ BK1374 1; have hcz4_2 : w3.cell? ⟨gb1374, 2, none⟩ = some (.slice none 0 0) := bc_ BK1374 2; have hfz4_0 := blk_frozen BK1374.out 0; have hfz4_1 := blk_frozen BK1374.out 1; have hfz4_2 := blk_frozen BK1374.out 2))
  refine bodyPost_ret (results_ctt rfl _ _ gb1374 47 #[.slice none 0 0, .slice none 0 0, .slice none 0 0] (0, 0) _ rfl (by (with_reducible repeat (first | refine blk_drewN ?_ _ | refine blk_drew ?_ | refine blk_alloc ?_ _)); refine blk_put (cs := #[.slice none 0 0, .slice none 0 0, .slice none 0 0]) ?_ 2 _ rfl; (with_reducible repeat (first | refine blk_drewN ?_ _ | refine blk_drew ?_ | refine blk_alloc ?_ _)); refine blk_put (cs := #[.slice none 0 0, .slice none 0 0, .slice none 0 0]) ?_ 1 _ rfl; (with_reducible repeat (first | refine blk_drewN ?_ _ | refine blk_drew ?_ | refine blk_alloc ?_ _)); refine blk_put (cs := #[.slice none 0 0, .slice none 0 0, .slice none 0 0]) ?_ 0 _ rfl; (with_reducible repeat (first | refine blk_drewN ?_ _ | refine blk_drew ?_ | refine blk_alloc ?_ _)); exact BK1374.out) Try.underlying47 rfl (by kernel_rfl)) rfl ?_
  exact ⟨_, _, _, _, by first | rfl | (simp [errW_none, errW_some] <;> rfl) | (simp [*, errW_none, errW_some] <;> rfl), by first | exact Kd.R_nil _ _ _ _ _ | exact Kd.N_nil _ _ _ _ _ | exact Kd.V_nil _ _ _ _ _ | exact Kd.Q_nil _ _ _ _ _ | exact Kd.S_nil _ _ _ _ _, by first | exact Kd.R_nil _ _ _ _ _ | exact Kd.N_nil _ _ _ _ _ | exact Kd.V_nil _ _ _ _ _ | exact Kd.Q_nil _ _ _ _ _ | exact Kd.S_nil _ _ _ _ _, by first | exact Kd.R_nil _ _ _ _ _ | exact Kd.N_nil _ _ _ _ _ | exact Kd.V_nil _ _ _ _ _ | exact Kd.Q_nil _ _ _ _ _ | exact Kd.S_nil _ _ _ _ _, by first | exact Kd.R_nil _ _ _ _ _ | exact Kd.N_nil _ _ _ _ _ | exact Kd.V_nil _ _ _ _ _ | exact Kd.Q_nil _ _ _ _ _ | exact Kd.S_nil _ _ _ _ _, by repeat (first | (with_reducible first | exact HB.out | apply below_alloc | apply pw_below_drewN | apply below_drew1 | refine below_set ?_ GE1374.out) | exact HB.out)⟩
 rw [if_neg c2] at H
 have c2b0 : decide (60 < (l0.length : Int)) = false := decide_eq_false c2
 have c2b1 : decide (60 < l0.length) = false := decide_eq_false (by omega)
 clear c2
 replace H := Option.bind_eq_some_iff.mp H
 obtain ⟨⟨t1375, t1378, t1381, t1384⟩, A50, H⟩ := H
 replace H : (spec_PlayPair.l0 k ([] : List Bool) l0 (l0.length : Int) 0 t1375 t1378 t1381) = some (r1, r2, r3, r4, r5) := H
 have A5 := Aside0.mk A50
 clear A50
 have H' := Aside0.mk H
 clear H
 go_enter Try.func54, Try.ntmps54
 go_wp2_with (first | ((with_reducible refine gate_dst (N := 2) rfl ?_); refine box_event ?hg (N := 2) ?hd (cs := #[.slice none 0 0, .slice none 0 0, .slice none 0 0]) (t := 47) ?hr ?_; (case hd => rfl); (case hg => rfl); (case hr => first | (go_simp; done) | (go_simp; rfl)); intro gb1374 hg w6 hbox hb; have BK1374 := Aside0.mk (hbox); have GW1374 := gw_ hg HB; have GE1374 := gw_ hg HB; replace HB := bst_ HB hb; clear hb hbox hg) | ((with_reducible refine gate_callee (f := 122) rfl ?_); refine goesL_ (some 17) rfl rfl Try.func122 (by kernel_rfl) rfl #[.int .i64 0] rfl tm_ ?_; (with_reducible refine (spec_NewPair.calls 0 t1375 t1378 t1381 t1384 _ A5.out).mono ?_); rintro e w7 ⟨v1376, v1379, v1382, rfl, ho0, ho1, ho2, hb⟩; refine ⟨_, rfl, ?_⟩; have HO1377 := Aside0.mk (Kd.R_lower ho0 (below_size (hB HB))); have HO1380 := Aside0.mk (Kd.R_lower ho1 (below_size (hB HB))); have HO1383 := Aside0.mk (Kd.R_lower ho2 (below_size (hB HB))); replace BK1374 := bb_ BK1374 hb; replace HB := bst_ HB hb; clear hb ho0 ho1 ho2) | ((with_reducible refine gate_dst (N := 5) rfl ?_); refine box_event ?hg (N := 5) ?hd (cs := #[.slice none 0 0, .slice none 0 0, .slice none 0 0]) (t := 47) ?hr ?_; (case hd => rfl); (case hg => rfl); (case hr => first | (go_simp; done) | (go_simp; rfl)); intro gb1385 hg w8 hbox hb; have BK1385 := Aside0.mk (hbox); have GW1385 := gw_ hg HB; have GE1385 := gw_ hg HB; have NB1374_1385 := nl_ hg BK1374; have NB1385_1374 := ng_ hg BK1374; replace HO1377 := rb_ HO1377 hb; replace HO1380 := rb_ HO1380 hb; replace HO1383 := rb_ HO1383 hb; replace BK1374 := bb_ BK1374 hb; replace HB := bst_ HB hb; clear hb hbox hg; obtain ⟨Ao9, co9, eo9⟩ := Kd.R_slice HO1377.out; subst eo9; have hnb10 := NB1385_1374.out; have hnc10 := NB1374_1385.out; have hcz11_0 : w8.cell? ⟨gb1385, 0, none⟩ = some (.slice none 0 0) := bc_ BK1385 0; have hcz11_1 : w8.cell? ⟨gb1385, 1, none⟩ = some (.slice none 0 0) := bc_ BK1385 1; have hcz11_2 : w8.cell? ⟨gb1385, 2, none⟩ = some (.slice none 0 0) := bc_ BK1385 2; have hfz11_0 := blk_frozen BK1385.out 0; have hfz11_1 := blk_frozen BK1385.out 1; have hfz11_2 := blk_frozen BK1385.out 2; obtain ⟨Ao12, co12, eo12⟩ := Kd.R_slice HO1380.out; subst eo12; obtain ⟨Ao13, co13, eo13⟩ := Kd.R_slice HO1383.out; subst eo13))
 go_loopg [7, 22] k (fun kq v7 v22 w' => ∃ (x7_1 : List Bool) (x22_1 : Int) (x1386000_1 : List Int) (x1386001_1 : List Int) (x1386002_1 : List (S127)) (u1386000 : Value) (u1386001 : Value) (u1386002 : Value), v22 = .int .i64 x22_1 ∧ Aside0 (spec_PlayPair.l0 kq x7_1 l0 (l0.length : Int) x22_1 x1386000_1 x1386001_1 x1386002_1 = some (r1, r2, r3, r4, r5)) ∧ Aside0 (kq ≤ k) ∧ Aside0 (Kd.R Kd.bool 4 w' w.heap.size (fun _ => True) v7 x7_1) ∧ Aside0 (Kd.R (Kd.int .i64) 3 w' w.heap.size (fun k_ => some k_ ≠ (u1386001 : Value).ownBlock) u1386000 x1386000_1) ∧ Aside0 (Kd.R (Kd.int .i64) 3 w' w.heap.size (fun k_ => some k_ ≠ (u1386000 : Value).ownBlock) u1386001 x1386001_1) ∧ Aside0 (Kd.R k127 127 w' w.heap.size (fun _ => True) u1386002 x1386002_1) ∧ Aside0 (w'.heap[gb1374]? = some (.cells #[(.slice none 0 0), (.slice none 0 0), (.slice none 0 0)] 47 (0, 0))) ∧ Aside0 (w'.heap[gb1385]? = some (.cells #[u1386000, u1386001, u1386002] 47 (0, 0))) ∧ Aside0 (Below w.heap.size w w'))
 case atStart => exact ⟨(([] : List Bool)), (0), (t1375), (t1378), (t1381), (.slice Ao9 t1375.length co9), (.slice Ao12 t1378.length co12), (.slice Ao13 t1381.length co13), (by first | rfl | (simp; done) | (simp [*]; done)), H', ⟨Nat.le_refl _⟩, ⟨by first | exact Kd.R_nil _ _ _ _ _ | exact Kd.N_nil _ _ _ _ _ | exact Kd.V_nil _ _ _ _ _ | exact Kd.Q_nil _ _ _ _ _ | exact Kd.S_nil _ _ _ _ _⟩, ⟨by (with_reducible repeat (first | apply Kd.R_alloc | apply Kd.R_drewN | apply Kd.R_drew)); exact Kd.R_mono (fs3_ HO1377.out BK1385.out) (fun _ hk => hk.1)⟩, ⟨by (with_reducible repeat (first | apply Kd.R_alloc | apply Kd.R_drewN | apply Kd.R_drew)); exact Kd.R_mono (fs3_ HO1380.out BK1385.out) (fun _ hk => hk.1)⟩, ⟨by (with_reducible repeat (first | apply Kd.R_alloc | apply Kd.R_drewN | apply Kd.R_drew)); exact Kd.R_mono (fs3_ HO1383.out BK1385.out) (fun _ hk => trivial)⟩, ⟨by (with_reducible repeat (first | refine blk_drewN ?_ _ | refine blk_drew ?_ | refine blk_alloc ?_ _)); refine blk_far ?_ NB1374_1385.out _; (with_reducible repeat (first | refine blk_drewN ?_ _ | refine blk_drew ?_ | refine blk_alloc ?_ _)); refine blk_far ?_ NB1374_1385.out _; (with_reducible repeat (first | refine blk_drewN ?_ _ | refine blk_drew ?_ | refine blk_alloc ?_ _)); refine blk_far ?_ NB1374_1385.out _; (with_reducible repeat (first | refine blk_drewN ?_ _ | refine blk_drew ?_ | refine blk_alloc ?_ _)); exact BK1374.out⟩, ⟨by (with_reducible repeat (first | refine blk_drewN ?_ _ | refine blk_drew ?_ | refine blk_alloc ?_ _)); refine blk_put (cs := #[.slice Ao9 t1375.length co9, .slice Ao12 t1378.length co12, .slice none 0 0]) ?_ 2 _ rfl; (with_reducible repeat (first | refine blk_drewN ?_ _ | refine blk_drew ?_ | refine blk_alloc ?_ _)); refine blk_put (cs := #[.slice Ao9 t1375.length co9, .slice none 0 0, .slice none 0 0]) ?_ 1 _ rfl; (with_reducible repeat (first | refine blk_drewN ?_ _ | refine blk_drew ?_ | refine blk_alloc ?_ _)); refine blk_put (cs := #[.slice none 0 0, .slice none 0 0, .slice none 0 0]) ?_ 0 _ rfl; (with_reducible repeat (first | refine blk_drewN ?_ _ | refine blk_drew ?_ | refine blk_alloc ?_ _)); exact BK1385.out⟩, ⟨hB HB⟩⟩
 case round =>
  clear H'
  try clear c2
  try clear c2b0
  try clear c2b1
  try clear hcz11_0
  try clear hcz11_1
  try clear hcz11_2
  try clear hfz11_0
  try clear hfz11_1
  try clear hfz11_2
  obtain ⟨x7_1, x22_1, x1386000_1, x1386001_1, x1386002_1, u1386000, u1386001, u1386002, rfl, HA, HK1, HO_7, HO_1386000, HO_1386001, HO_1386002, BK1374, BK1385, HB⟩ := hrel
  cases gk with
  | zero => exact absurd HA.out (by simp [spec_PlayPair.l0])
  | succ k1 =>
   have H := HA.out
   clear HA
   simp only [spec_PlayPair.l0] at H
   by_cases c14 : x22_1 < (l0.length : Int)
   rotate_left
   ·rw [if_neg c14] at H
    have c14b0 : decide (x22_1 < (l0.length : Int)) = false := decide_eq_false c14
    clear c14
    replace H := Option.bind_eq_some_iff.mp H
    obtain ⟨⟨t1386, t1389, t1392⟩, A740, H⟩ := H
    replace H : (some (t1386, t1389, t1392, x7_1, true)) = some (r1, r2, r3, r4, r5) := H
    have A74 := Aside0.mk A740
    clear A740
    simp only [Option.some.injEq, Prod.mk.injEq] at H
    obtain ⟨rfl, rfl, rfl, rfl, rfl⟩ := H
    have hnb75 := NB1385_1374.out
    have hnc75 := NB1374_1385.out
    have hcz76_0 : wr.cell? ⟨gb1385, 0, none⟩ = some (u1386000) := bc_ BK1385 0
    have hcz76_1 : wr.cell? ⟨gb1385, 1, none⟩ = some (u1386001) := bc_ BK1385 1
    have hcz76_2 : wr.cell? ⟨gb1385, 2, none⟩ = some (u1386002) := bc_ BK1385 2
    have hfz76_0 := blk_frozen BK1385.out 0
    have hfz76_1 := blk_frozen BK1385.out 1
    have hfz76_2 := blk_frozen BK1385.out 2
    obtain ⟨Ao77, co77, eo77⟩ := Kd.R_slice HO_1386000.out
    subst eo77
    obtain ⟨Ao78, co78, eo78⟩ := Kd.R_slice HO_1386001.out
    subst eo78
    obtain ⟨Ao79, co79, eo79⟩ := Kd.R_slice HO_1386002.out
    subst eo79
    go_wp2_with (first | ((with_reducible refine gate_callee (f := 88) rfl ?_); refine goesL_ (some 41) rfl rfl Try.func88 (by kernel_rfl) rfl #[.agg #[.slice Ao77 x1386000_1.length co77, .slice Ao78 x1386001_1.length co78, .slice Ao79 x1386002_1.length co79]] rfl tm_ ?_; (with_reducible refine (spec_l3Own.calls _ _ x1386000_1 _ _ x1386001_1 _ _ x1386002_1 t1386 t1389 t1392 _ ?side1 ?side2 ?side3 ?side4 ?side5 ?side6 A74.out).mono ?_); (case side1 => exact ca (Kd.R_reads' HO_1386000.out).2.2); (case side2 => exact (Kd.R_reads' HO_1386000.out).2.1); (case side3 => exact ca (Kd.R_reads' HO_1386001.out).2.2); (case side4 => exact (Kd.R_reads' HO_1386001.out).2.1); (case side5 => exact ca (Kd.R_reads' HO_1386002.out).2.2); (case side6 => exact (Kd.R_reads' HO_1386002.out).2.1); rintro e w80 ⟨v1387, v1390, v1393, rfl, ho0, ho1, ho2, hb⟩; refine ⟨_, rfl, ?_⟩; have HO1388 := Aside0.mk (Kd.R_lower (Kd.R_new' (Kd.R_new' ho0 (rl_ HO_1386000)) (rl_ HO_1386001)) (below_size (hB HB))); have HO1391 := Aside0.mk (Kd.R_lower (Kd.R_new' (Kd.R_new' ho1 (rl_ HO_1386000)) (rl_ HO_1386001)) (below_size (hB HB))); have HO1394 := Aside0.mk (Kd.R_lower (Kd.R_new' ho2 (rl_ HO_1386002)) (below_size (hB HB))); replace HO_7 := rb_ HO_7 hb; replace HO_1386000 := rt2_ HO_1386000 hb ho0 ho1; replace HO_1386001 := rt2_ HO_1386001 hb ho0 ho1; replace HO_1386002 := re_ HO_1386002 ho2 hb; replace BK1374 := bb_ BK1374 hb; replace BK1385 := bb_ BK1385 hb; replace HB := bst_ HB hb; clear hb ho0 ho1 ho2; obtain ⟨Ao81, co81, eo81⟩ := Kd.R_slice HO1388.out; subst eo81; have hcz82_0 : w80.cell? ⟨gb1374, 0, none⟩ = some (.slice none 0 0) := bc_ BK1374 0; have hcz82_1 : w80.cell? ⟨gb1374, 1, none⟩ = some (.slice none 0 0) := bc_ BK1374 1; have hcz82_2 : w80.cell? ⟨gb1374, 2, none⟩ = some (.slice none 0 0) := bc_ BK1374 2; have hfz82_0 := blk_frozen BK1374.out 0; have hfz82_1 := blk_frozen BK1374.out 1; have hfz82_2 := blk_frozen BK1374.out 2; obtain ⟨Ao83, co83, eo83⟩ := Kd.R_slice HO1391.out; subst eo83; obtain ⟨Ao84, co84, eo84⟩ := Kd.R_slice HO1394.out; subst eo84))
    refine bodyPost_ret (results_ctt rfl _ _ gb1374 47 #[.slice Ao81 t1386.length co81, .slice Ao83 t1389.length co83, .slice Ao84 t1392.length co84] (0, 0) _ rfl (by (with_reducible repeat (first | refine blk_drewN ?_ _ | refine blk_drew ?_ | refine blk_alloc ?_ _)); refine blk_put (cs := #[.slice Ao81 t1386.length co81, .slice Ao83 t1389.length co83, .slice none 0 0]) ?_ 2 _ rfl; (with_reducible repeat (first | refine blk_drewN ?_ _ | refine blk_drew ?_ | refine blk_alloc ?_ _)); refine blk_put (cs := #[.slice Ao81 t1386.length co81, .slice none 0 0, .slice none 0 0]) ?_ 1 _ rfl; (with_reducible repeat (first | refine blk_drewN ?_ _ | refine blk_drew ?_ | refine blk_alloc ?_ _)); refine blk_put (cs := #[.slice none 0 0, .slice none 0 0, .slice none 0 0]) ?_ 0 _ rfl; (with_reducible repeat (first | refine blk_drewN ?_ _ | refine blk_drew ?_ | refine blk_alloc ?_ _)); exact BK1374.out) Try.underlying47 rfl (by kernel_rfl)) rfl ?_
    exact ⟨_, _, _, _, by first | rfl | (simp [errW_none, errW_some] <;> rfl) | (simp [*, errW_none, errW_some] <;> rfl), by (with_reducible repeat (first | apply Kd.R_alloc | apply Kd.R_drewN | apply Kd.R_drew)); exact Kd.R_mono (fs3_ HO1388.out BK1374.out) (fun _ hk => hk.1.1.1), by (with_reducible repeat (first | apply Kd.R_alloc | apply Kd.R_drewN | apply Kd.R_drew)); exact Kd.R_mono (fs3_ HO1391.out BK1374.out) (fun _ hk => hk.1.1.1), by (with_reducible repeat (first | apply Kd.R_alloc | apply Kd.R_drewN | apply Kd.R_drew)); exact Kd.R_mono (fs3_ HO1394.out BK1374.out) (fun _ hk => trivial), by (with_reducible repeat (first | apply Kd.R_alloc | apply Kd.R_drewN | apply Kd.R_drew)); exact Kd.R_mono (fs3_ HO_7.out BK1374.out) (fun _ hk => trivial), by repeat (first | (with_reducible first | exact HB.out | apply below_alloc | apply pw_below_drewN | apply below_drew1 | refine below_set ?_ GE1374.out | refine below_set ?_ GE1385.out) | exact HB.out)⟩
   rw [if_pos c14] at H
   have c14b0 : decide (x22_1 < (l0.length : Int)) = true := decide_eq_true c14
   clear c14
   by_cases c15 : 0 ≤ x22_1
   rotate_left
   ·rw [if_neg c15] at H
    exact absurd H (by simp)
   rw [if_pos c15] at H
   have c15b0 : decide (0 ≤ x22_1) = true := decide_eq_true c15
   clear c15
   by_cases c16 : x22_1 < (l0.length : Int)
   rotate_left
   ·rw [if_neg c16] at H
    exact absurd H (by simp)
   rw [if_pos c16] at H
   have c16b0 : decide (x22_1 < (l0.length : Int)) = true := decide_eq_true c16
   clear c16
   replace H := Option.bind_eq_some_iff.mp H
   obtain ⟨⟨t1397, t1400, t1403⟩, A170, H⟩ := H
   replace H : ((spec_l3Step.f k1 t1397 t1400 t1403 ((rd_T51 l0 x22_1).f0) ((rd_T51 l0 x22_1).f1)).bind fun bt1406 => (if bt1406.2.2.2 = true then (if x7_1.length < 140737488355328 then (spec_PlayPair.l0 k1 (x7_1 ++ [bt1406.2.2.2]) l0 (l0.length : Int) (wrap64 (x22_1 + 1)) bt1406.1 bt1406.2.1 bt1406.2.2.1) else (none)) else (if x7_1.length < 140737488355328 then (spec_PlayPair.l0 k1 (x7_1 ++ [bt1406.2.2.2]) l0 (l0.length : Int) (wrap64 (x22_1 + 1)) x1386000_1 x1386001_1 x1386002_1) else (none)))) = some (r1, r2, r3, r4, r5) := H
   have A17 := Aside0.mk A170
   clear A170
   replace H := Option.bind_eq_some_iff.mp H
   obtain ⟨⟨t1406, t1409, t1412, t1415⟩, A180, H⟩ := H
   replace H : (if t1415 = true then (if x7_1.length < 140737488355328 then (spec_PlayPair.l0 k1 (x7_1 ++ [t1415]) l0 (l0.length : Int) (wrap64 (x22_1 + 1)) t1406 t1409 t1412) else (none)) else (if x7_1.length < 140737488355328 then (spec_PlayPair.l0 k1 (x7_1 ++ [t1415]) l0 (l0.length : Int) (wrap64 (x22_1 + 1)) x1386000_1 x1386001_1 x1386002_1) else (none))) = some (r1, r2, r3, r4, r5) := H
   have A18 := Aside0.mk A180
   clear A180
   by_cases c19 : t1415 = true
   rotate_left
   ·replace c19 := Bool.eq_false_iff.mpr c19
    subst c19
    rw [if_neg (show ¬ (false = true) by decide)] at H
    by_cases c50 : x7_1.length < 140737488355328
    rotate_left
    ·rw [if_neg c50] at H
     exact absurd H (by simp)
    rw [if_pos c50] at H
    have LMc50 := Aside0.mk c50
    clear c50
    obtain ⟨y1420, hy1420⟩ : ∃ y_ : List Bool, y_ = (x7_1 ++ [false]) := ⟨_, rfl⟩
    replace H : (spec_PlayPair.l0 k1 y1420 l0 (l0.length : Int) (wrap64 (x22_1 + 1)) x1386000_1 x1386001_1 x1386002_1) = some (r1, r2, r3, r4, r5) := by first | (rw [hy1420]; with_reducible exact H) | (have H2_ := (Option.bind_some _ _).symm.trans H; rw [hy1420]; with_reducible exact H2_) | (have H2_ := (Option.bind_some _ _).symm.trans H; with_reducible exact H2_) | with_reducible exact H | (rw [hy1420]; exact H) | exact H
    have Ny1420 := Aside0.mk hy1420
    clear hy1420
    have H' := Aside0.mk H
    clear H
    have p1395 : 0 ≤ (x22_1 : Int) := of_decide_eq_true (by first | (with_reducible assumption) | assumption)
    have q1395 : x22_1 < (l0.length : Int) := of_decide_eq_true (by first | (with_reducible assumption) | assumption)
    obtain ⟨ad1395, e1395, hx1395_0, hx1395_1⟩ := at_T51 HR0.out x22_1 p1395 q1395
    cases e1395
    replace hx1395_0 := (HB.out.cell (World.block_lt_of_cell? w _ hx1395_0)).trans hx1395_0
    replace hx1395_1 := (HB.out.cell (World.block_lt_of_cell? w _ hx1395_1)).trans hx1395_1
    replace p1395 := eq_true p1395
    replace q1395 := eq_true q1395
    try go_wp2_with (first | ((with_reducible refine gate_dst (N := 9) rfl ?_); refine box_event ?hg (N := 9) ?hd (cs := #[.int .i64 0, .int .i64 0]) (t := 51) ?hr ?_; (case hd => rfl); (case hg => rfl); (case hr => first | (go_simp; done) | (go_simp; rfl)); intro gb1396 hg w51 hbox hb; have BK1396 := Aside0.mk (hbox); have GW1396 := gw_ hg HB; have GE1396 := gw_ hg HB; have NB1374_1396 := nl_ hg BK1374; have NB1396_1374 := ng_ hg BK1374; have NB1385_1396 := nl_ hg BK1385; have NB1396_1385 := ng_ hg BK1385; replace HO_7 := rb_ HO_7 hb; replace HO_1386000 := rb_ HO_1386000 hb; replace HO_1386001 := rb_ HO_1386001 hb; replace HO_1386002 := rb_ HO_1386002 hb; replace BK1374 := bb_ BK1374 hb; replace BK1385 := bb_ BK1385 hb; replace HB := bst_ HB hb; clear hb hbox hg; have hnb52 := NB1396_1374.out; have hnc52 := NB1374_1396.out; have hnb53 := NB1396_1385.out; have hnc53 := NB1385_1396.out; have hcz54_0 : w51.cell? ⟨gb1396, 0, none⟩ = some (.int .i64 0) := bc_ BK1396 0; have hcz54_1 : w51.cell? ⟨gb1396, 1, none⟩ = some (.int .i64 0) := bc_ BK1396 1; have hfz54_0 := blk_frozen BK1396.out 0; have hfz54_1 := blk_frozen BK1396.out 1; obtain ⟨Ao55, co55, eo55⟩ := Kd.R_slice HO_1386000.out; subst eo55; obtain ⟨Ao56, co56, eo56⟩ := Kd.R_slice HO_1386001.out; subst eo56; obtain ⟨Ao57, co57, eo57⟩ := Kd.R_slice HO_1386002.out; subst eo57))
    have n0_ : Aside0 (Kd.R Kd.bool 4 ((w51.setCell ⟨gb1396, 0, none⟩ (.int .i64 ((rd_T51 l0 x22_1).f0))).setCell ⟨gb1396, 1, none⟩ (.int .i64 ((rd_T51 l0 x22_1).f1))) w.heap.size (fun _ => True) u7 x7_1) := ⟨by (with_reducible repeat (first | apply Kd.R_alloc | apply Kd.R_drewN | apply Kd.R_drew)); exact Kd.R_mono (Kd.R_far (p := ⟨gb1396, 1, none⟩) (Kd.R_far (p := ⟨gb1396, 0, none⟩) (Kd.R_types HO_7.out BK1396.out (by decide)) (fun _ hk => hk.2) (.int .i64 ((rd_T51 l0 x22_1).f0))) (fun _ hk => hk.2) (.int .i64 ((rd_T51 l0 x22_1).f1))) (fun _ hk => trivial)⟩
    have n1_ : Aside0 (Kd.R (Kd.int .i64) 3 ((w51.setCell ⟨gb1396, 0, none⟩ (.int .i64 ((rd_T51 l0 x22_1).f0))).setCell ⟨gb1396, 1, none⟩ (.int .i64 ((rd_T51 l0 x22_1).f1))) w.heap.size (fun k_ => no_ (.slice Ao56 x1386001_1.length co56) k_) (.slice Ao55 x1386000_1.length co55) x1386000_1) := ⟨by (with_reducible repeat (first | apply Kd.R_alloc | apply Kd.R_drewN | apply Kd.R_drew)); exact Kd.R_mono (Kd.R_far (p := ⟨gb1396, 1, none⟩) (Kd.R_far (p := ⟨gb1396, 0, none⟩) (Kd.R_types HO_1386000.out BK1396.out (by decide)) (fun _ hk => hk.2) (.int .i64 ((rd_T51 l0 x22_1).f0))) (fun _ hk => hk.2) (.int .i64 ((rd_T51 l0 x22_1).f1))) (fun _ hk => hk.1)⟩
    have n2_ : Aside0 (Kd.R (Kd.int .i64) 3 ((w51.setCell ⟨gb1396, 0, none⟩ (.int .i64 ((rd_T51 l0 x22_1).f0))).setCell ⟨gb1396, 1, none⟩ (.int .i64 ((rd_T51 l0 x22_1).f1))) w.heap.size (fun k_ => no_ (.slice Ao55 x1386000_1.length co55) k_) (.slice Ao56 x1386001_1.length co56) x1386001_1) := ⟨by (with_reducible repeat (first | apply Kd.R_alloc | apply Kd.R_drewN | apply Kd.R_drew)); exact Kd.R_mono (Kd.R_far (p := ⟨gb1396, 1, none⟩) (Kd.R_far (p := ⟨gb1396, 0, none⟩) (Kd.R_types HO_1386001.out BK1396.out (by decide)) (fun _ hk => hk.2) (.int .i64 ((rd_T51 l0 x22_1).f0))) (fun _ hk => hk.2) (.int .i64 ((rd_T51 l0 x22_1).f1))) (fun _ hk => hk.1)⟩
    have n3_ : Aside0 (Kd.R k127 127 ((w51.setCell ⟨gb1396, 0, none⟩ (.int .i64 ((rd_T51 l0 x22_1).f0))).setCell ⟨gb1396, 1, none⟩ (.int .i64 ((rd_T51 l0 x22_1).f1))) w.heap.size (fun _ => True) (.slice Ao57 x1386002_1.length co57) x1386002_1) := ⟨by (with_reducible repeat (first | apply Kd.R_alloc | apply Kd.R_drewN | apply Kd.R_drew)); exact Kd.R_mono (Kd.R_far (p := ⟨gb1396, 1, none⟩) (Kd.R_far (p := ⟨gb1396, 0, none⟩) (Kd.R_types HO_1386002.out BK1396.out (by decide)) (fun _ hk => hk.2) (.int .i64 ((rd_T51 l0 x22_1).f0))) (fun _ hk => hk.2) (.int .i64 ((rd_T51 l0 x22_1).f1))) (fun _ hk => trivial)⟩
    have n4_ : Aside0 (((w51.setCell ⟨gb1396, 0, none⟩ (.int .i64 ((rd_T51 l0 x22_1).f0))).setCell ⟨gb1396, 1, none⟩ (.int .i64 ((rd_T51 l0 x22_1).f1))).heap[gb1374]? = some (.cells #[.slice none 0 0, .slice none 0 0, .slice none 0 0] 47 (0, 0))) := ⟨by (with_reducible repeat (first | refine blk_drewN ?_ _ | refine blk_drew ?_ | refine blk_alloc ?_ _)); refine blk_far ?_ NB1374_1396.out _; (with_reducible repeat (first | refine blk_drewN ?_ _ | refine blk_drew ?_ | refine blk_alloc ?_ _)); refine blk_far ?_ NB1374_1396.out _; (with_reducible repeat (first | refine blk_drewN ?_ _ | refine blk_drew ?_ | refine blk_alloc ?_ _)); exact BK1374.out⟩
    have n5_ : Aside0 (((w51.setCell ⟨gb1396, 0, none⟩ (.int .i64 ((rd_T51 l0 x22_1).f0))).setCell ⟨gb1396, 1, none⟩ (.int .i64 ((rd_T51 l0 x22_1).f1))).heap[gb1385]? = some (.cells #[.slice Ao55 x1386000_1.length co55, .slice Ao56 x1386001_1.length co56, .slice Ao57 x1386002_1.length co57] 47 (0, 0))) := ⟨by (with_reducible repeat (first | refine blk_drewN ?_ _ | refine blk_drew ?_ | refine blk_alloc ?_ _)); refine blk_far ?_ NB1385_1396.out _; (with_reducible repeat (first | refine blk_drewN ?_ _ | refine blk_drew ?_ | refine blk_alloc ?_ _)); refine blk_far ?_ NB1385_1396.out _; (with_reducible repeat (first | refine blk_drewN ?_ _ | refine blk_drew ?_ | refine blk_alloc ?_ _)); exact BK1385.out⟩
    have n6_ : Aside0 (((w51.setCell ⟨gb1396, 0, none⟩ (.int .i64 ((rd_T51 l0 x22_1).f0))).setCell ⟨gb1396, 1, none⟩ (.int .i64 ((rd_T51 l0 x22_1).f1))).heap[gb1396]? = some (.cells #[.int .i64 ((rd_T51 l0 x22_1).f0), .int .i64 ((rd_T51 l0 x22_1).f1)] 51 (0, 0))) := ⟨by (with_reducible repeat (first | refine blk_drewN ?_ _ | refine blk_drew ?_ | refine blk_alloc ?_ _)); refine blk_put (cs := #[.int .i64 ((rd_T51 l0 x22_1).f0), .int .i64 0]) ?_ 1 _ rfl; (with_reducible repeat (first | refine blk_drewN ?_ _ | refine blk_drew ?_ | refine blk_alloc ?_ _)); refine blk_put (cs := #[.int .i64 0, .int .i64 0]) ?_ 0 _ rfl; (with_reducible repeat (first | refine blk_drewN ?_ _ | refine blk_drew ?_ | refine blk_alloc ?_ _)); exact BK1396.out⟩
    have n7_ : Aside0 (Below w.heap.size w ((w51.setCell ⟨gb1396, 0, none⟩ (.int .i64 ((rd_T51 l0 x22_1).f0))).setCell ⟨gb1396, 1, none⟩ (.int .i64 ((rd_T51 l0 x22_1).f1)))) := ⟨hB HB⟩
    (try clear HO_7)
    (try clear HO_1386000)
    (try clear HO_1386001)
    (try clear HO_1386002)
    (try clear BK1374)
    (try clear BK1385)
    (try clear BK1396)
    (try clear HB)
    generalize ((w51.setCell ⟨gb1396, 0, none⟩ (.int .i64 ((rd_T51 l0 x22_1).f0))).setCell ⟨gb1396, 1, none⟩ (.int .i64 ((rd_T51 l0 x22_1).f1))) = w58 at n0_ n1_ n2_ n3_ n4_ n5_ n6_ n7_ ⊢
    have HO_7 := n0_
    have HO_1386000 := n1_
    have HO_1386001 := n2_
    have HO_1386002 := n3_
    have BK1374 := n4_
    have BK1385 := n5_
    have BK1396 := n6_
    have HB := n7_
    clear n0_ n1_ n2_ n3_ n4_ n5_ n6_ n7_
    replace HO_7 := rd_ HO_7
    replace HO_1386000 := rd_ HO_1386000
    replace HO_1386001 := rd_ HO_1386001
    replace HO_1386002 := rd_ HO_1386002
    replace BK1374 := bd_ BK1374
    replace BK1385 := bd_ BK1385
    replace BK1396 := bd_ BK1396
    replace HB := Aside0.mk (below_drew1 HB.out)
    refine start_ (n := 10) (S := fun w' => w'.cell? ⟨gb1385, 0, none⟩ = some (.slice Ao55 x1386000_1.length co55) ∧ w'.cell? ⟨gb1385, 1, none⟩ = some (.slice Ao56 x1386001_1.length co56) ∧ w'.cell? ⟨gb1385, 2, none⟩ = some (.slice Ao57 x1386002_1.length co57) ∧ w'.cell? ⟨gb1396, 0, none⟩ = some (.int .i64 ((rd_T51 l0 x22_1).f0)) ∧ w'.cell? ⟨gb1396, 1, none⟩ = some (.int .i64 ((rd_T51 l0 x22_1).f1))) (ds := []) (bs 10 0) (by kernel_rfl) rfl rfl ⟨bc_ BK1385 0, bc_ BK1385 1, bc_ BK1385 2, bc_ BK1396 0, bc_ BK1396 1⟩ (fun hHeld => ?_); refine with_tabW spec_PlayPair.tab8 spec_PlayPair.bits8 (fun HT_ HW_ => ?_)
    generalize w58.drew = w59 at HO_7 HO_1386000 HO_1386001 HO_1386002 BK1374 BK1385 BK1396 HB hHeld ⊢
    refine tk_ 0 27 (bs 10 1) HT_ HW_ hHeld ?_
    refine tk_ 2 29 (bs 10 5) HT_ HW_ hHeld ?_
    refine join_ (σ := Value × Value × Value × Value × Value × Value × Nat) 2 (bs 10 255) (fun s_ => [(28, .agg #[s_.1, s_.2.1, s_.2.2.1]), (30, .tuple #[.agg #[s_.2.2.2.1, s_.2.2.2.2.1, s_.2.2.2.2.2.1], .bool false]), (10, .pointer (some ⟨s_.2.2.2.2.2.2, 0, none⟩)), (26, .tuple #[.agg #[s_.2.2.2.1, s_.2.2.2.2.1, s_.2.2.2.2.2.1], .bool false]), (31, .agg #[s_.2.2.2.1, s_.2.2.2.2.1, s_.2.2.2.2.2.1]), (32, .bool false)]) (fun s_ w' => (w'.cell? ⟨gb1385, 0, none⟩ = some (.slice Ao55 x1386000_1.length co55) ∧ w'.cell? ⟨gb1385, 1, none⟩ = some (.slice Ao56 x1386001_1.length co56) ∧ w'.cell? ⟨gb1385, 2, none⟩ = some (.slice Ao57 x1386002_1.length co57) ∧ w'.cell? ⟨gb1396, 0, none⟩ = some (.int .i64 ((rd_T51 l0 x22_1).f0)) ∧ w'.cell? ⟨gb1396, 1, none⟩ = some (.int .i64 ((rd_T51 l0 x22_1).f1))) ∧ (Kd.R (Kd.int .i64) 3 w' w.heap.size (fun k_ => no_ s_.2.2.2.2.1 k_ ∧ no_ (.slice Ao55 x1386000_1.length co55) k_ ∧ no_ (.slice Ao56 x1386001_1.length co56) k_) s_.2.2.2.1 t1406) ∧ (Kd.R (Kd.int .i64) 3 w' w.heap.size (fun k_ => no_ s_.2.2.2.1 k_ ∧ no_ (.slice Ao55 x1386000_1.length co55) k_ ∧ no_ (.slice Ao56 x1386001_1.length co56) k_) s_.2.2.2.2.1 t1409) ∧ (Kd.R k127 127 w' w.heap.size (fun k_ => no_ (.slice Ao57 x1386002_1.length co57) k_) s_.2.2.2.2.2.1 t1412) ∧ (Kd.R (Kd.int .i64) 3 w' w.heap.size (fun k_ => no_ s_.2.2.2.1 k_ ∧ no_ s_.2.2.2.2.1 k_ ∧ no_ (.slice Ao56 x1386001_1.length co56) k_) (.slice Ao55 x1386000_1.length co55) x1386000_1) ∧ (Kd.R (Kd.int .i64) 3 w' w.heap.size (fun k_ => no_ s_.2.2.2.1 k_ ∧ no_ s_.2.2.2.2.1 k_ ∧ no_ (.slice Ao55 x1386000_1.length co55) k_) (.slice Ao56 x1386001_1.length co56) x1386001_1) ∧ (Kd.R k127 127 w' w.heap.size (fun k_ => no_ s_.2.2.2.2.2.1 k_) (.slice Ao57 x1386002_1.length co57) x1386002_1) ∧ (Kd.R Kd.bool 4 w' w.heap.size (fun _ => True) u7 x7_1) ∧ (w'.heap[gb1374]? = some (.cells #[.slice none 0 0, .slice none 0 0, .slice none 0 0] 47 (0, 0))) ∧ (w'.heap[gb1385]? = some (.cells #[.slice Ao55 x1386000_1.length co55, .slice Ao56 x1386001_1.length co56, .slice Ao57 x1386002_1.length co57] 47 (0, 0))) ∧ (w'.heap[gb1396]? = some (.cells #[.int .i64 ((rd_T51 l0 x22_1).f0), .int .i64 ((rd_T51 l0 x22_1).f1)] 51 (0, 0))) ∧ (w'.heap[s_.2.2.2.2.2.2]? = some (.cells #[.slice none 0 0, .slice none 0 0, .slice none 0 0] 47 (0, 0))) ∧ (w.heap.size ≤ s_.2.2.2.2.2.2) ∧ (w.heap.size ≤ s_.2.2.2.2.2.2) ∧ (gb1374 ≠ s_.2.2.2.2.2.2) ∧ (s_.2.2.2.2.2.2 ≠ gb1374) ∧ (gb1385 ≠ s_.2.2.2.2.2.2) ∧ (s_.2.2.2.2.2.2 ≠ gb1385) ∧ (gb1396 ≠ s_.2.2.2.2.2.2) ∧ (s_.2.2.2.2.2.2 ≠ gb1396) ∧ (Below w.heap.size w w')) ?_ ?_
    rotate_left
    ·intro hCont
     refine two_ (i := 1) (j := 7) (Ni := some 28) (Nj := some 10) (bs 10 7) (bs 10 133) rfl rfl rfl rfl (two_of HT_.out (by kernel_rfl)) (by decide) (by decide) (fun K hK => ?_) (fun K hK => ?_)
     rotate_left
     ·skip
      refine box_step ?hg (N := 10) ?hd (cs := #[.slice none 0 0, .slice none 0 0, .slice none 0 0]) (t := 47) ?hr ?_; (case hd => rfl); (case hg => rfl); (case hr => first | (go_simp; done) | (go_simp; rfl))
      intro gb1416 hg w60 hbox hb
      have BK1416 := Aside0.mk (hbox)
      have GW1416 := gw_ hg HB
      have GE1416 := gw_ hg HB
      have NB1374_1416 := nl_ hg BK1374
      have NB1416_1374 := ng_ hg BK1374
      have NB1385_1416 := nl_ hg BK1385
      have NB1416_1385 := ng_ hg BK1385
      have NB1396_1416 := nl_ hg BK1396
      have NB1416_1396 := ng_ hg BK1396
      replace HO_7 := rb_ HO_7 hb
      replace HO_1386000 := rb_ HO_1386000 hb
      replace HO_1386001 := rb_ HO_1386001 hb
      replace HO_1386002 := rb_ HO_1386002 hb
      replace BK1374 := bb_ BK1374 hb
      replace BK1385 := bb_ BK1385 hb
      replace BK1396 := bb_ BK1396 hb
      replace HB := bst_ HB hb
      clear hb hbox hg
      refine hK.out _ _ ⟨bc_ BK1385 0, bc_ BK1385 1, bc_ BK1385 2, bc_ BK1396 0, bc_ BK1396 1⟩ (fun hHeld => ?_)
      clear hK K
      refine nm_ 10 ?_
      refine one_ (i := 1) (N := some 28) (bs 10 135) rfl rfl (one_of HT_.out (by kernel_rfl)) (by decide) (fun K hK => ?_)
      refine goes_ Try.func88 (by kernel_rfl) rfl #[.agg #[.slice Ao55 x1386000_1.length co55, .slice Ao56 x1386001_1.length co56, .slice Ao57 x1386002_1.length co57]] (by rfl) rfl rfl tm_ ?_
      with_reducible refine (spec_l3Own.calls _ _ x1386000_1 _ _ x1386001_1 _ _ x1386002_1 t1397 t1400 t1403 _ ?side1 ?side2 ?side3 ?side4 ?side5 ?side6 A17.out).mono ?_
      (case side1 => exact ca (Kd.R_reads' HO_1386000.out).2.2)
      (case side2 => exact (Kd.R_reads' HO_1386000.out).2.1)
      (case side3 => exact ca (Kd.R_reads' HO_1386001.out).2.2)
      (case side4 => exact (Kd.R_reads' HO_1386001.out).2.1)
      (case side5 => exact ca (Kd.R_reads' HO_1386002.out).2.2)
      (case side6 => exact (Kd.R_reads' HO_1386002.out).2.1)
      rintro e w61 ⟨v1398, v1401, v1404, rfl, ho0, ho1, ho2, hb⟩
      refine ⟨_, rfl, ?_⟩
      have HO1399 := Aside0.mk (Kd.R_lower (Kd.R_new' (Kd.R_new' ho0 (rl_ HO_1386000)) (rl_ HO_1386001)) (below_size (hB HB)))
      have HO1402 := Aside0.mk (Kd.R_lower (Kd.R_new' (Kd.R_new' ho1 (rl_ HO_1386000)) (rl_ HO_1386001)) (below_size (hB HB)))
      have HO1405 := Aside0.mk (Kd.R_lower (Kd.R_new' ho2 (rl_ HO_1386002)) (below_size (hB HB)))
      replace HO_7 := rb_ HO_7 hb
      replace HO_1386000 := rt2_ HO_1386000 hb ho0 ho1
      replace HO_1386001 := rt2_ HO_1386001 hb ho0 ho1
      replace HO_1386002 := re_ HO_1386002 ho2 hb
      replace BK1374 := bb_ BK1374 hb
      replace BK1385 := bb_ BK1385 hb
      replace BK1396 := bb_ BK1396 hb
      replace BK1416 := bb_ BK1416 hb
      replace HB := bst_ HB hb
      clear hb ho0 ho1 ho2
      obtain ⟨Ao62, co62, eo62⟩ := Kd.R_slice HO1399.out
      (first | subst eo62 | (injection eo62 with f1_ f2_ f3_; have f4_ := f1_.symm; have f5_ := f3_.symm; clear f1_ f2_ f3_; subst f4_; subst f5_))
      obtain ⟨Ao63, co63, eo63⟩ := Kd.R_slice HO1402.out
      (first | subst eo63 | (injection eo63 with f1_ f2_ f3_; have f4_ := f1_.symm; have f5_ := f3_.symm; clear f1_ f2_ f3_; subst f4_; subst f5_))
      obtain ⟨Ao64, co64, eo64⟩ := Kd.R_slice HO1405.out
      (first | subst eo64 | (injection eo64 with f1_ f2_ f3_; have f4_ := f1_.symm; have f5_ := f3_.symm; clear f1_ f2_ f3_; subst f4_; subst f5_))
      refine hK.out _ _ ⟨bc_ BK1385 0, bc_ BK1385 1, bc_ BK1385 2, bc_ BK1396 0, bc_ BK1396 1⟩ (fun hHeld => ?_)
      clear hK K
      refine nm_ 28 ?_
      refine one_ (i := 3) (N := some 30) (bs 10 143) rfl rfl (one_of HT_.out (by kernel_rfl)) (by decide) (fun K hK => ?_)
      refine goes_ Try.func87 (by kernel_rfl) rfl #[.agg #[.slice Ao62 t1397.length co62, .slice Ao63 t1400.length co63, .slice Ao64 t1403.length co64], .agg #[.int .i64 ((rd_T51 l0 x22_1).f0), .int .i64 ((rd_T51 l0 x22_1).f1)]] (by rfl) rfl rfl tm_ ?_
      with_reducible refine (spec_l3Step.calls k1 (fun k_ => some k_ = (.slice Ao62 t1397.length co62 : Value).ownBlock) (.slice Ao62 t1397.length co62) t1397 (fun k_ => some k_ = (.slice Ao63 t1400.length co63 : Value).ownBlock) (.slice Ao63 t1400.length co63) t1400 (fun k_ => some k_ = (.slice Ao64 t1403.length co64 : Value).ownBlock) (.slice Ao64 t1403.length co64) t1403 ((rd_T51 l0 x22_1).f0) ((rd_T51 l0 x22_1).f1) t1406 t1409 t1412 false w _ ?side1 ?side2 ?side3 ?side4 ?side5 ?side6 A18.out).mono ?_
      (case side1 => repeat (first | (with_reducible first | exact HB.out | apply below_alloc | apply pw_below_drewN | apply below_drew1 | refine below_set ?_ GE1374.out | refine below_set ?_ GE1385.out | refine below_set ?_ GE1396.out | refine below_set ?_ GE1416.out) | exact HB.out))
      (case side2 => exact Kd.R_tight rfl HO1399.out)
      (case side3 => exact fun k_ e_ => (HO1399.out.1 k_ e_.symm).1.1)
      (case side4 => exact Kd.R_tight rfl HO1402.out)
      (case side5 => exact fun k_ e_ => (HO1402.out.1 k_ e_.symm).1.1)
      (case side6 => exact Kd.R_tight rfl HO1405.out)
      rintro e w65 ⟨v1407, v1410, v1413, rfl, ho0, ho1, ho2, hb, hkp⟩
      refine ⟨_, rfl, ?_⟩
      have HO1408 := Aside0.mk (Kd.R_mono (ok' := fun k_ => no_ v1410 k_ ∧ no_ (.slice Ao55 x1386000_1.length co55) k_ ∧ no_ (.slice Ao56 x1386001_1.length co56) k_) ho0 (fun k_ hk_ => ⟨hk_.2, Or.elim hk_.1 (fun hs_ => Or.elim hs_ (fun hs_ => fun e_ => ((((Kd.R_apart' HO_1386000.out (Kd.R_typed HO1405.out) (by decide))).1 k_ e_.symm).1.1.2) hs_) (fun hs_ => Or.elim hs_ (fun hs_ => fun e_ => ((((Kd.R_apart' HO_1386000.out (Kd.R_typed HO1405.out) (by decide))).1 k_ e_.symm).1.2) hs_) (fun hs_ => fun e_ => ((((Kd.R_apart' HO_1386000.out (Kd.R_typed HO1405.out) (by decide))).1 k_ e_.symm).2) hs_))) (fun hn_ => (Kd.fresh' (rl_ HO_1386000) k_ hn_)), Or.elim hk_.1 (fun hs_ => Or.elim hs_ (fun hs_ => fun e_ => ((((Kd.R_apart' HO_1386001.out (Kd.R_typed HO1405.out) (by decide))).1 k_ e_.symm).1.1.2) hs_) (fun hs_ => Or.elim hs_ (fun hs_ => fun e_ => ((((Kd.R_apart' HO_1386001.out (Kd.R_typed HO1405.out) (by decide))).1 k_ e_.symm).1.2) hs_) (fun hs_ => fun e_ => ((((Kd.R_apart' HO_1386001.out (Kd.R_typed HO1405.out) (by decide))).1 k_ e_.symm).2) hs_))) (fun hn_ => (Kd.fresh' (rl_ HO_1386001) k_ hn_))⟩))
      have HO1411 := Aside0.mk (Kd.R_mono (ok' := fun k_ => no_ v1407 k_ ∧ no_ (.slice Ao55 x1386000_1.length co55) k_ ∧ no_ (.slice Ao56 x1386001_1.length co56) k_) ho1 (fun k_ hk_ => ⟨hk_.2, Or.elim hk_.1 (fun hs_ => Or.elim hs_ (fun hs_ => fun e_ => ((((Kd.R_apart' HO_1386000.out (Kd.R_typed HO1405.out) (by decide))).1 k_ e_.symm).1.1.2) hs_) (fun hs_ => Or.elim hs_ (fun hs_ => fun e_ => ((((Kd.R_apart' HO_1386000.out (Kd.R_typed HO1405.out) (by decide))).1 k_ e_.symm).1.2) hs_) (fun hs_ => fun e_ => ((((Kd.R_apart' HO_1386000.out (Kd.R_typed HO1405.out) (by decide))).1 k_ e_.symm).2) hs_))) (fun hn_ => (Kd.fresh' (rl_ HO_1386000) k_ hn_)), Or.elim hk_.1 (fun hs_ => Or.elim hs_ (fun hs_ => fun e_ => ((((Kd.R_apart' HO_1386001.out (Kd.R_typed HO1405.out) (by decide))).1 k_ e_.symm).1.1.2) hs_) (fun hs_ => Or.elim hs_ (fun hs_ => fun e_ => ((((Kd.R_apart' HO_1386001.out (Kd.R_typed HO1405.out) (by decide))).1 k_ e_.symm).1.2) hs_) (fun hs_ => fun e_ => ((((Kd.R_apart' HO_1386001.out (Kd.R_typed HO1405.out) (by decide))).1 k_ e_.symm).2) hs_))) (fun hn_ => (Kd.fresh' (rl_ HO_1386001) k_ hn_))⟩))
      have HO1414 := Aside0.mk (Kd.R_mono (ok' := fun k_ => no_ (.slice Ao57 x1386002_1.length co57) k_) ho2 (fun k_ hk_ => Or.elim hk_ (fun hs_ => Or.elim hs_ (fun hs_ => fun e_ => ((((Kd.R_apart' (Kd.R_apart' HO_1386002.out (Kd.R_typed HO1399.out) (by decide)) (Kd.R_typed HO1402.out) (by decide))).1 k_ e_.symm).1.2) hs_) (fun hs_ => Or.elim hs_ (fun hs_ => fun e_ => ((((Kd.R_apart' (Kd.R_apart' HO_1386002.out (Kd.R_typed HO1399.out) (by decide)) (Kd.R_typed HO1402.out) (by decide))).1 k_ e_.symm).2) hs_) (fun hs_ => fun e_ => ((((Kd.R_apart' (Kd.R_apart' HO_1386002.out (Kd.R_typed HO1399.out) (by decide)) (Kd.R_typed HO1402.out) (by decide))).1 k_ e_.symm).1.1.2) hs_))) (fun hn_ => (Kd.fresh' (rl_ HO_1386002) k_ hn_))))
      replace HO_7 := Aside0.mk (Kd.R_mono (ok' := fun k_ => True) (Kd.R_keptB ((Kd.R_apart' (Kd.R_apart' (Kd.R_apart' HO_7.out (Kd.R_typed HO1399.out) (by decide)) (Kd.R_typed HO1402.out) (by decide)) (Kd.R_typed HO1405.out) (by decide))) hkp (fun k_ hk_ hs_ => Or.elim hs_ (fun e_ => (hk_.1.1.2) e_) (fun e_ => Or.elim e_ (fun e_ => (hk_.1.2) e_) (fun e_ => (hk_.2) e_)))) (fun k_ hk_ => trivial))
      replace HO_1386000 := Aside0.mk (Kd.R_mono (ok' := fun k_ => no_ (.slice Ao56 x1386001_1.length co56) k_ ∧ no_ v1407 k_ ∧ no_ v1410 k_) (Kd.R_keptB ((Kd.R_apart' HO_1386000.out (Kd.R_typed HO1405.out) (by decide))) hkp (fun k_ hk_ hs_ => Or.elim hs_ (fun e_ => (hk_.1.1.2) e_) (fun e_ => Or.elim e_ (fun e_ => (hk_.1.2) e_) (fun e_ => (hk_.2) e_)))) (fun k_ hk_ => ⟨hk_.1.1.1.1, fun e_ => Or.elim (ho0.1 k_ e_.symm).1 (fun hs_ => hk_.2.1 hs_) (fun hn_ => Nat.not_le.2 hk_.2.2 hn_), fun e_ => Or.elim (ho1.1 k_ e_.symm).1 (fun hs_ => hk_.2.1 hs_) (fun hn_ => Nat.not_le.2 hk_.2.2 hn_)⟩))
      replace HO_1386001 := Aside0.mk (Kd.R_mono (ok' := fun k_ => no_ (.slice Ao55 x1386000_1.length co55) k_ ∧ no_ v1407 k_ ∧ no_ v1410 k_) (Kd.R_keptB ((Kd.R_apart' HO_1386001.out (Kd.R_typed HO1405.out) (by decide))) hkp (fun k_ hk_ hs_ => Or.elim hs_ (fun e_ => (hk_.1.1.2) e_) (fun e_ => Or.elim e_ (fun e_ => (hk_.1.2) e_) (fun e_ => (hk_.2) e_)))) (fun k_ hk_ => ⟨hk_.1.1.1.1, fun e_ => Or.elim (ho0.1 k_ e_.symm).1 (fun hs_ => hk_.2.1 hs_) (fun hn_ => Nat.not_le.2 hk_.2.2 hn_), fun e_ => Or.elim (ho1.1 k_ e_.symm).1 (fun hs_ => hk_.2.1 hs_) (fun hn_ => Nat.not_le.2 hk_.2.2 hn_)⟩))
      replace HO_1386002 := Aside0.mk (Kd.R_mono (ok' := fun k_ => no_ v1413 k_) (Kd.R_keptB ((Kd.R_apart' (Kd.R_apart' HO_1386002.out (Kd.R_typed HO1399.out) (by decide)) (Kd.R_typed HO1402.out) (by decide))) hkp (fun k_ hk_ hs_ => Or.elim hs_ (fun e_ => (hk_.1.2) e_) (fun e_ => Or.elim e_ (fun e_ => (hk_.2) e_) (fun e_ => (hk_.1.1.2) e_)))) (fun k_ hk_ => fun e_ => Or.elim (ho2.1 k_ e_.symm) (fun hs_ => hk_.2.1 hs_) (fun hn_ => Nat.not_le.2 hk_.2.2 hn_)))
      replace BK1374 := Aside0.mk (blk_kept (ba BK1374.out) hkp (fun hs_ => Or.elim hs_ (kne_ HO1399 BK1374) (fun e_ => Or.elim e_ (kne_ HO1402 BK1374) (kne_ HO1405 BK1374))))
      replace BK1385 := Aside0.mk (blk_kept (ba BK1385.out) hkp (fun hs_ => Or.elim hs_ (kne_ HO1399 BK1385) (fun e_ => Or.elim e_ (kne_ HO1402 BK1385) (kne_ HO1405 BK1385))))
      replace BK1396 := Aside0.mk (blk_kept (ba BK1396.out) hkp (fun hs_ => Or.elim hs_ (kne_ HO1399 BK1396) (fun e_ => Or.elim e_ (kne_ HO1402 BK1396) (kne_ HO1405 BK1396))))
      replace BK1416 := Aside0.mk (blk_kept (ba BK1416.out) hkp (fun hs_ => Or.elim hs_ (kne_ HO1399 BK1416) (fun e_ => Or.elim e_ (kne_ HO1402 BK1416) (kne_ HO1405 BK1416))))
      replace HB := Aside0.mk (hb)
      clear HO1399 HO1402 HO1405
      clear hb ho0 ho1 ho2
      refine hK.out _ _ ⟨bc_ BK1385 0, bc_ BK1385 1, bc_ BK1385 2, bc_ BK1396 0, bc_ BK1396 1⟩ (fun hHeld => ?_)
      clear hK K
      refine nm_ 30 ?_
      refine pu_ 4 26 (bs 10 159) HT_ ?_
      refine pu_ 5 31 (bs 10 191) HT_ ?_
      refine pu_ 6 32 (bs 10 255) HT_ ?_
      exact norm_ (by simp only [putAll, Act.put, List.setIfInBounds_toArray, List.set_cons_zero, List.set_cons_succ]) (hCont (.slice Ao62 t1397.length co62, .slice Ao63 t1400.length co63, .slice Ao64 t1403.length co64, v1407, v1410, v1413, gb1416) _ ⟨hHeld, (ra HO1408.out), (ra HO1411.out), (ra HO1414.out), (rm_ HO_1386000 (fun _ hk => ⟨hk.2.1, ⟨hk.2.2, hk.1⟩⟩)).out, (rm_ HO_1386001 (fun _ hk => ⟨hk.2.1, ⟨hk.2.2, hk.1⟩⟩)).out, (ra HO_1386002.out), (ra HO_7.out), (ba BK1374.out), (ba BK1385.out), (ba BK1396.out), (ba BK1416.out), GW1416.out, GE1416.out, NB1374_1416.out, NB1416_1374.out, NB1385_1416.out, NB1416_1385.out, NB1396_1416.out, NB1416_1396.out, (hB HB)⟩)
     skip
     refine goes_ Try.func88 (by kernel_rfl) rfl #[.agg #[.slice Ao55 x1386000_1.length co55, .slice Ao56 x1386001_1.length co56, .slice Ao57 x1386002_1.length co57]] (by rfl) rfl rfl tm_ ?_
     with_reducible refine (spec_l3Own.calls _ _ x1386000_1 _ _ x1386001_1 _ _ x1386002_1 t1397 t1400 t1403 _ ?side1 ?side2 ?side3 ?side4 ?side5 ?side6 A17.out).mono ?_
     (case side1 => exact ca (Kd.R_reads' HO_1386000.out).2.2)
     (case side2 => exact (Kd.R_reads' HO_1386000.out).2.1)
     (case side3 => exact ca (Kd.R_reads' HO_1386001.out).2.2)
     (case side4 => exact (Kd.R_reads' HO_1386001.out).2.1)
     (case side5 => exact ca (Kd.R_reads' HO_1386002.out).2.2)
     (case side6 => exact (Kd.R_reads' HO_1386002.out).2.1)
     rintro e w60 ⟨v1398, v1401, v1404, rfl, ho0, ho1, ho2, hb⟩
     refine ⟨_, rfl, ?_⟩
     have HO1399 := Aside0.mk (Kd.R_lower (Kd.R_new' (Kd.R_new' ho0 (rl_ HO_1386000)) (rl_ HO_1386001)) (below_size (hB HB)))
     have HO1402 := Aside0.mk (Kd.R_lower (Kd.R_new' (Kd.R_new' ho1 (rl_ HO_1386000)) (rl_ HO_1386001)) (below_size (hB HB)))
     have HO1405 := Aside0.mk (Kd.R_lower (Kd.R_new' ho2 (rl_ HO_1386002)) (below_size (hB HB)))
     replace HO_7 := rb_ HO_7 hb
     replace HO_1386000 := rt2_ HO_1386000 hb ho0 ho1
     replace HO_1386001 := rt2_ HO_1386001 hb ho0 ho1
     replace HO_1386002 := re_ HO_1386002 ho2 hb
     replace BK1374 := bb_ BK1374 hb
     replace BK1385 := bb_ BK1385 hb
     replace BK1396 := bb_ BK1396 hb
     replace HB := bst_ HB hb
     clear hb ho0 ho1 ho2
     obtain ⟨Ao61, co61, eo61⟩ := Kd.R_slice HO1399.out
     (first | subst eo61 | (injection eo61 with f1_ f2_ f3_; have f4_ := f1_.symm; have f5_ := f3_.symm; clear f1_ f2_ f3_; subst f4_; subst f5_))
     obtain ⟨Ao62, co62, eo62⟩ := Kd.R_slice HO1402.out
     (first | subst eo62 | (injection eo62 with f1_ f2_ f3_; have f4_ := f1_.symm; have f5_ := f3_.symm; clear f1_ f2_ f3_; subst f4_; subst f5_))
     obtain ⟨Ao63, co63, eo63⟩ := Kd.R_slice HO1405.out
     (first | subst eo63 | (injection eo63 with f1_ f2_ f3_; have f4_ := f1_.symm; have f5_ := f3_.symm; clear f1_ f2_ f3_; subst f4_; subst f5_))
     refine hK.out _ _ ⟨bc_ BK1385 0, bc_ BK1385 1, bc_ BK1385 2, bc_ BK1396 0, bc_ BK1396 1⟩ (fun hHeld => ?_)
     clear hK K
     refine nm_ 28 ?_
     refine two_ (i := 3) (j := 7) (Ni := some 30) (Nj := some 10) (bs 10 15) (bs 10 135) rfl rfl rfl rfl (two_of HT_.out (by kernel_rfl)) (by decide) (by decide) (fun K hK => ?_) (fun K hK => ?_)
     ·skip
      refine goes_ Try.func87 (by kernel_rfl) rfl #[.agg #[.slice Ao61 t1397.length co61, .slice Ao62 t1400.length co62, .slice Ao63 t1403.length co63], .agg #[.int .i64 ((rd_T51 l0 x22_1).f0), .int .i64 ((rd_T51 l0 x22_1).f1)]] (by rfl) rfl rfl tm_ ?_
      with_reducible refine (spec_l3Step.calls k1 (fun k_ => some k_ = (.slice Ao61 t1397.length co61 : Value).ownBlock) (.slice Ao61 t1397.length co61) t1397 (fun k_ => some k_ = (.slice Ao62 t1400.length co62 : Value).ownBlock) (.slice Ao62 t1400.length co62) t1400 (fun k_ => some k_ = (.slice Ao63 t1403.length co63 : Value).ownBlock) (.slice Ao63 t1403.length co63) t1403 ((rd_T51 l0 x22_1).f0) ((rd_T51 l0 x22_1).f1) t1406 t1409 t1412 false w _ ?side1 ?side2 ?side3 ?side4 ?side5 ?side6 A18.out).mono ?_
      (case side1 => repeat (first | (with_reducible first | exact HB.out | apply below_alloc | apply pw_below_drewN | apply below_drew1 | refine below_set ?_ GE1374.out | refine below_set ?_ GE1385.out | refine below_set ?_ GE1396.out) | exact HB.out))
      (case side2 => exact Kd.R_tight rfl HO1399.out)
      (case side3 => exact fun k_ e_ => (HO1399.out.1 k_ e_.symm).1.1)
      (case side4 => exact Kd.R_tight rfl HO1402.out)
      (case side5 => exact fun k_ e_ => (HO1402.out.1 k_ e_.symm).1.1)
      (case side6 => exact Kd.R_tight rfl HO1405.out)
      rintro e w64 ⟨v1407, v1410, v1413, rfl, ho0, ho1, ho2, hb, hkp⟩
      refine ⟨_, rfl, ?_⟩
      have HO1408 := Aside0.mk (Kd.R_mono (ok' := fun k_ => no_ v1410 k_ ∧ no_ (.slice Ao55 x1386000_1.length co55) k_ ∧ no_ (.slice Ao56 x1386001_1.length co56) k_) ho0 (fun k_ hk_ => ⟨hk_.2, Or.elim hk_.1 (fun hs_ => Or.elim hs_ (fun hs_ => fun e_ => ((((Kd.R_apart' HO_1386000.out (Kd.R_typed HO1405.out) (by decide))).1 k_ e_.symm).1.1.2) hs_) (fun hs_ => Or.elim hs_ (fun hs_ => fun e_ => ((((Kd.R_apart' HO_1386000.out (Kd.R_typed HO1405.out) (by decide))).1 k_ e_.symm).1.2) hs_) (fun hs_ => fun e_ => ((((Kd.R_apart' HO_1386000.out (Kd.R_typed HO1405.out) (by decide))).1 k_ e_.symm).2) hs_))) (fun hn_ => (Kd.fresh' (rl_ HO_1386000) k_ hn_)), Or.elim hk_.1 (fun hs_ => Or.elim hs_ (fun hs_ => fun e_ => ((((Kd.R_apart' HO_1386001.out (Kd.R_typed HO1405.out) (by decide))).1 k_ e_.symm).1.1.2) hs_) (fun hs_ => Or.elim hs_ (fun hs_ => fun e_ => ((((Kd.R_apart' HO_1386001.out (Kd.R_typed HO1405.out) (by decide))).1 k_ e_.symm).1.2) hs_) (fun hs_ => fun e_ => ((((Kd.R_apart' HO_1386001.out (Kd.R_typed HO1405.out) (by decide))).1 k_ e_.symm).2) hs_))) (fun hn_ => (Kd.fresh' (rl_ HO_1386001) k_ hn_))⟩))
      have HO1411 := Aside0.mk (Kd.R_mono (ok' := fun k_ => no_ v1407 k_ ∧ no_ (.slice Ao55 x1386000_1.length co55) k_ ∧ no_ (.slice Ao56 x1386001_1.length co56) k_) ho1 (fun k_ hk_ => ⟨hk_.2, Or.elim hk_.1 (fun hs_ => Or.elim hs_ (fun hs_ => fun e_ => ((((Kd.R_apart' HO_1386000.out (Kd.R_typed HO1405.out) (by decide))).1 k_ e_.symm).1.1.2) hs_) (fun hs_ => Or.elim hs_ (fun hs_ => fun e_ => ((((Kd.R_apart' HO_1386000.out (Kd.R_typed HO1405.out) (by decide))).1 k_ e_.symm).1.2) hs_) (fun hs_ => fun e_ => ((((Kd.R_apart' HO_1386000.out (Kd.R_typed HO1405.out) (by decide))).1 k_ e_.symm).2) hs_))) (fun hn_ => (Kd.fresh' (rl_ HO_1386000) k_ hn_)), Or.elim hk_.1 (fun hs_ => Or.elim hs_ (fun hs_ => fun e_ => ((((Kd.R_apart' HO_1386001.out (Kd.R_typed HO1405.out) (by decide))).1 k_ e_.symm).1.1.2) hs_) (fun hs_ => Or.elim hs_ (fun hs_ => fun e_ => ((((Kd.R_apart' HO_1386001.out (Kd.R_typed HO1405.out) (by decide))).1 k_ e_.symm).1.2) hs_) (fun hs_ => fun e_ => ((((Kd.R_apart' HO_1386001.out (Kd.R_typed HO1405.out) (by decide))).1 k_ e_.symm).2) hs_))) (fun hn_ => (Kd.fresh' (rl_ HO_1386001) k_ hn_))⟩))
      have HO1414 := Aside0.mk (Kd.R_mono (ok' := fun k_ => no_ (.slice Ao57 x1386002_1.length co57) k_) ho2 (fun k_ hk_ => Or.elim hk_ (fun hs_ => Or.elim hs_ (fun hs_ => fun e_ => ((((Kd.R_apart' (Kd.R_apart' HO_1386002.out (Kd.R_typed HO1399.out) (by decide)) (Kd.R_typed HO1402.out) (by decide))).1 k_ e_.symm).1.2) hs_) (fun hs_ => Or.elim hs_ (fun hs_ => fun e_ => ((((Kd.R_apart' (Kd.R_apart' HO_1386002.out (Kd.R_typed HO1399.out) (by decide)) (Kd.R_typed HO1402.out) (by decide))).1 k_ e_.symm).2) hs_) (fun hs_ => fun e_ => ((((Kd.R_apart' (Kd.R_apart' HO_1386002.out (Kd.R_typed HO1399.out) (by decide)) (Kd.R_typed HO1402.out) (by decide))).1 k_ e_.symm).1.1.2) hs_))) (fun hn_ => (Kd.fresh' (rl_ HO_1386002) k_ hn_))))
      replace HO_7 := Aside0.mk (Kd.R_mono (ok' := fun k_ => True) (Kd.R_keptB ((Kd.R_apart' (Kd.R_apart' (Kd.R_apart' HO_7.out (Kd.R_typed HO1399.out) (by decide)) (Kd.R_typed HO1402.out) (by decide)) (Kd.R_typed HO1405.out) (by decide))) hkp (fun k_ hk_ hs_ => Or.elim hs_ (fun e_ => (hk_.1.1.2) e_) (fun e_ => Or.elim e_ (fun e_ => (hk_.1.2) e_) (fun e_ => (hk_.2) e_)))) (fun k_ hk_ => trivial))
      replace HO_1386000 := Aside0.mk (Kd.R_mono (ok' := fun k_ => no_ (.slice Ao56 x1386001_1.length co56) k_ ∧ no_ v1407 k_ ∧ no_ v1410 k_) (Kd.R_keptB ((Kd.R_apart' HO_1386000.out (Kd.R_typed HO1405.out) (by decide))) hkp (fun k_ hk_ hs_ => Or.elim hs_ (fun e_ => (hk_.1.1.2) e_) (fun e_ => Or.elim e_ (fun e_ => (hk_.1.2) e_) (fun e_ => (hk_.2) e_)))) (fun k_ hk_ => ⟨hk_.1.1.1.1, fun e_ => Or.elim (ho0.1 k_ e_.symm).1 (fun hs_ => hk_.2.1 hs_) (fun hn_ => Nat.not_le.2 hk_.2.2 hn_), fun e_ => Or.elim (ho1.1 k_ e_.symm).1 (fun hs_ => hk_.2.1 hs_) (fun hn_ => Nat.not_le.2 hk_.2.2 hn_)⟩))
      replace HO_1386001 := Aside0.mk (Kd.R_mono (ok' := fun k_ => no_ (.slice Ao55 x1386000_1.length co55) k_ ∧ no_ v1407 k_ ∧ no_ v1410 k_) (Kd.R_keptB ((Kd.R_apart' HO_1386001.out (Kd.R_typed HO1405.out) (by decide))) hkp (fun k_ hk_ hs_ => Or.elim hs_ (fun e_ => (hk_.1.1.2) e_) (fun e_ => Or.elim e_ (fun e_ => (hk_.1.2) e_) (fun e_ => (hk_.2) e_)))) (fun k_ hk_ => ⟨hk_.1.1.1.1, fun e_ => Or.elim (ho0.1 k_ e_.symm).1 (fun hs_ => hk_.2.1 hs_) (fun hn_ => Nat.not_le.2 hk_.2.2 hn_), fun e_ => Or.elim (ho1.1 k_ e_.symm).1 (fun hs_ => hk_.2.1 hs_) (fun hn_ => Nat.not_le.2 hk_.2.2 hn_)⟩))
      replace HO_1386002 := Aside0.mk (Kd.R_mono (ok' := fun k_ => no_ v1413 k_) (Kd.R_keptB ((Kd.R_apart' (Kd.R_apart' HO_1386002.out (Kd.R_typed HO1399.out) (by decide)) (Kd.R_typed HO1402.out) (by decide))) hkp (fun k_ hk_ hs_ => Or.elim hs_ (fun e_ => (hk_.1.2) e_) (fun e_ => Or.elim e_ (fun e_ => (hk_.2) e_) (fun e_ => (hk_.1.1.2) e_)))) (fun k_ hk_ => fun e_ => Or.elim (ho2.1 k_ e_.symm) (fun hs_ => hk_.2.1 hs_) (fun hn_ => Nat.not_le.2 hk_.2.2 hn_)))
      replace BK1374 := Aside0.mk (blk_kept (ba BK1374.out) hkp (fun hs_ => Or.elim hs_ (kne_ HO1399 BK1374) (fun e_ => Or.elim e_ (kne_ HO1402 BK1374) (kne_ HO1405 BK1374))))
      replace BK1385 := Aside0.mk (blk_kept (ba BK1385.out) hkp (fun hs_ => Or.elim hs_ (kne_ HO1399 BK1385) (fun e_ => Or.elim e_ (kne_ HO1402 BK1385) (kne_ HO1405 BK1385))))
      replace BK1396 := Aside0.mk (blk_kept (ba BK1396.out) hkp (fun hs_ => Or.elim hs_ (kne_ HO1399 BK1396) (fun e_ => Or.elim e_ (kne_ HO1402 BK1396) (kne_ HO1405 BK1396))))
      replace HB := Aside0.mk (hb)
      clear HO1399 HO1402 HO1405
      clear hb ho0 ho1 ho2
      refine hK.out _ _ ⟨bc_ BK1385 0, bc_ BK1385 1, bc_ BK1385 2, bc_ BK1396 0, bc_ BK1396 1⟩ (fun hHeld => ?_)
      clear hK K
      refine nm_ 30 ?_
      refine pu_ 4 26 (bs 10 31) HT_ ?_
      refine pu_ 5 31 (bs 10 63) HT_ ?_
      refine pu_ 6 32 (bs 10 127) HT_ ?_
      refine one_ (i := 7) (N := some 10) (bs 10 255) rfl rfl (one_of HT_.out (by kernel_rfl)) (by decide) (fun K hK => ?_)
      refine box_step ?hg (N := 10) ?hd (cs := #[.slice none 0 0, .slice none 0 0, .slice none 0 0]) (t := 47) ?hr ?_; (case hd => rfl); (case hg => rfl); (case hr => first | (go_simp; done) | (go_simp; rfl))
      intro gb1416 hg w65 hbox hb
      have BK1416 := Aside0.mk (hbox)
      have GW1416 := gw_ hg HB
      have GE1416 := gw_ hg HB
      have NB1374_1416 := nl_ hg BK1374
      have NB1416_1374 := ng_ hg BK1374
      have NB1385_1416 := nl_ hg BK1385
      have NB1416_1385 := ng_ hg BK1385
      have NB1396_1416 := nl_ hg BK1396
      have NB1416_1396 := ng_ hg BK1396
      replace HO_7 := rb_ HO_7 hb
      replace HO_1386000 := rb_ HO_1386000 hb
      replace HO_1386001 := rb_ HO_1386001 hb
      replace HO_1386002 := rb_ HO_1386002 hb
      replace HO1408 := rb_ HO1408 hb
      replace HO1411 := rb_ HO1411 hb
      replace HO1414 := rb_ HO1414 hb
      replace BK1374 := bb_ BK1374 hb
      replace BK1385 := bb_ BK1385 hb
      replace BK1396 := bb_ BK1396 hb
      replace HB := bst_ HB hb
      clear hb hbox hg
      refine hK.out _ _ ⟨bc_ BK1385 0, bc_ BK1385 1, bc_ BK1385 2, bc_ BK1396 0, bc_ BK1396 1⟩ (fun hHeld => ?_)
      clear hK K
      refine nm_ 10 ?_
      exact norm_ (by simp only [putAll, Act.put, List.setIfInBounds_toArray, List.set_cons_zero, List.set_cons_succ]) (hCont (.slice Ao61 t1397.length co61, .slice Ao62 t1400.length co62, .slice Ao63 t1403.length co63, v1407, v1410, v1413, gb1416) _ ⟨hHeld, (ra HO1408.out), (ra HO1411.out), (ra HO1414.out), (rm_ HO_1386000 (fun _ hk => ⟨hk.2.1, ⟨hk.2.2, hk.1⟩⟩)).out, (rm_ HO_1386001 (fun _ hk => ⟨hk.2.1, ⟨hk.2.2, hk.1⟩⟩)).out, (ra HO_1386002.out), (ra HO_7.out), (ba BK1374.out), (ba BK1385.out), (ba BK1396.out), (ba BK1416.out), GW1416.out, GE1416.out, NB1374_1416.out, NB1416_1374.out, NB1385_1416.out, NB1416_1385.out, NB1396_1416.out, NB1416_1396.out, (hB HB)⟩)
     skip
     refine box_step ?hg (N := 10) ?hd (cs := #[.slice none 0 0, .slice none 0 0, .slice none 0 0]) (t := 47) ?hr ?_; (case hd => rfl); (case hg => rfl); (case hr => first | (go_simp; done) | (go_simp; rfl))
     intro gb1416 hg w61 hbox hb
     have BK1416 := Aside0.mk (hbox)
     have GW1416 := gw_ hg HB
     have GE1416 := gw_ hg HB
     have NB1374_1416 := nl_ hg BK1374
     have NB1416_1374 := ng_ hg BK1374
     have NB1385_1416 := nl_ hg BK1385
     have NB1416_1385 := ng_ hg BK1385
     have NB1396_1416 := nl_ hg BK1396
     have NB1416_1396 := ng_ hg BK1396
     replace HO_7 := rb_ HO_7 hb
     replace HO_1386000 := rb_ HO_1386000 hb
     replace HO_1386001 := rb_ HO_1386001 hb
     replace HO_1386002 := rb_ HO_1386002 hb
     replace HO1399 := rb_ HO1399 hb
     replace HO1402 := rb_ HO1402 hb
     replace HO1405 := rb_ HO1405 hb
     replace BK1374 := bb_ BK1374 hb
     replace BK1385 := bb_ BK1385 hb
     replace BK1396 := bb_ BK1396 hb
     replace HB := bst_ HB hb
     clear hb hbox hg
     obtain ⟨Ao62, co62, eo62⟩ := Kd.R_slice HO1399.out
     (first | subst eo62 | (injection eo62 with f1_ f2_ f3_; have f4_ := f1_.symm; have f5_ := f3_.symm; clear f1_ f2_ f3_; subst f4_; subst f5_))
     obtain ⟨Ao63, co63, eo63⟩ := Kd.R_slice HO1402.out
     (first | subst eo63 | (injection eo63 with f1_ f2_ f3_; have f4_ := f1_.symm; have f5_ := f3_.symm; clear f1_ f2_ f3_; subst f4_; subst f5_))
     obtain ⟨Ao64, co64, eo64⟩ := Kd.R_slice HO1405.out
     (first | subst eo64 | (injection eo64 with f1_ f2_ f3_; have f4_ := f1_.symm; have f5_ := f3_.symm; clear f1_ f2_ f3_; subst f4_; subst f5_))
     refine hK.out _ _ ⟨bc_ BK1385 0, bc_ BK1385 1, bc_ BK1385 2, bc_ BK1396 0, bc_ BK1396 1⟩ (fun hHeld => ?_)
     clear hK K
     refine nm_ 10 ?_
     refine one_ (i := 3) (N := some 30) (bs 10 143) rfl rfl (one_of HT_.out (by kernel_rfl)) (by decide) (fun K hK => ?_)
     refine goes_ Try.func87 (by kernel_rfl) rfl #[.agg #[.slice Ao62 t1397.length co62, .slice Ao63 t1400.length co63, .slice Ao64 t1403.length co64], .agg #[.int .i64 ((rd_T51 l0 x22_1).f0), .int .i64 ((rd_T51 l0 x22_1).f1)]] (by rfl) rfl rfl tm_ ?_
     with_reducible refine (spec_l3Step.calls k1 (fun k_ => some k_ = (.slice Ao62 t1397.length co62 : Value).ownBlock) (.slice Ao62 t1397.length co62) t1397 (fun k_ => some k_ = (.slice Ao63 t1400.length co63 : Value).ownBlock) (.slice Ao63 t1400.length co63) t1400 (fun k_ => some k_ = (.slice Ao64 t1403.length co64 : Value).ownBlock) (.slice Ao64 t1403.length co64) t1403 ((rd_T51 l0 x22_1).f0) ((rd_T51 l0 x22_1).f1) t1406 t1409 t1412 false w _ ?side1 ?side2 ?side3 ?side4 ?side5 ?side6 A18.out).mono ?_
     (case side1 => repeat (first | (with_reducible first | exact HB.out | apply below_alloc | apply pw_below_drewN | apply below_drew1 | refine below_set ?_ GE1374.out | refine below_set ?_ GE1385.out | refine below_set ?_ GE1396.out | refine below_set ?_ GE1416.out) | exact HB.out))
     (case side2 => exact Kd.R_tight rfl HO1399.out)
     (case side3 => exact fun k_ e_ => (HO1399.out.1 k_ e_.symm).1.1)
     (case side4 => exact Kd.R_tight rfl HO1402.out)
     (case side5 => exact fun k_ e_ => (HO1402.out.1 k_ e_.symm).1.1)
     (case side6 => exact Kd.R_tight rfl HO1405.out)
     rintro e w65 ⟨v1407, v1410, v1413, rfl, ho0, ho1, ho2, hb, hkp⟩
     refine ⟨_, rfl, ?_⟩
     have HO1408 := Aside0.mk (Kd.R_mono (ok' := fun k_ => no_ v1410 k_ ∧ no_ (.slice Ao55 x1386000_1.length co55) k_ ∧ no_ (.slice Ao56 x1386001_1.length co56) k_) ho0 (fun k_ hk_ => ⟨hk_.2, Or.elim hk_.1 (fun hs_ => Or.elim hs_ (fun hs_ => fun e_ => ((((Kd.R_apart' HO_1386000.out (Kd.R_typed HO1405.out) (by decide))).1 k_ e_.symm).1.1.2) hs_) (fun hs_ => Or.elim hs_ (fun hs_ => fun e_ => ((((Kd.R_apart' HO_1386000.out (Kd.R_typed HO1405.out) (by decide))).1 k_ e_.symm).1.2) hs_) (fun hs_ => fun e_ => ((((Kd.R_apart' HO_1386000.out (Kd.R_typed HO1405.out) (by decide))).1 k_ e_.symm).2) hs_))) (fun hn_ => (Kd.fresh' (rl_ HO_1386000) k_ hn_)), Or.elim hk_.1 (fun hs_ => Or.elim hs_ (fun hs_ => fun e_ => ((((Kd.R_apart' HO_1386001.out (Kd.R_typed HO1405.out) (by decide))).1 k_ e_.symm).1.1.2) hs_) (fun hs_ => Or.elim hs_ (fun hs_ => fun e_ => ((((Kd.R_apart' HO_1386001.out (Kd.R_typed HO1405.out) (by decide))).1 k_ e_.symm).1.2) hs_) (fun hs_ => fun e_ => ((((Kd.R_apart' HO_1386001.out (Kd.R_typed HO1405.out) (by decide))).1 k_ e_.symm).2) hs_))) (fun hn_ => (Kd.fresh' (rl_ HO_1386001) k_ hn_))⟩))
     have HO1411 := Aside0.mk (Kd.R_mono (ok' := fun k_ => no_ v1407 k_ ∧ no_ (.slice Ao55 x1386000_1.length co55) k_ ∧ no_ (.slice Ao56 x1386001_1.length co56) k_) ho1 (fun k_ hk_ => ⟨hk_.2, Or.elim hk_.1 (fun hs_ => Or.elim hs_ (fun hs_ => fun e_ => ((((Kd.R_apart' HO_1386000.out (Kd.R_typed HO1405.out) (by decide))).1 k_ e_.symm).1.1.2) hs_) (fun hs_ => Or.elim hs_ (fun hs_ => fun e_ => ((((Kd.R_apart' HO_1386000.out (Kd.R_typed HO1405.out) (by decide))).1 k_ e_.symm).1.2) hs_) (fun hs_ => fun e_ => ((((Kd.R_apart' HO_1386000.out (Kd.R_typed HO1405.out) (by decide))).1 k_ e_.symm).2) hs_))) (fun hn_ => (Kd.fresh' (rl_ HO_1386000) k_ hn_)), Or.elim hk_.1 (fun hs_ => Or.elim hs_ (fun hs_ => fun e_ => ((((Kd.R_apart' HO_1386001.out (Kd.R_typed HO1405.out) (by decide))).1 k_ e_.symm).1.1.2) hs_) (fun hs_ => Or.elim hs_ (fun hs_ => fun e_ => ((((Kd.R_apart' HO_1386001.out (Kd.R_typed HO1405.out) (by decide))).1 k_ e_.symm).1.2) hs_) (fun hs_ => fun e_ => ((((Kd.R_apart' HO_1386001.out (Kd.R_typed HO1405.out) (by decide))).1 k_ e_.symm).2) hs_))) (fun hn_ => (Kd.fresh' (rl_ HO_1386001) k_ hn_))⟩))
     have HO1414 := Aside0.mk (Kd.R_mono (ok' := fun k_ => no_ (.slice Ao57 x1386002_1.length co57) k_) ho2 (fun k_ hk_ => Or.elim hk_ (fun hs_ => Or.elim hs_ (fun hs_ => fun e_ => ((((Kd.R_apart' (Kd.R_apart' HO_1386002.out (Kd.R_typed HO1399.out) (by decide)) (Kd.R_typed HO1402.out) (by decide))).1 k_ e_.symm).1.2) hs_) (fun hs_ => Or.elim hs_ (fun hs_ => fun e_ => ((((Kd.R_apart' (Kd.R_apart' HO_1386002.out (Kd.R_typed HO1399.out) (by decide)) (Kd.R_typed HO1402.out) (by decide))).1 k_ e_.symm).2) hs_) (fun hs_ => fun e_ => ((((Kd.R_apart' (Kd.R_apart' HO_1386002.out (Kd.R_typed HO1399.out) (by decide)) (Kd.R_typed HO1402.out) (by decide))).1 k_ e_.symm).1.1.2) hs_))) (fun hn_ => (Kd.fresh' (rl_ HO_1386002) k_ hn_))))
     replace HO_7 := Aside0.mk (Kd.R_mono (ok' := fun k_ => True) (Kd.R_keptB ((Kd.R_apart' (Kd.R_apart' (Kd.R_apart' HO_7.out (Kd.R_typed HO1399.out) (by decide)) (Kd.R_typed HO1402.out) (by decide)) (Kd.R_typed HO1405.out) (by decide))) hkp (fun k_ hk_ hs_ => Or.elim hs_ (fun e_ => (hk_.1.1.2) e_) (fun e_ => Or.elim e_ (fun e_ => (hk_.1.2) e_) (fun e_ => (hk_.2) e_)))) (fun k_ hk_ => trivial))
     replace HO_1386000 := Aside0.mk (Kd.R_mono (ok' := fun k_ => no_ (.slice Ao56 x1386001_1.length co56) k_ ∧ no_ v1407 k_ ∧ no_ v1410 k_) (Kd.R_keptB ((Kd.R_apart' HO_1386000.out (Kd.R_typed HO1405.out) (by decide))) hkp (fun k_ hk_ hs_ => Or.elim hs_ (fun e_ => (hk_.1.1.2) e_) (fun e_ => Or.elim e_ (fun e_ => (hk_.1.2) e_) (fun e_ => (hk_.2) e_)))) (fun k_ hk_ => ⟨hk_.1.1.1.1, fun e_ => Or.elim (ho0.1 k_ e_.symm).1 (fun hs_ => hk_.2.1 hs_) (fun hn_ => Nat.not_le.2 hk_.2.2 hn_), fun e_ => Or.elim (ho1.1 k_ e_.symm).1 (fun hs_ => hk_.2.1 hs_) (fun hn_ => Nat.not_le.2 hk_.2.2 hn_)⟩))
     replace HO_1386001 := Aside0.mk (Kd.R_mono (ok' := fun k_ => no_ (.slice Ao55 x1386000_1.length co55) k_ ∧ no_ v1407 k_ ∧ no_ v1410 k_) (Kd.R_keptB ((Kd.R_apart' HO_1386001.out (Kd.R_typed HO1405.out) (by decide))) hkp (fun k_ hk_ hs_ => Or.elim hs_ (fun e_ => (hk_.1.1.2) e_) (fun e_ => Or.elim e_ (fun e_ => (hk_.1.2) e_) (fun e_ => (hk_.2) e_)))) (fun k_ hk_ => ⟨hk_.1.1.1.1, fun e_ => Or.elim (ho0.1 k_ e_.symm).1 (fun hs_ => hk_.2.1 hs_) (fun hn_ => Nat.not_le.2 hk_.2.2 hn_), fun e_ => Or.elim (ho1.1 k_ e_.symm).1 (fun hs_ => hk_.2.1 hs_) (fun hn_ => Nat.not_le.2 hk_.2.2 hn_)⟩))
     replace HO_1386002 := Aside0.mk (Kd.R_mono (ok' := fun k_ => no_ v1413 k_) (Kd.R_keptB ((Kd.R_apart' (Kd.R_apart' HO_1386002.out (Kd.R_typed HO1399.out) (by decide)) (Kd.R_typed HO1402.out) (by decide))) hkp (fun k_ hk_ hs_ => Or.elim hs_ (fun e_ => (hk_.1.2) e_) (fun e_ => Or.elim e_ (fun e_ => (hk_.2) e_) (fun e_ => (hk_.1.1.2) e_)))) (fun k_ hk_ => fun e_ => Or.elim (ho2.1 k_ e_.symm) (fun hs_ => hk_.2.1 hs_) (fun hn_ => Nat.not_le.2 hk_.2.2 hn_)))
     replace BK1374 := Aside0.mk (blk_kept (ba BK1374.out) hkp (fun hs_ => Or.elim hs_ (kne_ HO1399 BK1374) (fun e_ => Or.elim e_ (kne_ HO1402 BK1374) (kne_ HO1405 BK1374))))
     replace BK1385 := Aside0.mk (blk_kept (ba BK1385.out) hkp (fun hs_ => Or.elim hs_ (kne_ HO1399 BK1385) (fun e_ => Or.elim e_ (kne_ HO1402 BK1385) (kne_ HO1405 BK1385))))
     replace BK1396 := Aside0.mk (blk_kept (ba BK1396.out) hkp (fun hs_ => Or.elim hs_ (kne_ HO1399 BK1396) (fun e_ => Or.elim e_ (kne_ HO1402 BK1396) (kne_ HO1405 BK1396))))
     replace BK1416 := Aside0.mk (blk_kept (ba BK1416.out) hkp (fun hs_ => Or.elim hs_ (kne_ HO1399 BK1416) (fun e_ => Or.elim e_ (kne_ HO1402 BK1416) (kne_ HO1405 BK1416))))
     replace HB := Aside0.mk (hb)
     clear HO1399 HO1402 HO1405
     clear hb ho0 ho1 ho2
     refine hK.out _ _ ⟨bc_ BK1385 0, bc_ BK1385 1, bc_ BK1385 2, bc_ BK1396 0, bc_ BK1396 1⟩ (fun hHeld => ?_)
     clear hK K
     refine nm_ 30 ?_
     refine pu_ 4 26 (bs 10 159) HT_ ?_
     refine pu_ 5 31 (bs 10 191) HT_ ?_
     refine pu_ 6 32 (bs 10 255) HT_ ?_
     exact norm_ (by simp only [putAll, Act.put, List.setIfInBounds_toArray, List.set_cons_zero, List.set_cons_succ]) (hCont (.slice Ao62 t1397.length co62, .slice Ao63 t1400.length co63, .slice Ao64 t1403.length co64, v1407, v1410, v1413, gb1416) _ ⟨hHeld, (ra HO1408.out), (ra HO1411.out), (ra HO1414.out), (rm_ HO_1386000 (fun _ hk => ⟨hk.2.1, ⟨hk.2.2, hk.1⟩⟩)).out, (rm_ HO_1386001 (fun _ hk => ⟨hk.2.1, ⟨hk.2.2, hk.1⟩⟩)).out, (ra HO_1386002.out), (ra HO_7.out), (ba BK1374.out), (ba BK1385.out), (ba BK1396.out), (ba BK1416.out), GW1416.out, GE1416.out, NB1374_1416.out, NB1416_1374.out, NB1385_1416.out, NB1416_1385.out, NB1396_1416.out, NB1416_1396.out, (hB HB)⟩)
    rintro ⟨v1398, v1401, v1404, v1407, v1410, v1413, gb1416⟩ w66 ⟨hS_, h0_, h1_, h2_, h3_, h4_, h5_, h6_, h7_, h8_, h9_, h10_, h11_, h12_, h13_, h14_, h15_, h16_, h17_, h18_, h19_⟩
    try dsimp only at h0_ h1_ h2_ h3_ h4_ h5_ h6_ h7_ h8_ h9_ h10_ h11_ h12_ h13_ h14_ h15_ h16_ h17_ h18_ h19_
    have HO1408 := Aside0.mk h0_
    have HO1411 := Aside0.mk h1_
    have HO1414 := Aside0.mk h2_
    have BK1416 := Aside0.mk h10_
    have GW1416 := Aside0.mk h11_
    have GE1416 := Aside0.mk h12_
    have NB1374_1416 := Aside0.mk h13_
    have NB1416_1374 := Aside0.mk h14_
    have NB1385_1416 := Aside0.mk h15_
    have NB1416_1385 := Aside0.mk h16_
    have NB1396_1416 := Aside0.mk h17_
    have NB1416_1396 := Aside0.mk h18_
    replace HO_1386000 := Aside0.mk h3_
    replace HO_1386001 := Aside0.mk h4_
    replace HO_1386002 := Aside0.mk h5_
    replace HO_7 := Aside0.mk h6_
    replace BK1374 := Aside0.mk h7_
    replace BK1385 := Aside0.mk h8_
    replace BK1396 := Aside0.mk h9_
    replace HB := Aside0.mk h19_
    clear h0_ h1_ h2_ h3_ h4_ h5_ h6_ h7_ h8_ h9_ h10_ h11_ h12_ h13_ h14_ h15_ h16_ h17_ h18_ h19_
    have hHeld : w66.cell? ⟨gb1385, 0, none⟩ = some (.slice Ao55 x1386000_1.length co55) ∧ w66.cell? ⟨gb1385, 1, none⟩ = some (.slice Ao56 x1386001_1.length co56) ∧ w66.cell? ⟨gb1385, 2, none⟩ = some (.slice Ao57 x1386002_1.length co57) ∧ w66.cell? ⟨gb1396, 0, none⟩ = some (.int .i64 ((rd_T51 l0 x22_1).f0)) ∧ w66.cell? ⟨gb1396, 1, none⟩ = some (.int .i64 ((rd_T51 l0 x22_1).f1)) := hS_
    obtain ⟨Ao67, co67, eo67⟩ := Kd.R_slice HO1408.out
    (first | subst eo67 | (injection eo67 with f1_ f2_ f3_; have f4_ := f1_.symm; have f5_ := f3_.symm; clear f1_ f2_ f3_; subst f4_; subst f5_))
    obtain ⟨Ao69, co69, eo69⟩ := Kd.R_slice HO1411.out
    (first | subst eo69 | (injection eo69 with f1_ f2_ f3_; have f4_ := f1_.symm; have f5_ := f3_.symm; clear f1_ f2_ f3_; subst f4_; subst f5_))
    obtain ⟨Ao71, co71, eo71⟩ := Kd.R_slice HO1414.out
    (first | subst eo71 | (injection eo71 with f1_ f2_ f3_; have f4_ := f1_.symm; have f5_ := f3_.symm; clear f1_ f2_ f3_; subst f4_; subst f5_))
    refine norm_ (a' := ?_) ?_ ?_
    rotate_left
    ·simp only [putAll, Act.put, List.setIfInBounds_toArray, List.set_cons_zero, List.set_cons_succ]
     rfl
    refine one_ (i := 8) (N := none) (bs 10 511) rfl rfl (one_of HT_.out (by kernel_rfl)) (by decide) (fun K hK => ?_)
    have hs68 : w66.cell? ⟨gb1416, 0, none⟩ = some (.slice none 0 0) := bc_ BK1416 0
    have hfs68 := blk_frozen BK1416.out 0
    have hns68_0 := NB1374_1416.out
    have hns68_1 := NB1385_1416.out
    have hns68_2 := NB1396_1416.out
    have hms68_0 := NB1416_1374.out
    have hms68_1 := NB1416_1385.out
    have hms68_2 := NB1416_1396.out
    have hs70 : w66.cell? ⟨gb1416, 1, none⟩ = some (.slice none 0 0) := bc_ BK1416 1
    have hfs70 := blk_frozen BK1416.out 1
    have hns70_0 := NB1374_1416.out
    have hns70_1 := NB1385_1416.out
    have hns70_2 := NB1396_1416.out
    have hms70_0 := NB1416_1374.out
    have hms70_1 := NB1416_1385.out
    have hms70_2 := NB1416_1396.out
    have hs72 : w66.cell? ⟨gb1416, 2, none⟩ = some (.slice none 0 0) := bc_ BK1416 2
    have hfs72 := blk_frozen BK1416.out 2
    have hns72_0 := NB1374_1416.out
    have hns72_1 := NB1385_1416.out
    have hns72_2 := NB1396_1416.out
    have hms72_0 := NB1416_1374.out
    have hms72_1 := NB1416_1385.out
    have hms72_2 := NB1416_1396.out
    refine skip_ (w1 := ?_) (by rfl) rfl ?_ ?_
    rotate_left
    ·go_simp
     rfl
    refine hK.out _ _ ⟨((cell_far (p := ⟨gb1416, _, none⟩) NB1385_1416.out _).trans (((cell_far (p := ⟨gb1416, _, none⟩) NB1385_1416.out _).trans (((cell_far (p := ⟨gb1416, _, none⟩) NB1385_1416.out _).trans (hHeld.1)))))), ((cell_far (p := ⟨gb1416, _, none⟩) NB1385_1416.out _).trans (((cell_far (p := ⟨gb1416, _, none⟩) NB1385_1416.out _).trans (((cell_far (p := ⟨gb1416, _, none⟩) NB1385_1416.out _).trans (hHeld.2.1)))))), ((cell_far (p := ⟨gb1416, _, none⟩) NB1385_1416.out _).trans (((cell_far (p := ⟨gb1416, _, none⟩) NB1385_1416.out _).trans (((cell_far (p := ⟨gb1416, _, none⟩) NB1385_1416.out _).trans (hHeld.2.2.1)))))), ((cell_far (p := ⟨gb1416, _, none⟩) NB1396_1416.out _).trans (((cell_far (p := ⟨gb1416, _, none⟩) NB1396_1416.out _).trans (((cell_far (p := ⟨gb1416, _, none⟩) NB1396_1416.out _).trans (hHeld.2.2.2.1)))))), ((cell_far (p := ⟨gb1416, _, none⟩) NB1396_1416.out _).trans (((cell_far (p := ⟨gb1416, _, none⟩) NB1396_1416.out _).trans (((cell_far (p := ⟨gb1416, _, none⟩) NB1396_1416.out _).trans (hHeld.2.2.2.2))))))⟩ (fun hHeld => ?_)
    clear hK K
    refine pu_ 9 11 (bs 10 1023) HT_ ?_
    refine done_ (done_of HT_.out (by kernel_rfl)) ?_
    try go_wp2_with (first | ((with_reducible refine gate_builtin (b := .append) (xs := #[.tmp 35, .tmp 37]) rfl ?_); at_builtin; refine Kd.R_append Kd.bool (w0 := w) w.heap.size rfl (.tmp 35) (.tmp 37) 82 4 (.bool false) 1 rfl Try.underlying82 info4 rfl (by decide) (by omega) u7 x7_1 false [.bool false] (fun _ => True) (fun _ => False) rfl (by first | (go_simp; done) | (go_simp; rfl)) ?aP (fun _ hk => hk.elim) ?aF ?aO ?aB ?aS ?aL ?_; (case aP => exact rfl); (case aB => exact (hB HB)); (case aF => exact (fun _ _ => trivial)); (case aO => exact (ra (Kd.R_mono (fs3_ HO_7.out BK1416.out) (fun _ hk => trivial)))); (case aS => exact (below_size (hB HB))); (case aL => have := LMc50.out; omega); intro v1421 w73 ho hb hg hat; rw [← Ny1420.out] at ho; have HO1422 := Aside0.mk (ho); replace HO_1386000 := Aside0.mk (Kd.R_over' (ra (fm3_ HO_1386000 BK1416)) (Kd.R_typed (ra (fm3_ HO_7 BK1416))) (by decide) hg); replace HO_1386001 := Aside0.mk (Kd.R_over' (ra (fm3_ HO_1386001 BK1416)) (Kd.R_typed (ra (fm3_ HO_7 BK1416))) (by decide) hg); replace HO_1386002 := Aside0.mk (Kd.R_over' (ra (fm3_ HO_1386002 BK1416)) (Kd.R_typed (ra (fm3_ HO_7 BK1416))) (by decide) hg); replace BK1374 := Aside0.mk (blk_grown (g := gb1374) (o := .cells #[.slice none 0 0, .slice none 0 0, .slice none 0 0] 47 (0, 0)) (bx BK1374) hg (Kd.R_ne HO_7.out BK1374.out (by decide))); replace BK1385 := Aside0.mk (blk_grown (g := gb1385) (o := .cells #[.slice Ao55 x1386000_1.length co55, .slice Ao56 x1386001_1.length co56, .slice Ao57 x1386002_1.length co57] 47 (0, 0)) (bx BK1385) hg (Kd.R_ne HO_7.out BK1385.out (by decide))); replace BK1396 := Aside0.mk (blk_grown (g := gb1396) (o := .cells #[.int .i64 ((rd_T51 l0 x22_1).f0), .int .i64 ((rd_T51 l0 x22_1).f1)] 51 (0, 0)) (bx BK1396) hg (Kd.R_ne HO_7.out BK1396.out (by decide))); replace HO1408 := Aside0.mk (Kd.R_over' (ra (fm3_ HO1408 BK1416)) (Kd.R_typed (ra (fm3_ HO_7 BK1416))) (by decide) hg); replace HO1411 := Aside0.mk (Kd.R_over' (ra (fm3_ HO1411 BK1416)) (Kd.R_typed (ra (fm3_ HO_7 BK1416))) (by decide) hg); replace HO1414 := Aside0.mk (Kd.R_over' (ra (fm3_ HO1414 BK1416)) (Kd.R_typed (ra (fm3_ HO_7 BK1416))) (by decide) hg); replace BK1416 := Aside0.mk (blk_grown (g := gb1416) (o := .cells #[.slice Ao67 t1406.length co67, .slice Ao69 t1409.length co69, .slice Ao71 t1412.length co71] 47 (0, 0)) (by (with_reducible repeat (first | refine blk_drewN ?_ _ | refine blk_drew ?_ | refine blk_alloc ?_ _)); refine blk_put (cs := #[.slice Ao67 t1406.length co67, .slice Ao69 t1409.length co69, .slice none 0 0]) ?_ 2 _ rfl; (with_reducible repeat (first | refine blk_drewN ?_ _ | refine blk_drew ?_ | refine blk_alloc ?_ _)); refine blk_put (cs := #[.slice Ao67 t1406.length co67, .slice none 0 0, .slice none 0 0]) ?_ 1 _ rfl; (with_reducible repeat (first | refine blk_drewN ?_ _ | refine blk_drew ?_ | refine blk_alloc ?_ _)); refine blk_put (cs := #[.slice none 0 0, .slice none 0 0, .slice none 0 0]) ?_ 0 _ rfl; (with_reducible repeat (first | refine blk_drewN ?_ _ | refine blk_drew ?_ | refine blk_alloc ?_ _)); exact BK1416.out) hg (Kd.R_ne HO_7.out BK1416.out (by decide))); replace HB := Aside0.mk (hb); clear HO_7; clear ho hb hg hat))
    go_roundg k1
    case measure => have := HK1.out; omega
    case rel => exact ⟨(y1420), (wrap64 (x22_1 + 1)), (x1386000_1), (x1386001_1), (x1386002_1), (.slice Ao55 x1386000_1.length co55), (.slice Ao56 x1386001_1.length co56), (.slice Ao57 x1386002_1.length co57), (by first | rfl | (simp; done) | (simp [*]; done)), H', ⟨by have := HK1.out; omega⟩, ⟨ra HO1422.out⟩, rm_ HO_1386000 (fun _ hk => hk.2.2), rm_ HO_1386001 (fun _ hk => hk.2.2), rm_ HO_1386002 (fun _ hk => trivial), ⟨by (with_reducible repeat (first | refine blk_drewN ?_ _ | refine blk_drew ?_ | refine blk_alloc ?_ _)); exact BK1374.out⟩, ⟨by (with_reducible repeat (first | refine blk_drewN ?_ _ | refine blk_drew ?_ | refine blk_alloc ?_ _)); exact BK1385.out⟩, ⟨hB HB⟩⟩
   subst c19
   rw [if_pos rfl] at H
   by_cases c20 : x7_1.length < 140737488355328
   rotate_left
   ·rw [if_neg c20] at H
    exact absurd H (by simp)
   rw [if_pos c20] at H
   have LMc20 := Aside0.mk c20
   clear c20
   obtain ⟨y1417, hy1417⟩ : ∃ y_ : List Bool, y_ = (x7_1 ++ [true]) := ⟨_, rfl⟩
   replace H : (spec_PlayPair.l0 k1 y1417 l0 (l0.length : Int) (wrap64 (x22_1 + 1)) t1406 t1409 t1412) = some (r1, r2, r3, r4, r5) := by first | (rw [hy1417]; with_reducible exact H) | (have H2_ := (Option.bind_some _ _).symm.trans H; rw [hy1417]; with_reducible exact H2_) | (have H2_ := (Option.bind_some _ _).symm.trans H; with_reducible exact H2_) | with_reducible exact H | (rw [hy1417]; exact H) | exact H
   have Ny1417 := Aside0.mk hy1417
   clear hy1417
   have H' := Aside0.mk H
   clear H
   have p1395 : 0 ≤ (x22_1 : Int) := of_decide_eq_true (by first | (with_reducible assumption) | assumption)
   have q1395 : x22_1 < (l0.length : Int) := of_decide_eq_true (by first | (with_reducible assumption) | assumption)
   obtain ⟨ad1395, e1395, hx1395_0, hx1395_1⟩ := at_T51 HR0.out x22_1 p1395 q1395
   cases e1395
   replace hx1395_0 := (HB.out.cell (World.block_lt_of_cell? w _ hx1395_0)).trans hx1395_0
   replace hx1395_1 := (HB.out.cell (World.block_lt_of_cell? w _ hx1395_1)).trans hx1395_1
   replace p1395 := eq_true p1395
   replace q1395 := eq_true q1395
   try go_wp2_with (first | ((with_reducible refine gate_dst (N := 9) rfl ?_); refine box_event ?hg (N := 9) ?hd (cs := #[.int .i64 0, .int .i64 0]) (t := 51) ?hr ?_; (case hd => rfl); (case hg => rfl); (case hr => first | (go_simp; done) | (go_simp; rfl)); intro gb1396 hg w21 hbox hb; have BK1396 := Aside0.mk (hbox); have GW1396 := gw_ hg HB; have GE1396 := gw_ hg HB; have NB1374_1396 := nl_ hg BK1374; have NB1396_1374 := ng_ hg BK1374; have NB1385_1396 := nl_ hg BK1385; have NB1396_1385 := ng_ hg BK1385; replace HO_7 := rb_ HO_7 hb; replace HO_1386000 := rb_ HO_1386000 hb; replace HO_1386001 := rb_ HO_1386001 hb; replace HO_1386002 := rb_ HO_1386002 hb; replace BK1374 := bb_ BK1374 hb; replace BK1385 := bb_ BK1385 hb; replace HB := bst_ HB hb; clear hb hbox hg; have hnb22 := NB1396_1374.out; have hnc22 := NB1374_1396.out; have hnb23 := NB1396_1385.out; have hnc23 := NB1385_1396.out; have hcz24_0 : w21.cell? ⟨gb1396, 0, none⟩ = some (.int .i64 0) := bc_ BK1396 0; have hcz24_1 : w21.cell? ⟨gb1396, 1, none⟩ = some (.int .i64 0) := bc_ BK1396 1; have hfz24_0 := blk_frozen BK1396.out 0; have hfz24_1 := blk_frozen BK1396.out 1; obtain ⟨Ao25, co25, eo25⟩ := Kd.R_slice HO_1386000.out; subst eo25; obtain ⟨Ao26, co26, eo26⟩ := Kd.R_slice HO_1386001.out; subst eo26; obtain ⟨Ao27, co27, eo27⟩ := Kd.R_slice HO_1386002.out; subst eo27))
   have n0_ : Aside0 (Kd.R Kd.bool 4 ((w21.setCell ⟨gb1396, 0, none⟩ (.int .i64 ((rd_T51 l0 x22_1).f0))).setCell ⟨gb1396, 1, none⟩ (.int .i64 ((rd_T51 l0 x22_1).f1))) w.heap.size (fun _ => True) u7 x7_1) := ⟨by (with_reducible repeat (first | apply Kd.R_alloc | apply Kd.R_drewN | apply Kd.R_drew)); exact Kd.R_mono (Kd.R_far (p := ⟨gb1396, 1, none⟩) (Kd.R_far (p := ⟨gb1396, 0, none⟩) (Kd.R_types HO_7.out BK1396.out (by decide)) (fun _ hk => hk.2) (.int .i64 ((rd_T51 l0 x22_1).f0))) (fun _ hk => hk.2) (.int .i64 ((rd_T51 l0 x22_1).f1))) (fun _ hk => trivial)⟩
   have n1_ : Aside0 (Kd.R (Kd.int .i64) 3 ((w21.setCell ⟨gb1396, 0, none⟩ (.int .i64 ((rd_T51 l0 x22_1).f0))).setCell ⟨gb1396, 1, none⟩ (.int .i64 ((rd_T51 l0 x22_1).f1))) w.heap.size (fun k_ => no_ (.slice Ao26 x1386001_1.length co26) k_) (.slice Ao25 x1386000_1.length co25) x1386000_1) := ⟨by (with_reducible repeat (first | apply Kd.R_alloc | apply Kd.R_drewN | apply Kd.R_drew)); exact Kd.R_mono (Kd.R_far (p := ⟨gb1396, 1, none⟩) (Kd.R_far (p := ⟨gb1396, 0, none⟩) (Kd.R_types HO_1386000.out BK1396.out (by decide)) (fun _ hk => hk.2) (.int .i64 ((rd_T51 l0 x22_1).f0))) (fun _ hk => hk.2) (.int .i64 ((rd_T51 l0 x22_1).f1))) (fun _ hk => hk.1)⟩
   have n2_ : Aside0 (Kd.R (Kd.int .i64) 3 ((w21.setCell ⟨gb1396, 0, none⟩ (.int .i64 ((rd_T51 l0 x22_1).f0))).setCell ⟨gb1396, 1, none⟩ (.int .i64 ((rd_T51 l0 x22_1).f1))) w.heap.size (fun k_ => no_ (.slice Ao25 x1386000_1.length co25) k_) (.slice Ao26 x1386001_1.length co26) x1386001_1) := ⟨by (with_reducible repeat (first | apply Kd.R_alloc | apply Kd.R_drewN | apply Kd.R_drew)); exact Kd.R_mono (Kd.R_far (p := ⟨gb1396, 1, none⟩) (Kd.R_far (p := ⟨gb1396, 0, none⟩) (Kd.R_types HO_1386001.out BK1396.out (by decide)) (fun _ hk => hk.2) (.int .i64 ((rd_T51 l0 x22_1).f0))) (fun _ hk => hk.2) (.int .i64 ((rd_T51 l0 x22_1).f1))) (fun _ hk => hk.1)⟩
   have n3_ : Aside0 (Kd.R k127 127 ((w21.setCell ⟨gb1396, 0, none⟩ (.int .i64 ((rd_T51 l0 x22_1).f0))).setCell ⟨gb1396, 1, none⟩ (.int .i64 ((rd_T51 l0 x22_1).f1))) w.heap.size (fun _ => True) (.slice Ao27 x1386002_1.length co27) x1386002_1) := ⟨by (with_reducible repeat (first | apply Kd.R_alloc | apply Kd.R_drewN | apply Kd.R_drew)); exact Kd.R_mono (Kd.R_far (p := ⟨gb1396, 1, none⟩) (Kd.R_far (p := ⟨gb1396, 0, none⟩) (Kd.R_types HO_1386002.out BK1396.out (by decide)) (fun _ hk => hk.2) (.int .i64 ((rd_T51 l0 x22_1).f0))) (fun _ hk => hk.2) (.int .i64 ((rd_T51 l0 x22_1).f1))) (fun _ hk => trivial)⟩
   have n4_ : Aside0 (((w21.setCell ⟨gb1396, 0, none⟩ (.int .i64 ((rd_T51 l0 x22_1).f0))).setCell ⟨gb1396, 1, none⟩ (.int .i64 ((rd_T51 l0 x22_1).f1))).heap[gb1374]? = some (.cells #[.slice none 0 0, .slice none 0 0, .slice none 0 0] 47 (0, 0))) := ⟨by (with_reducible repeat (first | refine blk_drewN ?_ _ | refine blk_drew ?_ | refine blk_alloc ?_ _)); refine blk_far ?_ NB1374_1396.out _; (with_reducible repeat (first | refine blk_drewN ?_ _ | refine blk_drew ?_ | refine blk_alloc ?_ _)); refine blk_far ?_ NB1374_1396.out _; (with_reducible repeat (first | refine blk_drewN ?_ _ | refine blk_drew ?_ | refine blk_alloc ?_ _)); exact BK1374.out⟩
   have n5_ : Aside0 (((w21.setCell ⟨gb1396, 0, none⟩ (.int .i64 ((rd_T51 l0 x22_1).f0))).setCell ⟨gb1396, 1, none⟩ (.int .i64 ((rd_T51 l0 x22_1).f1))).heap[gb1385]? = some (.cells #[.slice Ao25 x1386000_1.length co25, .slice Ao26 x1386001_1.length co26, .slice Ao27 x1386002_1.length co27] 47 (0, 0))) := ⟨by (with_reducible repeat (first | refine blk_drewN ?_ _ | refine blk_drew ?_ | refine blk_alloc ?_ _)); refine blk_far ?_ NB1385_1396.out _; (with_reducible repeat (first | refine blk_drewN ?_ _ | refine blk_drew ?_ | refine blk_alloc ?_ _)); refine blk_far ?_ NB1385_1396.out _; (with_reducible repeat (first | refine blk_drewN ?_ _ | refine blk_drew ?_ | refine blk_alloc ?_ _)); exact BK1385.out⟩
   have n6_ : Aside0 (((w21.setCell ⟨gb1396, 0, none⟩ (.int .i64 ((rd_T51 l0 x22_1).f0))).setCell ⟨gb1396, 1, none⟩ (.int .i64 ((rd_T51 l0 x22_1).f1))).heap[gb1396]? = some (.cells #[.int .i64 ((rd_T51 l0 x22_1).f0), .int .i64 ((rd_T51 l0 x22_1).f1)] 51 (0, 0))) := ⟨by (with_reducible repeat (first | refine blk_drewN ?_ _ | refine blk_drew ?_ | refine blk_alloc ?_ _)); refine blk_put (cs := #[.int .i64 ((rd_T51 l0 x22_1).f0), .int .i64 0]) ?_ 1 _ rfl; (with_reducible repeat (first | refine blk_drewN ?_ _ | refine blk_drew ?_ | refine blk_alloc ?_ _)); refine blk_put (cs := #[.int .i64 0, .int .i64 0]) ?_ 0 _ rfl; (with_reducible repeat (first | refine blk_drewN ?_ _ | refine blk_drew ?_ | refine blk_alloc ?_ _)); exact BK1396.out⟩
   have n7_ : Aside0 (Below w.heap.size w ((w21.setCell ⟨gb1396, 0, none⟩ (.int .i64 ((rd_T51 l0 x22_1).f0))).setCell ⟨gb1396, 1, none⟩ (.int .i64 ((rd_T51 l0 x22_1).f1)))) := ⟨hB HB⟩
   (try clear HO_7)
   (try clear HO_1386000)
   (try clear HO_1386001)
   (try clear HO_1386002)
   (try clear BK1374)
   (try clear BK1385)
   (try clear BK1396)
   (try clear HB)
   generalize ((w21.setCell ⟨gb1396, 0, none⟩ (.int .i64 ((rd_T51 l0 x22_1).f0))).setCell ⟨gb1396, 1, none⟩ (.int .i64 ((rd_T51 l0 x22_1).f1))) = w28 at n0_ n1_ n2_ n3_ n4_ n5_ n6_ n7_ ⊢
   have HO_7 := n0_
   have HO_1386000 := n1_
   have HO_1386001 := n2_
   have HO_1386002 := n3_
   have BK1374 := n4_
   have BK1385 := n5_
   have BK1396 := n6_
   have HB := n7_
   clear n0_ n1_ n2_ n3_ n4_ n5_ n6_ n7_
   replace HO_7 := rd_ HO_7
   replace HO_1386000 := rd_ HO_1386000
   replace HO_1386001 := rd_ HO_1386001
   replace HO_1386002 := rd_ HO_1386002
   replace BK1374 := bd_ BK1374
   replace BK1385 := bd_ BK1385
   replace BK1396 := bd_ BK1396
   replace HB := Aside0.mk (below_drew1 HB.out)
   refine start_ (n := 10) (S := fun w' => w'.cell? ⟨gb1385, 0, none⟩ = some (.slice Ao25 x1386000_1.length co25) ∧ w'.cell? ⟨gb1385, 1, none⟩ = some (.slice Ao26 x1386001_1.length co26) ∧ w'.cell? ⟨gb1385, 2, none⟩ = some (.slice Ao27 x1386002_1.length co27) ∧ w'.cell? ⟨gb1396, 0, none⟩ = some (.int .i64 ((rd_T51 l0 x22_1).f0)) ∧ w'.cell? ⟨gb1396, 1, none⟩ = some (.int .i64 ((rd_T51 l0 x22_1).f1))) (ds := []) (bs 10 0) (by kernel_rfl) rfl rfl ⟨bc_ BK1385 0, bc_ BK1385 1, bc_ BK1385 2, bc_ BK1396 0, bc_ BK1396 1⟩ (fun hHeld => ?_); refine with_tabW spec_PlayPair.tab8 spec_PlayPair.bits8 (fun HT_ HW_ => ?_)
   generalize w28.drew = w29 at HO_7 HO_1386000 HO_1386001 HO_1386002 BK1374 BK1385 BK1396 HB hHeld ⊢
   refine tk_ 0 27 (bs 10 1) HT_ HW_ hHeld ?_
   refine tk_ 2 29 (bs 10 5) HT_ HW_ hHeld ?_
   refine join_ (σ := Value × Value × Value × Value × Value × Value × Nat) 2 (bs 10 255) (fun s_ => [(28, .agg #[s_.1, s_.2.1, s_.2.2.1]), (30, .tuple #[.agg #[s_.2.2.2.1, s_.2.2.2.2.1, s_.2.2.2.2.2.1], .bool true]), (10, .pointer (some ⟨s_.2.2.2.2.2.2, 0, none⟩)), (26, .tuple #[.agg #[s_.2.2.2.1, s_.2.2.2.2.1, s_.2.2.2.2.2.1], .bool true]), (31, .agg #[s_.2.2.2.1, s_.2.2.2.2.1, s_.2.2.2.2.2.1]), (32, .bool true)]) (fun s_ w' => (w'.cell? ⟨gb1385, 0, none⟩ = some (.slice Ao25 x1386000_1.length co25) ∧ w'.cell? ⟨gb1385, 1, none⟩ = some (.slice Ao26 x1386001_1.length co26) ∧ w'.cell? ⟨gb1385, 2, none⟩ = some (.slice Ao27 x1386002_1.length co27) ∧ w'.cell? ⟨gb1396, 0, none⟩ = some (.int .i64 ((rd_T51 l0 x22_1).f0)) ∧ w'.cell? ⟨gb1396, 1, none⟩ = some (.int .i64 ((rd_T51 l0 x22_1).f1))) ∧ (Kd.R (Kd.int .i64) 3 w' w.heap.size (fun k_ => no_ s_.2.2.2.2.1 k_ ∧ no_ (.slice Ao25 x1386000_1.length co25) k_ ∧ no_ (.slice Ao26 x1386001_1.length co26) k_) s_.2.2.2.1 t1406) ∧ (Kd.R (Kd.int .i64) 3 w' w.heap.size (fun k_ => no_ s_.2.2.2.1 k_ ∧ no_ (.slice Ao25 x1386000_1.length co25) k_ ∧ no_ (.slice Ao26 x1386001_1.length co26) k_) s_.2.2.2.2.1 t1409) ∧ (Kd.R k127 127 w' w.heap.size (fun k_ => no_ (.slice Ao27 x1386002_1.length co27) k_) s_.2.2.2.2.2.1 t1412) ∧ (Kd.R (Kd.int .i64) 3 w' w.heap.size (fun k_ => no_ s_.2.2.2.1 k_ ∧ no_ s_.2.2.2.2.1 k_ ∧ no_ (.slice Ao26 x1386001_1.length co26) k_) (.slice Ao25 x1386000_1.length co25) x1386000_1) ∧ (Kd.R (Kd.int .i64) 3 w' w.heap.size (fun k_ => no_ s_.2.2.2.1 k_ ∧ no_ s_.2.2.2.2.1 k_ ∧ no_ (.slice Ao25 x1386000_1.length co25) k_) (.slice Ao26 x1386001_1.length co26) x1386001_1) ∧ (Kd.R k127 127 w' w.heap.size (fun k_ => no_ s_.2.2.2.2.2.1 k_) (.slice Ao27 x1386002_1.length co27) x1386002_1) ∧ (Kd.R Kd.bool 4 w' w.heap.size (fun _ => True) u7 x7_1) ∧ (w'.heap[gb1374]? = some (.cells #[.slice none 0 0, .slice none 0 0, .slice none 0 0] 47 (0, 0))) ∧ (w'.heap[gb1385]? = some (.cells #[.slice Ao25 x1386000_1.length co25, .slice Ao26 x1386001_1.length co26, .slice Ao27 x1386002_1.length co27] 47 (0, 0))) ∧ (w'.heap[gb1396]? = some (.cells #[.int .i64 ((rd_T51 l0 x22_1).f0), .int .i64 ((rd_T51 l0 x22_1).f1)] 51 (0, 0))) ∧ (w'.heap[s_.2.2.2.2.2.2]? = some (.cells #[.slice none 0 0, .slice none 0 0, .slice none 0 0] 47 (0, 0))) ∧ (w.heap.size ≤ s_.2.2.2.2.2.2) ∧ (w.heap.size ≤ s_.2.2.2.2.2.2) ∧ (gb1374 ≠ s_.2.2.2.2.2.2) ∧ (s_.2.2.2.2.2.2 ≠ gb1374) ∧ (gb1385 ≠ s_.2.2.2.2.2.2) ∧ (s_.2.2.2.2.2.2 ≠ gb1385) ∧ (gb1396 ≠ s_.2.2.2.2.2.2) ∧ (s_.2.2.2.2.2.2 ≠ gb1396) ∧ (Below w.heap.size w w')) ?_ ?_
   rotate_left
   ·intro hCont
    refine two_ (i := 1) (j := 7) (Ni := some 28) (Nj := some 10) (bs 10 7) (bs 10 133) rfl rfl rfl rfl (two_of HT_.out (by kernel_rfl)) (by decide) (by decide) (fun K hK => ?_) (fun K hK => ?_)
    rotate_left
    ·skip
     refine box_step ?hg (N := 10) ?hd (cs := #[.slice none 0 0, .slice none 0 0, .slice none 0 0]) (t := 47) ?hr ?_; (case hd => rfl); (case hg => rfl); (case hr => first | (go_simp; done) | (go_simp; rfl))
     intro gb1416 hg w30 hbox hb
     have BK1416 := Aside0.mk (hbox)
     have GW1416 := gw_ hg HB
     have GE1416 := gw_ hg HB
     have NB1374_1416 := nl_ hg BK1374
     have NB1416_1374 := ng_ hg BK1374
     have NB1385_1416 := nl_ hg BK1385
     have NB1416_1385 := ng_ hg BK1385
     have NB1396_1416 := nl_ hg BK1396
     have NB1416_1396 := ng_ hg BK1396
     replace HO_7 := rb_ HO_7 hb
     replace HO_1386000 := rb_ HO_1386000 hb
     replace HO_1386001 := rb_ HO_1386001 hb
     replace HO_1386002 := rb_ HO_1386002 hb
     replace BK1374 := bb_ BK1374 hb
     replace BK1385 := bb_ BK1385 hb
     replace BK1396 := bb_ BK1396 hb
     replace HB := bst_ HB hb
     clear hb hbox hg
     refine hK.out _ _ ⟨bc_ BK1385 0, bc_ BK1385 1, bc_ BK1385 2, bc_ BK1396 0, bc_ BK1396 1⟩ (fun hHeld => ?_)
     clear hK K
     refine nm_ 10 ?_
     refine one_ (i := 1) (N := some 28) (bs 10 135) rfl rfl (one_of HT_.out (by kernel_rfl)) (by decide) (fun K hK => ?_)
     refine goes_ Try.func88 (by kernel_rfl) rfl #[.agg #[.slice Ao25 x1386000_1.length co25, .slice Ao26 x1386001_1.length co26, .slice Ao27 x1386002_1.length co27]] (by rfl) rfl rfl tm_ ?_
     with_reducible refine (spec_l3Own.calls _ _ x1386000_1 _ _ x1386001_1 _ _ x1386002_1 t1397 t1400 t1403 _ ?side1 ?side2 ?side3 ?side4 ?side5 ?side6 A17.out).mono ?_
     (case side1 => exact ca (Kd.R_reads' HO_1386000.out).2.2)
     (case side2 => exact (Kd.R_reads' HO_1386000.out).2.1)
     (case side3 => exact ca (Kd.R_reads' HO_1386001.out).2.2)
     (case side4 => exact (Kd.R_reads' HO_1386001.out).2.1)
     (case side5 => exact ca (Kd.R_reads' HO_1386002.out).2.2)
     (case side6 => exact (Kd.R_reads' HO_1386002.out).2.1)
     rintro e w31 ⟨v1398, v1401, v1404, rfl, ho0, ho1, ho2, hb⟩
     refine ⟨_, rfl, ?_⟩
     have HO1399 := Aside0.mk (Kd.R_lower (Kd.R_new' (Kd.R_new' ho0 (rl_ HO_1386000)) (rl_ HO_1386001)) (below_size (hB HB)))
     have HO1402 := Aside0.mk (Kd.R_lower (Kd.R_new' (Kd.R_new' ho1 (rl_ HO_1386000)) (rl_ HO_1386001)) (below_size (hB HB)))
     have HO1405 := Aside0.mk (Kd.R_lower (Kd.R_new' ho2 (rl_ HO_1386002)) (below_size (hB HB)))
     replace HO_7 := rb_ HO_7 hb
     replace HO_1386000 := rt2_ HO_1386000 hb ho0 ho1
     replace HO_1386001 := rt2_ HO_1386001 hb ho0 ho1
     replace HO_1386002 := re_ HO_1386002 ho2 hb
     replace BK1374 := bb_ BK1374 hb
     replace BK1385 := bb_ BK1385 hb
     replace BK1396 := bb_ BK1396 hb
     replace BK1416 := bb_ BK1416 hb
     replace HB := bst_ HB hb
     clear hb ho0 ho1 ho2
     obtain ⟨Ao32, co32, eo32⟩ := Kd.R_slice HO1399.out
     (first | subst eo32 | (injection eo32 with f1_ f2_ f3_; have f4_ := f1_.symm; have f5_ := f3_.symm; clear f1_ f2_ f3_; subst f4_; subst f5_))
     obtain ⟨Ao33, co33, eo33⟩ := Kd.R_slice HO1402.out
     (first | subst eo33 | (injection eo33 with f1_ f2_ f3_; have f4_ := f1_.symm; have f5_ := f3_.symm; clear f1_ f2_ f3_; subst f4_; subst f5_))
     obtain ⟨Ao34, co34, eo34⟩ := Kd.R_slice HO1405.out
     (first | subst eo34 | (injection eo34 with f1_ f2_ f3_; have f4_ := f1_.symm; have f5_ := f3_.symm; clear f1_ f2_ f3_; subst f4_; subst f5_))
     refine hK.out _ _ ⟨bc_ BK1385 0, bc_ BK1385 1, bc_ BK1385 2, bc_ BK1396 0, bc_ BK1396 1⟩ (fun hHeld => ?_)
     clear hK K
     refine nm_ 28 ?_
     refine one_ (i := 3) (N := some 30) (bs 10 143) rfl rfl (one_of HT_.out (by kernel_rfl)) (by decide) (fun K hK => ?_)
     refine goes_ Try.func87 (by kernel_rfl) rfl #[.agg #[.slice Ao32 t1397.length co32, .slice Ao33 t1400.length co33, .slice Ao34 t1403.length co34], .agg #[.int .i64 ((rd_T51 l0 x22_1).f0), .int .i64 ((rd_T51 l0 x22_1).f1)]] (by rfl) rfl rfl tm_ ?_
     with_reducible refine (spec_l3Step.calls k1 (fun k_ => some k_ = (.slice Ao32 t1397.length co32 : Value).ownBlock) (.slice Ao32 t1397.length co32) t1397 (fun k_ => some k_ = (.slice Ao33 t1400.length co33 : Value).ownBlock) (.slice Ao33 t1400.length co33) t1400 (fun k_ => some k_ = (.slice Ao34 t1403.length co34 : Value).ownBlock) (.slice Ao34 t1403.length co34) t1403 ((rd_T51 l0 x22_1).f0) ((rd_T51 l0 x22_1).f1) t1406 t1409 t1412 true w _ ?side1 ?side2 ?side3 ?side4 ?side5 ?side6 A18.out).mono ?_
     (case side1 => repeat (first | (with_reducible first | exact HB.out | apply below_alloc | apply pw_below_drewN | apply below_drew1 | refine below_set ?_ GE1374.out | refine below_set ?_ GE1385.out | refine below_set ?_ GE1396.out | refine below_set ?_ GE1416.out) | exact HB.out))
     (case side2 => exact Kd.R_tight rfl HO1399.out)
     (case side3 => exact fun k_ e_ => (HO1399.out.1 k_ e_.symm).1.1)
     (case side4 => exact Kd.R_tight rfl HO1402.out)
     (case side5 => exact fun k_ e_ => (HO1402.out.1 k_ e_.symm).1.1)
     (case side6 => exact Kd.R_tight rfl HO1405.out)
     rintro e w35 ⟨v1407, v1410, v1413, rfl, ho0, ho1, ho2, hb, hkp⟩
     refine ⟨_, rfl, ?_⟩
     have HO1408 := Aside0.mk (Kd.R_mono (ok' := fun k_ => no_ v1410 k_ ∧ no_ (.slice Ao25 x1386000_1.length co25) k_ ∧ no_ (.slice Ao26 x1386001_1.length co26) k_) ho0 (fun k_ hk_ => ⟨hk_.2, Or.elim hk_.1 (fun hs_ => Or.elim hs_ (fun hs_ => fun e_ => ((((Kd.R_apart' HO_1386000.out (Kd.R_typed HO1405.out) (by decide))).1 k_ e_.symm).1.1.2) hs_) (fun hs_ => Or.elim hs_ (fun hs_ => fun e_ => ((((Kd.R_apart' HO_1386000.out (Kd.R_typed HO1405.out) (by decide))).1 k_ e_.symm).1.2) hs_) (fun hs_ => fun e_ => ((((Kd.R_apart' HO_1386000.out (Kd.R_typed HO1405.out) (by decide))).1 k_ e_.symm).2) hs_))) (fun hn_ => (Kd.fresh' (rl_ HO_1386000) k_ hn_)), Or.elim hk_.1 (fun hs_ => Or.elim hs_ (fun hs_ => fun e_ => ((((Kd.R_apart' HO_1386001.out (Kd.R_typed HO1405.out) (by decide))).1 k_ e_.symm).1.1.2) hs_) (fun hs_ => Or.elim hs_ (fun hs_ => fun e_ => ((((Kd.R_apart' HO_1386001.out (Kd.R_typed HO1405.out) (by decide))).1 k_ e_.symm).1.2) hs_) (fun hs_ => fun e_ => ((((Kd.R_apart' HO_1386001.out (Kd.R_typed HO1405.out) (by decide))).1 k_ e_.symm).2) hs_))) (fun hn_ => (Kd.fresh' (rl_ HO_1386001) k_ hn_))⟩))
     have HO1411 := Aside0.mk (Kd.R_mono (ok' := fun k_ => no_ v1407 k_ ∧ no_ (.slice Ao25 x1386000_1.length co25) k_ ∧ no_ (.slice Ao26 x1386001_1.length co26) k_) ho1 (fun k_ hk_ => ⟨hk_.2, Or.elim hk_.1 (fun hs_ => Or.elim hs_ (fun hs_ => fun e_ => ((((Kd.R_apart' HO_1386000.out (Kd.R_typed HO1405.out) (by decide))).1 k_ e_.symm).1.1.2) hs_) (fun hs_ => Or.elim hs_ (fun hs_ => fun e_ => ((((Kd.R_apart' HO_1386000.out (Kd.R_typed HO1405.out) (by decide))).1 k_ e_.symm).1.2) hs_) (fun hs_ => fun e_ => ((((Kd.R_apart' HO_1386000.out (Kd.R_typed HO1405.out) (by decide))).1 k_ e_.symm).2) hs_))) (fun hn_ => (Kd.fresh' (rl_ HO_1386000) k_ hn_)), Or.elim hk_.1 (fun hs_ => Or.elim hs_ (fun hs_ => fun e_ => ((((Kd.R_apart' HO_1386001.out (Kd.R_typed HO1405.out) (by decide))).1 k_ e_.symm).1.1.2) hs_) (fun hs_ => Or.elim hs_ (fun hs_ => fun e_ => ((((Kd.R_apart' HO_1386001.out (Kd.R_typed HO1405.out) (by decide))).1 k_ e_.symm).1.2) hs_) (fun hs_ => fun e_ => ((((Kd.R_apart' HO_1386001.out (Kd.R_typed HO1405.out) (by decide))).1 k_ e_.symm).2) hs_))) (fun hn_ => (Kd.fresh' (rl_ HO_1386001) k_ hn_))⟩))
     have HO1414 := Aside0.mk (Kd.R_mono (ok' := fun k_ => no_ (.slice Ao27 x1386002_1.length co27) k_) ho2 (fun k_ hk_ => Or.elim hk_ (fun hs_ => Or.elim hs_ (fun hs_ => fun e_ => ((((Kd.R_apart' (Kd.R_apart' HO_1386002.out (Kd.R_typed HO1399.out) (by decide)) (Kd.R_typed HO1402.out) (by decide))).1 k_ e_.symm).1.2) hs_) (fun hs_ => Or.elim hs_ (fun hs_ => fun e_ => ((((Kd.R_apart' (Kd.R_apart' HO_1386002.out (Kd.R_typed HO1399.out) (by decide)) (Kd.R_typed HO1402.out) (by decide))).1 k_ e_.symm).2) hs_) (fun hs_ => fun e_ => ((((Kd.R_apart' (Kd.R_apart' HO_1386002.out (Kd.R_typed HO1399.out) (by decide)) (Kd.R_typed HO1402.out) (by decide))).1 k_ e_.symm).1.1.2) hs_))) (fun hn_ => (Kd.fresh' (rl_ HO_1386002) k_ hn_))))
     replace HO_7 := Aside0.mk (Kd.R_mono (ok' := fun k_ => True) (Kd.R_keptB ((Kd.R_apart' (Kd.R_apart' (Kd.R_apart' HO_7.out (Kd.R_typed HO1399.out) (by decide)) (Kd.R_typed HO1402.out) (by decide)) (Kd.R_typed HO1405.out) (by decide))) hkp (fun k_ hk_ hs_ => Or.elim hs_ (fun e_ => (hk_.1.1.2) e_) (fun e_ => Or.elim e_ (fun e_ => (hk_.1.2) e_) (fun e_ => (hk_.2) e_)))) (fun k_ hk_ => trivial))
     replace HO_1386000 := Aside0.mk (Kd.R_mono (ok' := fun k_ => no_ (.slice Ao26 x1386001_1.length co26) k_ ∧ no_ v1407 k_ ∧ no_ v1410 k_) (Kd.R_keptB ((Kd.R_apart' HO_1386000.out (Kd.R_typed HO1405.out) (by decide))) hkp (fun k_ hk_ hs_ => Or.elim hs_ (fun e_ => (hk_.1.1.2) e_) (fun e_ => Or.elim e_ (fun e_ => (hk_.1.2) e_) (fun e_ => (hk_.2) e_)))) (fun k_ hk_ => ⟨hk_.1.1.1.1, fun e_ => Or.elim (ho0.1 k_ e_.symm).1 (fun hs_ => hk_.2.1 hs_) (fun hn_ => Nat.not_le.2 hk_.2.2 hn_), fun e_ => Or.elim (ho1.1 k_ e_.symm).1 (fun hs_ => hk_.2.1 hs_) (fun hn_ => Nat.not_le.2 hk_.2.2 hn_)⟩))
     replace HO_1386001 := Aside0.mk (Kd.R_mono (ok' := fun k_ => no_ (.slice Ao25 x1386000_1.length co25) k_ ∧ no_ v1407 k_ ∧ no_ v1410 k_) (Kd.R_keptB ((Kd.R_apart' HO_1386001.out (Kd.R_typed HO1405.out) (by decide))) hkp (fun k_ hk_ hs_ => Or.elim hs_ (fun e_ => (hk_.1.1.2) e_) (fun e_ => Or.elim e_ (fun e_ => (hk_.1.2) e_) (fun e_ => (hk_.2) e_)))) (fun k_ hk_ => ⟨hk_.1.1.1.1, fun e_ => Or.elim (ho0.1 k_ e_.symm).1 (fun hs_ => hk_.2.1 hs_) (fun hn_ => Nat.not_le.2 hk_.2.2 hn_), fun e_ => Or.elim (ho1.1 k_ e_.symm).1 (fun hs_ => hk_.2.1 hs_) (fun hn_ => Nat.not_le.2 hk_.2.2 hn_)⟩))
     replace HO_1386002 := Aside0.mk (Kd.R_mono (ok' := fun k_ => no_ v1413 k_) (Kd.R_keptB ((Kd.R_apart' (Kd.R_apart' HO_1386002.out (Kd.R_typed HO1399.out) (by decide)) (Kd.R_typed HO1402.out) (by decide))) hkp (fun k_ hk_ hs_ => Or.elim hs_ (fun e_ => (hk_.1.2) e_) (fun e_ => Or.elim e_ (fun e_ => (hk_.2) e_) (fun e_ => (hk_.1.1.2) e_)))) (fun k_ hk_ => fun e_ => Or.elim (ho2.1 k_ e_.symm) (fun hs_ => hk_.2.1 hs_) (fun hn_ => Nat.not_le.2 hk_.2.2 hn_)))
     replace BK1374 := Aside0.mk (blk_kept (ba BK1374.out) hkp (fun hs_ => Or.elim hs_ (kne_ HO1399 BK1374) (fun e_ => Or.elim e_ (kne_ HO1402 BK1374) (kne_ HO1405 BK1374))))
     replace BK1385 := Aside0.mk (blk_kept (ba BK1385.out) hkp (fun hs_ => Or.elim hs_ (kne_ HO1399 BK1385) (fun e_ => Or.elim e_ (kne_ HO1402 BK1385) (kne_ HO1405 BK1385))))
     replace BK1396 := Aside0.mk (blk_kept (ba BK1396.out) hkp (fun hs_ => Or.elim hs_ (kne_ HO1399 BK1396) (fun e_ => Or.elim e_ (kne_ HO1402 BK1396) (kne_ HO1405 BK1396))))
     replace BK1416 := Aside0.mk (blk_kept (ba BK1416.out) hkp (fun hs_ => Or.elim hs_ (kne_ HO1399 BK1416) (fun e_ => Or.elim e_ (kne_ HO1402 BK1416) (kne_ HO1405 BK1416))))
     replace HB := Aside0.mk (hb)
     clear HO1399 HO1402 HO1405
     clear hb ho0 ho1 ho2
     refine hK.out _ _ ⟨bc_ BK1385 0, bc_ BK1385 1, bc_ BK1385 2, bc_ BK1396 0, bc_ BK1396 1⟩ (fun hHeld => ?_)
     clear hK K
     refine nm_ 30 ?_
     refine pu_ 4 26 (bs 10 159) HT_ ?_
     refine pu_ 5 31 (bs 10 191) HT_ ?_
     refine pu_ 6 32 (bs 10 255) HT_ ?_
     exact norm_ (by simp only [putAll, Act.put, List.setIfInBounds_toArray, List.set_cons_zero, List.set_cons_succ]) (hCont (.slice Ao32 t1397.length co32, .slice Ao33 t1400.length co33, .slice Ao34 t1403.length co34, v1407, v1410, v1413, gb1416) _ ⟨hHeld, (ra HO1408.out), (ra HO1411.out), (ra HO1414.out), (rm_ HO_1386000 (fun _ hk => ⟨hk.2.1, ⟨hk.2.2, hk.1⟩⟩)).out, (rm_ HO_1386001 (fun _ hk => ⟨hk.2.1, ⟨hk.2.2, hk.1⟩⟩)).out, (ra HO_1386002.out), (ra HO_7.out), (ba BK1374.out), (ba BK1385.out), (ba BK1396.out), (ba BK1416.out), GW1416.out, GE1416.out, NB1374_1416.out, NB1416_1374.out, NB1385_1416.out, NB1416_1385.out, NB1396_1416.out, NB1416_1396.out, (hB HB)⟩)
    skip
    refine goes_ Try.func88 (by kernel_rfl) rfl #[.agg #[.slice Ao25 x1386000_1.length co25, .slice Ao26 x1386001_1.length co26, .slice Ao27 x1386002_1.length co27]] (by rfl) rfl rfl tm_ ?_
    with_reducible refine (spec_l3Own.calls _ _ x1386000_1 _ _ x1386001_1 _ _ x1386002_1 t1397 t1400 t1403 _ ?side1 ?side2 ?side3 ?side4 ?side5 ?side6 A17.out).mono ?_
    (case side1 => exact ca (Kd.R_reads' HO_1386000.out).2.2)
    (case side2 => exact (Kd.R_reads' HO_1386000.out).2.1)
    (case side3 => exact ca (Kd.R_reads' HO_1386001.out).2.2)
    (case side4 => exact (Kd.R_reads' HO_1386001.out).2.1)
    (case side5 => exact ca (Kd.R_reads' HO_1386002.out).2.2)
    (case side6 => exact (Kd.R_reads' HO_1386002.out).2.1)
    rintro e w30 ⟨v1398, v1401, v1404, rfl, ho0, ho1, ho2, hb⟩
    refine ⟨_, rfl, ?_⟩
    have HO1399 := Aside0.mk (Kd.R_lower (Kd.R_new' (Kd.R_new' ho0 (rl_ HO_1386000)) (rl_ HO_1386001)) (below_size (hB HB)))
    have HO1402 := Aside0.mk (Kd.R_lower (Kd.R_new' (Kd.R_new' ho1 (rl_ HO_1386000)) (rl_ HO_1386001)) (below_size (hB HB)))
    have HO1405 := Aside0.mk (Kd.R_lower (Kd.R_new' ho2 (rl_ HO_1386002)) (below_size (hB HB)))
    replace HO_7 := rb_ HO_7 hb
    replace HO_1386000 := rt2_ HO_1386000 hb ho0 ho1
    replace HO_1386001 := rt2_ HO_1386001 hb ho0 ho1
    replace HO_1386002 := re_ HO_1386002 ho2 hb
    replace BK1374 := bb_ BK1374 hb
    replace BK1385 := bb_ BK1385 hb
    replace BK1396 := bb_ BK1396 hb
    replace HB := bst_ HB hb
    clear hb ho0 ho1 ho2
    obtain ⟨Ao31, co31, eo31⟩ := Kd.R_slice HO1399.out
    (first | subst eo31 | (injection eo31 with f1_ f2_ f3_; have f4_ := f1_.symm; have f5_ := f3_.symm; clear f1_ f2_ f3_; subst f4_; subst f5_))
    obtain ⟨Ao32, co32, eo32⟩ := Kd.R_slice HO1402.out
    (first | subst eo32 | (injection eo32 with f1_ f2_ f3_; have f4_ := f1_.symm; have f5_ := f3_.symm; clear f1_ f2_ f3_; subst f4_; subst f5_))
    obtain ⟨Ao33, co33, eo33⟩ := Kd.R_slice HO1405.out
    (first | subst eo33 | (injection eo33 with f1_ f2_ f3_; have f4_ := f1_.symm; have f5_ := f3_.symm; clear f1_ f2_ f3_; subst f4_; subst f5_))
    refine hK.out _ _ ⟨bc_ BK1385 0, bc_ BK1385 1, bc_ BK1385 2, bc_ BK1396 0, bc_ BK1396 1⟩ (fun hHeld => ?_)
    clear hK K
    refine nm_ 28 ?_
    refine two_ (i := 3) (j := 7) (Ni := some 30) (Nj := some 10) (bs 10 15) (bs 10 135) rfl rfl rfl rfl (two_of HT_.out (by kernel_rfl)) (by decide) (by decide) (fun K hK => ?_) (fun K hK => ?_)
    ·skip
     refine goes_ Try.func87 (by kernel_rfl) rfl #[.agg #[.slice Ao31 t1397.length co31, .slice Ao32 t1400.length co32, .slice Ao33 t1403.length co33], .agg #[.int .i64 ((rd_T51 l0 x22_1).f0), .int .i64 ((rd_T51 l0 x22_1).f1)]] (by rfl) rfl rfl tm_ ?_
     with_reducible refine (spec_l3Step.calls k1 (fun k_ => some k_ = (.slice Ao31 t1397.length co31 : Value).ownBlock) (.slice Ao31 t1397.length co31) t1397 (fun k_ => some k_ = (.slice Ao32 t1400.length co32 : Value).ownBlock) (.slice Ao32 t1400.length co32) t1400 (fun k_ => some k_ = (.slice Ao33 t1403.length co33 : Value).ownBlock) (.slice Ao33 t1403.length co33) t1403 ((rd_T51 l0 x22_1).f0) ((rd_T51 l0 x22_1).f1) t1406 t1409 t1412 true w _ ?side1 ?side2 ?side3 ?side4 ?side5 ?side6 A18.out).mono ?_
     (case side1 => repeat (first | (with_reducible first | exact HB.out | apply below_alloc | apply pw_below_drewN | apply below_drew1 | refine below_set ?_ GE1374.out | refine below_set ?_ GE1385.out | refine below_set ?_ GE1396.out) | exact HB.out))
     (case side2 => exact Kd.R_tight rfl HO1399.out)
     (case side3 => exact fun k_ e_ => (HO1399.out.1 k_ e_.symm).1.1)
     (case side4 => exact Kd.R_tight rfl HO1402.out)
     (case side5 => exact fun k_ e_ => (HO1402.out.1 k_ e_.symm).1.1)
     (case side6 => exact Kd.R_tight rfl HO1405.out)
     rintro e w34 ⟨v1407, v1410, v1413, rfl, ho0, ho1, ho2, hb, hkp⟩
     refine ⟨_, rfl, ?_⟩
     have HO1408 := Aside0.mk (Kd.R_mono (ok' := fun k_ => no_ v1410 k_ ∧ no_ (.slice Ao25 x1386000_1.length co25) k_ ∧ no_ (.slice Ao26 x1386001_1.length co26) k_) ho0 (fun k_ hk_ => ⟨hk_.2, Or.elim hk_.1 (fun hs_ => Or.elim hs_ (fun hs_ => fun e_ => ((((Kd.R_apart' HO_1386000.out (Kd.R_typed HO1405.out) (by decide))).1 k_ e_.symm).1.1.2) hs_) (fun hs_ => Or.elim hs_ (fun hs_ => fun e_ => ((((Kd.R_apart' HO_1386000.out (Kd.R_typed HO1405.out) (by decide))).1 k_ e_.symm).1.2) hs_) (fun hs_ => fun e_ => ((((Kd.R_apart' HO_1386000.out (Kd.R_typed HO1405.out) (by decide))).1 k_ e_.symm).2) hs_))) (fun hn_ => (Kd.fresh' (rl_ HO_1386000) k_ hn_)), Or.elim hk_.1 (fun hs_ => Or.elim hs_ (fun hs_ => fun e_ => ((((Kd.R_apart' HO_1386001.out (Kd.R_typed HO1405.out) (by decide))).1 k_ e_.symm).1.1.2) hs_) (fun hs_ => Or.elim hs_ (fun hs_ => fun e_ => ((((Kd.R_apart' HO_1386001.out (Kd.R_typed HO1405.out) (by decide))).1 k_ e_.symm).1.2) hs_) (fun hs_ => fun e_ => ((((Kd.R_apart' HO_1386001.out (Kd.R_typed HO1405.out) (by decide))).1 k_ e_.symm).2) hs_))) (fun hn_ => (Kd.fresh' (rl_ HO_1386001) k_ hn_))⟩))
     have HO1411 := Aside0.mk (Kd.R_mono (ok' := fun k_ => no_ v1407 k_ ∧ no_ (.slice Ao25 x1386000_1.length co25) k_ ∧ no_ (.slice Ao26 x1386001_1.length co26) k_) ho1 (fun k_ hk_ => ⟨hk_.2, Or.elim hk_.1 (fun hs_ => Or.elim hs_ (fun hs_ => fun e_ => ((((Kd.R_apart' HO_1386000.out (Kd.R_typed HO1405.out) (by decide))).1 k_ e_.symm).1.1.2) hs_) (fun hs_ => Or.elim hs_ (fun hs_ => fun e_ => ((((Kd.R_apart' HO_1386000.out (Kd.R_typed HO1405.out) (by decide))).1 k_ e_.symm).1.2) hs_) (fun hs_ => fun e_ => ((((Kd.R_apart' HO_1386000.out (Kd.R_typed HO1405.out) (by decide))).1 k_ e_.symm).2) hs_))) (fun hn_ => (Kd.fresh' (rl_ HO_1386000) k_ hn_)), Or.elim hk_.1 (fun hs_ => Or.elim hs_ (fun hs_ => fun e_ => ((((Kd.R_apart' HO_1386001.out (Kd.R_typed HO1405.out) (by decide))).1 k_ e_.symm).1.1.2) hs_) (fun hs_ => Or.elim hs_ (fun hs_ => fun e_ => ((((Kd.R_apart' HO_1386001.out (Kd.R_typed HO1405.out) (by decide))).1 k_ e_.symm).1.2) hs_) (fun hs_ => fun e_ => ((((Kd.R_apart' HO_1386001.out (Kd.R_typed HO1405.out) (by decide))).1 k_ e_.symm).2) hs_))) (fun hn_ => (Kd.fresh' (rl_ HO_1386001) k_ hn_))⟩))
     have HO1414 := Aside0.mk (Kd.R_mono (ok' := fun k_ => no_ (.slice Ao27 x1386002_1.length co27) k_) ho2 (fun k_ hk_ => Or.elim hk_ (fun hs_ => Or.elim hs_ (fun hs_ => fun e_ => ((((Kd.R_apart' (Kd.R_apart' HO_1386002.out (Kd.R_typed HO1399.out) (by decide)) (Kd.R_typed HO1402.out) (by decide))).1 k_ e_.symm).1.2) hs_) (fun hs_ => Or.elim hs_ (fun hs_ => fun e_ => ((((Kd.R_apart' (Kd.R_apart' HO_1386002.out (Kd.R_typed HO1399.out) (by decide)) (Kd.R_typed HO1402.out) (by decide))).1 k_ e_.symm).2) hs_) (fun hs_ => fun e_ => ((((Kd.R_apart' (Kd.R_apart' HO_1386002.out (Kd.R_typed HO1399.out) (by decide)) (Kd.R_typed HO1402.out) (by decide))).1 k_ e_.symm).1.1.2) hs_))) (fun hn_ => (Kd.fresh' (rl_ HO_1386002) k_ hn_))))
     replace HO_7 := Aside0.mk (Kd.R_mono (ok' := fun k_ => True) (Kd.R_keptB ((Kd.R_apart' (Kd.R_apart' (Kd.R_apart' HO_7.out (Kd.R_typed HO1399.out) (by decide)) (Kd.R_typed HO1402.out) (by decide)) (Kd.R_typed HO1405.out) (by decide))) hkp (fun k_ hk_ hs_ => Or.elim hs_ (fun e_ => (hk_.1.1.2) e_) (fun e_ => Or.elim e_ (fun e_ => (hk_.1.2) e_) (fun e_ => (hk_.2) e_)))) (fun k_ hk_ => trivial))
     replace HO_1386000 := Aside0.mk (Kd.R_mono (ok' := fun k_ => no_ (.slice Ao26 x1386001_1.length co26) k_ ∧ no_ v1407 k_ ∧ no_ v1410 k_) (Kd.R_keptB ((Kd.R_apart' HO_1386000.out (Kd.R_typed HO1405.out) (by decide))) hkp (fun k_ hk_ hs_ => Or.elim hs_ (fun e_ => (hk_.1.1.2) e_) (fun e_ => Or.elim e_ (fun e_ => (hk_.1.2) e_) (fun e_ => (hk_.2) e_)))) (fun k_ hk_ => ⟨hk_.1.1.1.1, fun e_ => Or.elim (ho0.1 k_ e_.symm).1 (fun hs_ => hk_.2.1 hs_) (fun hn_ => Nat.not_le.2 hk_.2.2 hn_), fun e_ => Or.elim (ho1.1 k_ e_.symm).1 (fun hs_ => hk_.2.1 hs_) (fun hn_ => Nat.not_le.2 hk_.2.2 hn_)⟩))
     replace HO_1386001 := Aside0.mk (Kd.R_mono (ok' := fun k_ => no_ (.slice Ao25 x1386000_1.length co25) k_ ∧ no_ v1407 k_ ∧ no_ v1410 k_) (Kd.R_keptB ((Kd.R_apart' HO_1386001.out (Kd.R_typed HO1405.out) (by decide))) hkp (fun k_ hk_ hs_ => Or.elim hs_ (fun e_ => (hk_.1.1.2) e_) (fun e_ => Or.elim e_ (fun e_ => (hk_.1.2) e_) (fun e_ => (hk_.2) e_)))) (fun k_ hk_ => ⟨hk_.1.1.1.1, fun e_ => Or.elim (ho0.1 k_ e_.symm).1 (fun hs_ => hk_.2.1 hs_) (fun hn_ => Nat.not_le.2 hk_.2.2 hn_), fun e_ => Or.elim (ho1.1 k_ e_.symm).1 (fun hs_ => hk_.2.1 hs_) (fun hn_ => Nat.not_le.2 hk_.2.2 hn_)⟩))
     replace HO_1386002 := Aside0.mk (Kd.R_mono (ok' := fun k_ => no_ v1413 k_) (Kd.R_keptB ((Kd.R_apart' (Kd.R_apart' HO_1386002.out (Kd.R_typed HO1399.out) (by decide)) (Kd.R_typed HO1402.out) (by decide))) hkp (fun k_ hk_ hs_ => Or.elim hs_ (fun e_ => (hk_.1.2) e_) (fun e_ => Or.elim e_ (fun e_ => (hk_.2) e_) (fun e_ => (hk_.1.1.2) e_)))) (fun k_ hk_ => fun e_ => Or.elim (ho2.1 k_ e_.symm) (fun hs_ => hk_.2.1 hs_) (fun hn_ => Nat.not_le.2 hk_.2.2 hn_)))
     replace BK1374 := Aside0.mk (blk_kept (ba BK1374.out) hkp (fun hs_ => Or.elim hs_ (kne_ HO1399 BK1374) (fun e_ => Or.elim e_ (kne_ HO1402 BK1374) (kne_ HO1405 BK1374))))
     replace BK1385 := Aside0.mk (blk_kept (ba BK1385.out) hkp (fun hs_ => Or.elim hs_ (kne_ HO1399 BK1385) (fun e_ => Or.elim e_ (kne_ HO1402 BK1385) (kne_ HO1405 BK1385))))
     replace BK1396 := Aside0.mk (blk_kept (ba BK1396.out) hkp (fun hs_ => Or.elim hs_ (kne_ HO1399 BK1396) (fun e_ => Or.elim e_ (kne_ HO1402 BK1396) (kne_ HO1405 BK1396))))
     replace HB := Aside0.mk (hb)
     clear HO1399 HO1402 HO1405
     clear hb ho0 ho1 ho2
     refine hK.out _ _ ⟨bc_ BK1385 0, bc_ BK1385 1, bc_ BK1385 2, bc_ BK1396 0, bc_ BK1396 1⟩ (fun hHeld => ?_)
     clear hK K
     refine nm_ 30 ?_
     refine pu_ 4 26 (bs 10 31) HT_ ?_
     refine pu_ 5 31 (bs 10 63) HT_ ?_
     refine pu_ 6 32 (bs 10 127) HT_ ?_
     refine one_ (i := 7) (N := some 10) (bs 10 255) rfl rfl (one_of HT_.out (by kernel_rfl)) (by decide) (fun K hK => ?_)
     refine box_step ?hg (N := 10) ?hd (cs := #[.slice none 0 0, .slice none 0 0, .slice none 0 0]) (t := 47) ?hr ?_; (case hd => rfl); (case hg => rfl); (case hr => first | (go_simp; done) | (go_simp; rfl))
     intro gb1416 hg w35 hbox hb
     have BK1416 := Aside0.mk (hbox)
     have GW1416 := gw_ hg HB
     have GE1416 := gw_ hg HB
     have NB1374_1416 := nl_ hg BK1374
     have NB1416_1374 := ng_ hg BK1374
     have NB1385_1416 := nl_ hg BK1385
     have NB1416_1385 := ng_ hg BK1385
     have NB1396_1416 := nl_ hg BK1396
     have NB1416_1396 := ng_ hg BK1396
     replace HO_7 := rb_ HO_7 hb
     replace HO_1386000 := rb_ HO_1386000 hb
     replace HO_1386001 := rb_ HO_1386001 hb
     replace HO_1386002 := rb_ HO_1386002 hb
     replace HO1408 := rb_ HO1408 hb
     replace HO1411 := rb_ HO1411 hb
     replace HO1414 := rb_ HO1414 hb
     replace BK1374 := bb_ BK1374 hb
     replace BK1385 := bb_ BK1385 hb
     replace BK1396 := bb_ BK1396 hb
     replace HB := bst_ HB hb
     clear hb hbox hg
     refine hK.out _ _ ⟨bc_ BK1385 0, bc_ BK1385 1, bc_ BK1385 2, bc_ BK1396 0, bc_ BK1396 1⟩ (fun hHeld => ?_)
     clear hK K
     refine nm_ 10 ?_
     exact norm_ (by simp only [putAll, Act.put, List.setIfInBounds_toArray, List.set_cons_zero, List.set_cons_succ]) (hCont (.slice Ao31 t1397.length co31, .slice Ao32 t1400.length co32, .slice Ao33 t1403.length co33, v1407, v1410, v1413, gb1416) _ ⟨hHeld, (ra HO1408.out), (ra HO1411.out), (ra HO1414.out), (rm_ HO_1386000 (fun _ hk => ⟨hk.2.1, ⟨hk.2.2, hk.1⟩⟩)).out, (rm_ HO_1386001 (fun _ hk => ⟨hk.2.1, ⟨hk.2.2, hk.1⟩⟩)).out, (ra HO_1386002.out), (ra HO_7.out), (ba BK1374.out), (ba BK1385.out), (ba BK1396.out), (ba BK1416.out), GW1416.out, GE1416.out, NB1374_1416.out, NB1416_1374.out, NB1385_1416.out, NB1416_1385.out, NB1396_1416.out, NB1416_1396.out, (hB HB)⟩)
    skip
    refine box_step ?hg (N := 10) ?hd (cs := #[.slice none 0 0, .slice none 0 0, .slice none 0 0]) (t := 47) ?hr ?_; (case hd => rfl); (case hg => rfl); (case hr => first | (go_simp; done) | (go_simp; rfl))
    intro gb1416 hg w31 hbox hb
    have BK1416 := Aside0.mk (hbox)
    have GW1416 := gw_ hg HB
    have GE1416 := gw_ hg HB
    have NB1374_1416 := nl_ hg BK1374
    have NB1416_1374 := ng_ hg BK1374
    have NB1385_1416 := nl_ hg BK1385
    have NB1416_1385 := ng_ hg BK1385
    have NB1396_1416 := nl_ hg BK1396
    have NB1416_1396 := ng_ hg BK1396
    replace HO_7 := rb_ HO_7 hb
    replace HO_1386000 := rb_ HO_1386000 hb
    replace HO_1386001 := rb_ HO_1386001 hb
    replace HO_1386002 := rb_ HO_1386002 hb
    replace HO1399 := rb_ HO1399 hb
    replace HO1402 := rb_ HO1402 hb
    replace HO1405 := rb_ HO1405 hb
    replace BK1374 := bb_ BK1374 hb
    replace BK1385 := bb_ BK1385 hb
    replace BK1396 := bb_ BK1396 hb
    replace HB := bst_ HB hb
    clear hb hbox hg
    obtain ⟨Ao32, co32, eo32⟩ := Kd.R_slice HO1399.out
    (first | subst eo32 | (injection eo32 with f1_ f2_ f3_; have f4_ := f1_.symm; have f5_ := f3_.symm; clear f1_ f2_ f3_; subst f4_; subst f5_))
    obtain ⟨Ao33, co33, eo33⟩ := Kd.R_slice HO1402.out
    (first | subst eo33 | (injection eo33 with f1_ f2_ f3_; have f4_ := f1_.symm; have f5_ := f3_.symm; clear f1_ f2_ f3_; subst f4_; subst f5_))
    obtain ⟨Ao34, co34, eo34⟩ := Kd.R_slice HO1405.out
    (first | subst eo34 | (injection eo34 with f1_ f2_ f3_; have f4_ := f1_.symm; have f5_ := f3_.symm; clear f1_ f2_ f3_; subst f4_; subst f5_))
    refine hK.out _ _ ⟨bc_ BK1385 0, bc_ BK1385 1, bc_ BK1385 2, bc_ BK1396 0, bc_ BK1396 1⟩ (fun hHeld => ?_)
    clear hK K
    refine nm_ 10 ?_
    refine one_ (i := 3) (N := some 30) (bs 10 143) rfl rfl (one_of HT_.out (by kernel_rfl)) (by decide) (fun K hK => ?_)
    refine goes_ Try.func87 (by kernel_rfl) rfl #[.agg #[.slice Ao32 t1397.length co32, .slice Ao33 t1400.length co33, .slice Ao34 t1403.length co34], .agg #[.int .i64 ((rd_T51 l0 x22_1).f0), .int .i64 ((rd_T51 l0 x22_1).f1)]] (by rfl) rfl rfl tm_ ?_
    with_reducible refine (spec_l3Step.calls k1 (fun k_ => some k_ = (.slice Ao32 t1397.length co32 : Value).ownBlock) (.slice Ao32 t1397.length co32) t1397 (fun k_ => some k_ = (.slice Ao33 t1400.length co33 : Value).ownBlock) (.slice Ao33 t1400.length co33) t1400 (fun k_ => some k_ = (.slice Ao34 t1403.length co34 : Value).ownBlock) (.slice Ao34 t1403.length co34) t1403 ((rd_T51 l0 x22_1).f0) ((rd_T51 l0 x22_1).f1) t1406 t1409 t1412 true w _ ?side1 ?side2 ?side3 ?side4 ?side5 ?side6 A18.out).mono ?_
    (case side1 => repeat (first | (with_reducible first | exact HB.out | apply below_alloc | apply pw_below_drewN | apply below_drew1 | refine below_set ?_ GE1374.out | refine below_set ?_ GE1385.out | refine below_set ?_ GE1396.out | refine below_set ?_ GE1416.out) | exact HB.out))
    (case side2 => exact Kd.R_tight rfl HO1399.out)
    (case side3 => exact fun k_ e_ => (HO1399.out.1 k_ e_.symm).1.1)
    (case side4 => exact Kd.R_tight rfl HO1402.out)
    (case side5 => exact fun k_ e_ => (HO1402.out.1 k_ e_.symm).1.1)
    (case side6 => exact Kd.R_tight rfl HO1405.out)
    rintro e w35 ⟨v1407, v1410, v1413, rfl, ho0, ho1, ho2, hb, hkp⟩
    refine ⟨_, rfl, ?_⟩
    have HO1408 := Aside0.mk (Kd.R_mono (ok' := fun k_ => no_ v1410 k_ ∧ no_ (.slice Ao25 x1386000_1.length co25) k_ ∧ no_ (.slice Ao26 x1386001_1.length co26) k_) ho0 (fun k_ hk_ => ⟨hk_.2, Or.elim hk_.1 (fun hs_ => Or.elim hs_ (fun hs_ => fun e_ => ((((Kd.R_apart' HO_1386000.out (Kd.R_typed HO1405.out) (by decide))).1 k_ e_.symm).1.1.2) hs_) (fun hs_ => Or.elim hs_ (fun hs_ => fun e_ => ((((Kd.R_apart' HO_1386000.out (Kd.R_typed HO1405.out) (by decide))).1 k_ e_.symm).1.2) hs_) (fun hs_ => fun e_ => ((((Kd.R_apart' HO_1386000.out (Kd.R_typed HO1405.out) (by decide))).1 k_ e_.symm).2) hs_))) (fun hn_ => (Kd.fresh' (rl_ HO_1386000) k_ hn_)), Or.elim hk_.1 (fun hs_ => Or.elim hs_ (fun hs_ => fun e_ => ((((Kd.R_apart' HO_1386001.out (Kd.R_typed HO1405.out) (by decide))).1 k_ e_.symm).1.1.2) hs_) (fun hs_ => Or.elim hs_ (fun hs_ => fun e_ => ((((Kd.R_apart' HO_1386001.out (Kd.R_typed HO1405.out) (by decide))).1 k_ e_.symm).1.2) hs_) (fun hs_ => fun e_ => ((((Kd.R_apart' HO_1386001.out (Kd.R_typed HO1405.out) (by decide))).1 k_ e_.symm).2) hs_))) (fun hn_ => (Kd.fresh' (rl_ HO_1386001) k_ hn_))⟩))
    have HO1411 := Aside0.mk (Kd.R_mono (ok' := fun k_ => no_ v1407 k_ ∧ no_ (.slice Ao25 x1386000_1.length co25) k_ ∧ no_ (.slice Ao26 x1386001_1.length co26) k_) ho1 (fun k_ hk_ => ⟨hk_.2, Or.elim hk_.1 (fun hs_ => Or.elim hs_ (fun hs_ => fun e_ => ((((Kd.R_apart' HO_1386000.out (Kd.R_typed HO1405.out) (by decide))).1 k_ e_.symm).1.1.2) hs_) (fun hs_ => Or.elim hs_ (fun hs_ => fun e_ => ((((Kd.R_apart' HO_1386000.out (Kd.R_typed HO1405.out) (by decide))).1 k_ e_.symm).1.2) hs_) (fun hs_ => fun e_ => ((((Kd.R_apart' HO_1386000.out (Kd.R_typed HO1405.out) (by decide))).1 k_ e_.symm).2) hs_))) (fun hn_ => (Kd.fresh' (rl_ HO_1386000) k_ hn_)), Or.elim hk_.1 (fun hs_ => Or.elim hs_ (fun hs_ => fun e_ => ((((Kd.R_apart' HO_1386001.out (Kd.R_typed HO1405.out) (by decide))).1 k_ e_.symm).1.1.2) hs_) (fun hs_ => Or.elim hs_ (fun hs_ => fun e_ => ((((Kd.R_apart' HO_1386001.out (Kd.R_typed HO1405.out) (by decide))).1 k_ e_.symm).1.2) hs_) (fun hs_ => fun e_ => ((((Kd.R_apart' HO_1386001.out (Kd.R_typed HO1405.out) (by decide))).1 k_ e_.symm).2) hs_))) (fun hn_ => (Kd.fresh' (rl_ HO_1386001) k_ hn_))⟩))
    have HO1414 := Aside0.mk (Kd.R_mono (ok' := fun k_ => no_ (.slice Ao27 x1386002_1.length co27) k_) ho2 (fun k_ hk_ => Or.elim hk_ (fun hs_ => Or.elim hs_ (fun hs_ => fun e_ => ((((Kd.R_apart' (Kd.R_apart' HO_1386002.out (Kd.R_typed HO1399.out) (by decide)) (Kd.R_typed HO1402.out) (by decide))).1 k_ e_.symm).1.2) hs_) (fun hs_ => Or.elim hs_ (fun hs_ => fun e_ => ((((Kd.R_apart' (Kd.R_apart' HO_1386002.out (Kd.R_typed HO1399.out) (by decide)) (Kd.R_typed HO1402.out) (by decide))).1 k_ e_.symm).2) hs_) (fun hs_ => fun e_ => ((((Kd.R_apart' (Kd.R_apart' HO_1386002.out (Kd.R_typed HO1399.out) (by decide)) (Kd.R_typed HO1402.out) (by decide))).1 k_ e_.symm).1.1.2) hs_))) (fun hn_ => (Kd.fresh' (rl_ HO_1386002) k_ hn_))))
    replace HO_7 := Aside0.mk (Kd.R_mono (ok' := fun k_ => True) (Kd.R_keptB ((Kd.R_apart' (Kd.R_apart' (Kd.R_apart' HO_7.out (Kd.R_typed HO1399.out) (by decide)) (Kd.R_typed HO1402.out) (by decide)) (Kd.R_typed HO1405.out) (by decide))) hkp (fun k_ hk_ hs_ => Or.elim hs_ (fun e_ => (hk_.1.1.2) e_) (fun e_ => Or.elim e_ (fun e_ => (hk_.1.2) e_) (fun e_ => (hk_.2) e_)))) (fun k_ hk_ => trivial))
    replace HO_1386000 := Aside0.mk (Kd.R_mono (ok' := fun k_ => no_ (.slice Ao26 x1386001_1.length co26) k_ ∧ no_ v1407 k_ ∧ no_ v1410 k_) (Kd.R_keptB ((Kd.R_apart' HO_1386000.out (Kd.R_typed HO1405.out) (by decide))) hkp (fun k_ hk_ hs_ => Or.elim hs_ (fun e_ => (hk_.1.1.2) e_) (fun e_ => Or.elim e_ (fun e_ => (hk_.1.2) e_) (fun e_ => (hk_.2) e_)))) (fun k_ hk_ => ⟨hk_.1.1.1.1, fun e_ => Or.elim (ho0.1 k_ e_.symm).1 (fun hs_ => hk_.2.1 hs_) (fun hn_ => Nat.not_le.2 hk_.2.2 hn_), fun e_ => Or.elim (ho1.1 k_ e_.symm).1 (fun hs_ => hk_.2.1 hs_) (fun hn_ => Nat.not_le.2 hk_.2.2 hn_)⟩))
    replace HO_1386001 := Aside0.mk (Kd.R_mono (ok' := fun k_ => no_ (.slice Ao25 x1386000_1.length co25) k_ ∧ no_ v1407 k_ ∧ no_ v1410 k_) (Kd.R_keptB ((Kd.R_apart' HO_1386001.out (Kd.R_typed HO1405.out) (by decide))) hkp (fun k_ hk_ hs_ => Or.elim hs_ (fun e_ => (hk_.1.1.2) e_) (fun e_ => Or.elim e_ (fun e_ => (hk_.1.2) e_) (fun e_ => (hk_.2) e_)))) (fun k_ hk_ => ⟨hk_.1.1.1.1, fun e_ => Or.elim (ho0.1 k_ e_.symm).1 (fun hs_ => hk_.2.1 hs_) (fun hn_ => Nat.not_le.2 hk_.2.2 hn_), fun e_ => Or.elim (ho1.1 k_ e_.symm).1 (fun hs_ => hk_.2.1 hs_) (fun hn_ => Nat.not_le.2 hk_.2.2 hn_)⟩))
    replace HO_1386002 := Aside0.mk (Kd.R_mono (ok' := fun k_ => no_ v1413 k_) (Kd.R_keptB ((Kd.R_apart' (Kd.R_apart' HO_1386002.out (Kd.R_typed HO1399.out) (by decide)) (Kd.R_typed HO1402.out) (by decide))) hkp (fun k_ hk_ hs_ => Or.elim hs_ (fun e_ => (hk_.1.2) e_) (fun e_ => Or.elim e_ (fun e_ => (hk_.2) e_) (fun e_ => (hk_.1.1.2) e_)))) (fun k_ hk_ => fun e_ => Or.elim (ho2.1 k_ e_.symm) (fun hs_ => hk_.2.1 hs_) (fun hn_ => Nat.not_le.2 hk_.2.2 hn_)))
    replace BK1374 := Aside0.mk (blk_kept (ba BK1374.out) hkp (fun hs_ => Or.elim hs_ (kne_ HO1399 BK1374) (fun e_ => Or.elim e_ (kne_ HO1402 BK1374) (kne_ HO1405 BK1374))))
    replace BK1385 := Aside0.mk (blk_kept (ba BK1385.out) hkp (fun hs_ => Or.elim hs_ (kne_ HO1399 BK1385) (fun e_ => Or.elim e_ (kne_ HO1402 BK1385) (kne_ HO1405 BK1385))))
    replace BK1396 := Aside0.mk (blk_kept (ba BK1396.out) hkp (fun hs_ => Or.elim hs_ (kne_ HO1399 BK1396) (fun e_ => Or.elim e_ (kne_ HO1402 BK1396) (kne_ HO1405 BK1396))))
    replace BK1416 := Aside0.mk (blk_kept (ba BK1416.out) hkp (fun hs_ => Or.elim hs_ (kne_ HO1399 BK1416) (fun e_ => Or.elim e_ (kne_ HO1402 BK1416) (kne_ HO1405 BK1416))))
    replace HB := Aside0.mk (hb)
    clear HO1399 HO1402 HO1405
    clear hb ho0 ho1 ho2
    refine hK.out _ _ ⟨bc_ BK1385 0, bc_ BK1385 1, bc_ BK1385 2, bc_ BK1396 0, bc_ BK1396 1⟩ (fun hHeld => ?_)
    clear hK K
    refine nm_ 30 ?_
    refine pu_ 4 26 (bs 10 159) HT_ ?_
    refine pu_ 5 31 (bs 10 191) HT_ ?_
    refine pu_ 6 32 (bs 10 255) HT_ ?_
    exact norm_ (by simp only [putAll, Act.put, List.setIfInBounds_toArray, List.set_cons_zero, List.set_cons_succ]) (hCont (.slice Ao32 t1397.length co32, .slice Ao33 t1400.length co33, .slice Ao34 t1403.length co34, v1407, v1410, v1413, gb1416) _ ⟨hHeld, (ra HO1408.out), (ra HO1411.out), (ra HO1414.out), (rm_ HO_1386000 (fun _ hk => ⟨hk.2.1, ⟨hk.2.2, hk.1⟩⟩)).out, (rm_ HO_1386001 (fun _ hk => ⟨hk.2.1, ⟨hk.2.2, hk.1⟩⟩)).out, (ra HO_1386002.out), (ra HO_7.out), (ba BK1374.out), (ba BK1385.out), (ba BK1396.out), (ba BK1416.out), GW1416.out, GE1416.out, NB1374_1416.out, NB1416_1374.out, NB1385_1416.out, NB1416_1385.out, NB1396_1416.out, NB1416_1396.out, (hB HB)⟩)
   rintro ⟨v1398, v1401, v1404, v1407, v1410, v1413, gb1416⟩ w36 ⟨hS_, h0_, h1_, h2_, h3_, h4_, h5_, h6_, h7_, h8_, h9_, h10_, h11_, h12_, h13_, h14_, h15_, h16_, h17_, h18_, h19_⟩
   try dsimp only at h0_ h1_ h2_ h3_ h4_ h5_ h6_ h7_ h8_ h9_ h10_ h11_ h12_ h13_ h14_ h15_ h16_ h17_ h18_ h19_
   have HO1408 := Aside0.mk h0_
   have HO1411 := Aside0.mk h1_
   have HO1414 := Aside0.mk h2_
   have BK1416 := Aside0.mk h10_
   have GW1416 := Aside0.mk h11_
   have GE1416 := Aside0.mk h12_
   have NB1374_1416 := Aside0.mk h13_
   have NB1416_1374 := Aside0.mk h14_
   have NB1385_1416 := Aside0.mk h15_
   have NB1416_1385 := Aside0.mk h16_
   have NB1396_1416 := Aside0.mk h17_
   have NB1416_1396 := Aside0.mk h18_
   replace HO_1386000 := Aside0.mk h3_
   replace HO_1386001 := Aside0.mk h4_
   replace HO_1386002 := Aside0.mk h5_
   replace HO_7 := Aside0.mk h6_
   replace BK1374 := Aside0.mk h7_
   replace BK1385 := Aside0.mk h8_
   replace BK1396 := Aside0.mk h9_
   replace HB := Aside0.mk h19_
   clear h0_ h1_ h2_ h3_ h4_ h5_ h6_ h7_ h8_ h9_ h10_ h11_ h12_ h13_ h14_ h15_ h16_ h17_ h18_ h19_
   have hHeld : w36.cell? ⟨gb1385, 0, none⟩ = some (.slice Ao25 x1386000_1.length co25) ∧ w36.cell? ⟨gb1385, 1, none⟩ = some (.slice Ao26 x1386001_1.length co26) ∧ w36.cell? ⟨gb1385, 2, none⟩ = some (.slice Ao27 x1386002_1.length co27) ∧ w36.cell? ⟨gb1396, 0, none⟩ = some (.int .i64 ((rd_T51 l0 x22_1).f0)) ∧ w36.cell? ⟨gb1396, 1, none⟩ = some (.int .i64 ((rd_T51 l0 x22_1).f1)) := hS_
   obtain ⟨Ao37, co37, eo37⟩ := Kd.R_slice HO1408.out
   (first | subst eo37 | (injection eo37 with f1_ f2_ f3_; have f4_ := f1_.symm; have f5_ := f3_.symm; clear f1_ f2_ f3_; subst f4_; subst f5_))
   obtain ⟨Ao39, co39, eo39⟩ := Kd.R_slice HO1411.out
   (first | subst eo39 | (injection eo39 with f1_ f2_ f3_; have f4_ := f1_.symm; have f5_ := f3_.symm; clear f1_ f2_ f3_; subst f4_; subst f5_))
   obtain ⟨Ao41, co41, eo41⟩ := Kd.R_slice HO1414.out
   (first | subst eo41 | (injection eo41 with f1_ f2_ f3_; have f4_ := f1_.symm; have f5_ := f3_.symm; clear f1_ f2_ f3_; subst f4_; subst f5_))
   refine norm_ (a' := ?_) ?_ ?_
   rotate_left
   ·simp only [putAll, Act.put, List.setIfInBounds_toArray, List.set_cons_zero, List.set_cons_succ]
    rfl
   refine one_ (i := 8) (N := none) (bs 10 511) rfl rfl (one_of HT_.out (by kernel_rfl)) (by decide) (fun K hK => ?_)
   have hs38 : w36.cell? ⟨gb1416, 0, none⟩ = some (.slice none 0 0) := bc_ BK1416 0
   have hfs38 := blk_frozen BK1416.out 0
   have hns38_0 := NB1374_1416.out
   have hns38_1 := NB1385_1416.out
   have hns38_2 := NB1396_1416.out
   have hms38_0 := NB1416_1374.out
   have hms38_1 := NB1416_1385.out
   have hms38_2 := NB1416_1396.out
   have hs40 : w36.cell? ⟨gb1416, 1, none⟩ = some (.slice none 0 0) := bc_ BK1416 1
   have hfs40 := blk_frozen BK1416.out 1
   have hns40_0 := NB1374_1416.out
   have hns40_1 := NB1385_1416.out
   have hns40_2 := NB1396_1416.out
   have hms40_0 := NB1416_1374.out
   have hms40_1 := NB1416_1385.out
   have hms40_2 := NB1416_1396.out
   have hs42 : w36.cell? ⟨gb1416, 2, none⟩ = some (.slice none 0 0) := bc_ BK1416 2
   have hfs42 := blk_frozen BK1416.out 2
   have hns42_0 := NB1374_1416.out
   have hns42_1 := NB1385_1416.out
   have hns42_2 := NB1396_1416.out
   have hms42_0 := NB1416_1374.out
   have hms42_1 := NB1416_1385.out
   have hms42_2 := NB1416_1396.out
   refine skip_ (w1 := ?_) (by rfl) rfl ?_ ?_
   rotate_left
   ·go_simp
    rfl
   refine hK.out _ _ ⟨((cell_far (p := ⟨gb1416, _, none⟩) NB1385_1416.out _).trans (((cell_far (p := ⟨gb1416, _, none⟩) NB1385_1416.out _).trans (((cell_far (p := ⟨gb1416, _, none⟩) NB1385_1416.out _).trans (hHeld.1)))))), ((cell_far (p := ⟨gb1416, _, none⟩) NB1385_1416.out _).trans (((cell_far (p := ⟨gb1416, _, none⟩) NB1385_1416.out _).trans (((cell_far (p := ⟨gb1416, _, none⟩) NB1385_1416.out _).trans (hHeld.2.1)))))), ((cell_far (p := ⟨gb1416, _, none⟩) NB1385_1416.out _).trans (((cell_far (p := ⟨gb1416, _, none⟩) NB1385_1416.out _).trans (((cell_far (p := ⟨gb1416, _, none⟩) NB1385_1416.out _).trans (hHeld.2.2.1)))))), ((cell_far (p := ⟨gb1416, _, none⟩) NB1396_1416.out _).trans (((cell_far (p := ⟨gb1416, _, none⟩) NB1396_1416.out _).trans (((cell_far (p := ⟨gb1416, _, none⟩) NB1396_1416.out _).trans (hHeld.2.2.2.1)))))), ((cell_far (p := ⟨gb1416, _, none⟩) NB1396_1416.out _).trans (((cell_far (p := ⟨gb1416, _, none⟩) NB1396_1416.out _).trans (((cell_far (p := ⟨gb1416, _, none⟩) NB1396_1416.out _).trans (hHeld.2.2.2.2))))))⟩ (fun hHeld => ?_)
   clear hK K
   refine pu_ 9 11 (bs 10 1023) HT_ ?_
   refine done_ (done_of HT_.out (by kernel_rfl)) ?_
   have hnb43 := NB1416_1374.out
   have hnc43 := NB1374_1416.out
   have hnb44 := NB1416_1385.out
   have hnc44 := NB1385_1416.out
   have hnb45 := NB1416_1396.out
   have hnc45 := NB1396_1416.out
   have hcz46_0 : w36.cell? ⟨gb1416, 0, none⟩ = some (.slice none 0 0) := bc_ BK1416 0
   have hcz46_1 : w36.cell? ⟨gb1416, 1, none⟩ = some (.slice none 0 0) := bc_ BK1416 1
   have hcz46_2 : w36.cell? ⟨gb1416, 2, none⟩ = some (.slice none 0 0) := bc_ BK1416 2
   have hfz46_0 := blk_frozen BK1416.out 0
   have hfz46_1 := blk_frozen BK1416.out 1
   have hfz46_2 := blk_frozen BK1416.out 2
   have hnb47 := NB1385_1374.out
   have hnc47 := NB1374_1385.out
   have hcz48_0 : w36.cell? ⟨gb1385, 0, none⟩ = some (.slice Ao25 x1386000_1.length co25) := bc_ BK1385 0
   have hcz48_1 : w36.cell? ⟨gb1385, 1, none⟩ = some (.slice Ao26 x1386001_1.length co26) := bc_ BK1385 1
   have hcz48_2 : w36.cell? ⟨gb1385, 2, none⟩ = some (.slice Ao27 x1386002_1.length co27) := bc_ BK1385 2
   have hfz48_0 := blk_frozen BK1385.out 0
   have hfz48_1 := blk_frozen BK1385.out 1
   have hfz48_2 := blk_frozen BK1385.out 2
   try go_wp2_with (first | ((with_reducible refine gate_builtin (b := .append) (xs := #[.tmp 35, .tmp 37]) rfl ?_); at_builtin; refine Kd.R_append Kd.bool (w0 := w) w.heap.size rfl (.tmp 35) (.tmp 37) 82 4 (.bool false) 1 rfl Try.underlying82 info4 rfl (by decide) (by omega) u7 x7_1 true [.bool true] (fun _ => True) (fun _ => False) rfl (by first | (go_simp; done) | (go_simp; rfl)) ?aP (fun _ hk => hk.elim) ?aF ?aO ?aB ?aS ?aL ?_; (case aP => exact rfl); (case aB => exact (hB HB)); (case aF => exact (fun _ _ => trivial)); (case aO => exact (ra (Kd.R_mono (Kd.R_far (p := ⟨gb1385, 2, none⟩) (Kd.R_far (p := ⟨gb1385, 1, none⟩) (Kd.R_far (p := ⟨gb1385, 0, none⟩) (Kd.R_far (p := ⟨gb1416, 2, none⟩) (Kd.R_far (p := ⟨gb1416, 1, none⟩) (Kd.R_far (p := ⟨gb1416, 0, none⟩) (Kd.R_types (Kd.R_types HO_7.out BK1416.out (by decide)) BK1385.out (by decide)) (fun _ hk => hk.1.2) (.slice Ao37 t1406.length co37)) (fun _ hk => hk.1.2) (.slice Ao39 t1409.length co39)) (fun _ hk => hk.1.2) (.slice Ao41 t1412.length co41)) (fun _ hk => hk.2) (.slice Ao37 t1406.length co37)) (fun _ hk => hk.2) (.slice Ao39 t1409.length co39)) (fun _ hk => hk.2) (.slice Ao41 t1412.length co41)) (fun _ hk => trivial)))); (case aS => exact (below_size (hB HB))); (case aL => have := LMc20.out; omega); intro v1418 w49 ho hb hg hat; rw [← Ny1417.out] at ho; have HO1419 := Aside0.mk (ho); replace HO_1386000 := Aside0.mk (Kd.R_over' (ra (Kd.R_mono (Kd.R_mono (Kd.R_far (p := ⟨gb1385, 2, none⟩) (Kd.R_far (p := ⟨gb1385, 1, none⟩) (Kd.R_far (p := ⟨gb1385, 0, none⟩) (Kd.R_far (p := ⟨gb1416, 2, none⟩) (Kd.R_far (p := ⟨gb1416, 1, none⟩) (Kd.R_far (p := ⟨gb1416, 0, none⟩) (Kd.R_types (Kd.R_types HO_1386000.out BK1416.out (by decide)) BK1385.out (by decide)) (fun _ hk => hk.1.2) (.slice Ao37 t1406.length co37)) (fun _ hk => hk.1.2) (.slice Ao39 t1409.length co39)) (fun _ hk => hk.1.2) (.slice Ao41 t1412.length co41)) (fun _ hk => hk.2) (.slice Ao37 t1406.length co37)) (fun _ hk => hk.2) (.slice Ao39 t1409.length co39)) (fun _ hk => hk.2) (.slice Ao41 t1412.length co41)) (fun _ h_ => h_.1)) (fun _ h_ => h_.1))) (Kd.R_typed (ra (Kd.R_mono (Kd.R_mono (Kd.R_far (p := ⟨gb1385, 2, none⟩) (Kd.R_far (p := ⟨gb1385, 1, none⟩) (Kd.R_far (p := ⟨gb1385, 0, none⟩) (Kd.R_far (p := ⟨gb1416, 2, none⟩) (Kd.R_far (p := ⟨gb1416, 1, none⟩) (Kd.R_far (p := ⟨gb1416, 0, none⟩) (Kd.R_types (Kd.R_types HO_7.out BK1416.out (by decide)) BK1385.out (by decide)) (fun _ hk => hk.1.2) (.slice Ao37 t1406.length co37)) (fun _ hk => hk.1.2) (.slice Ao39 t1409.length co39)) (fun _ hk => hk.1.2) (.slice Ao41 t1412.length co41)) (fun _ hk => hk.2) (.slice Ao37 t1406.length co37)) (fun _ hk => hk.2) (.slice Ao39 t1409.length co39)) (fun _ hk => hk.2) (.slice Ao41 t1412.length co41)) (fun _ h_ => h_.1)) (fun _ h_ => h_.1)))) (by decide) hg); replace HO_1386001 := Aside0.mk (Kd.R_over' (ra (Kd.R_mono (Kd.R_mono (Kd.R_far (p := ⟨gb1385, 2, none⟩) (Kd.R_far (p := ⟨gb1385, 1, none⟩) (Kd.R_far (p := ⟨gb1385, 0, none⟩) (Kd.R_far (p := ⟨gb1416, 2, none⟩) (Kd.R_far (p := ⟨gb1416, 1, none⟩) (Kd.R_far (p := ⟨gb1416, 0, none⟩) (Kd.R_types (Kd.R_types HO_1386001.out BK1416.out (by decide)) BK1385.out (by decide)) (fun _ hk => hk.1.2) (.slice Ao37 t1406.length co37)) (fun _ hk => hk.1.2) (.slice Ao39 t1409.length co39)) (fun _ hk => hk.1.2) (.slice Ao41 t1412.length co41)) (fun _ hk => hk.2) (.slice Ao37 t1406.length co37)) (fun _ hk => hk.2) (.slice Ao39 t1409.length co39)) (fun _ hk => hk.2) (.slice Ao41 t1412.length co41)) (fun _ h_ => h_.1)) (fun _ h_ => h_.1))) (Kd.R_typed (ra (Kd.R_mono (Kd.R_mono (Kd.R_far (p := ⟨gb1385, 2, none⟩) (Kd.R_far (p := ⟨gb1385, 1, none⟩) (Kd.R_far (p := ⟨gb1385, 0, none⟩) (Kd.R_far (p := ⟨gb1416, 2, none⟩) (Kd.R_far (p := ⟨gb1416, 1, none⟩) (Kd.R_far (p := ⟨gb1416, 0, none⟩) (Kd.R_types (Kd.R_types HO_7.out BK1416.out (by decide)) BK1385.out (by decide)) (fun _ hk => hk.1.2) (.slice Ao37 t1406.length co37)) (fun _ hk => hk.1.2) (.slice Ao39 t1409.length co39)) (fun _ hk => hk.1.2) (.slice Ao41 t1412.length co41)) (fun _ hk => hk.2) (.slice Ao37 t1406.length co37)) (fun _ hk => hk.2) (.slice Ao39 t1409.length co39)) (fun _ hk => hk.2) (.slice Ao41 t1412.length co41)) (fun _ h_ => h_.1)) (fun _ h_ => h_.1)))) (by decide) hg); replace HO_1386002 := Aside0.mk (Kd.R_over' (ra (Kd.R_mono (Kd.R_mono (Kd.R_far (p := ⟨gb1385, 2, none⟩) (Kd.R_far (p := ⟨gb1385, 1, none⟩) (Kd.R_far (p := ⟨gb1385, 0, none⟩) (Kd.R_far (p := ⟨gb1416, 2, none⟩) (Kd.R_far (p := ⟨gb1416, 1, none⟩) (Kd.R_far (p := ⟨gb1416, 0, none⟩) (Kd.R_types (Kd.R_types HO_1386002.out BK1416.out (by decide)) BK1385.out (by decide)) (fun _ hk => hk.1.2) (.slice Ao37 t1406.length co37)) (fun _ hk => hk.1.2) (.slice Ao39 t1409.length co39)) (fun _ hk => hk.1.2) (.slice Ao41 t1412.length co41)) (fun _ hk => hk.2) (.slice Ao37 t1406.length co37)) (fun _ hk => hk.2) (.slice Ao39 t1409.length co39)) (fun _ hk => hk.2) (.slice Ao41 t1412.length co41)) (fun _ h_ => h_.1)) (fun _ h_ => h_.1))) (Kd.R_typed (ra (Kd.R_mono (Kd.R_mono (Kd.R_far (p := ⟨gb1385, 2, none⟩) (Kd.R_far (p := ⟨gb1385, 1, none⟩) (Kd.R_far (p := ⟨gb1385, 0, none⟩) (Kd.R_far (p := ⟨gb1416, 2, none⟩) (Kd.R_far (p := ⟨gb1416, 1, none⟩) (Kd.R_far (p := ⟨gb1416, 0, none⟩) (Kd.R_types (Kd.R_types HO_7.out BK1416.out (by decide)) BK1385.out (by decide)) (fun _ hk => hk.1.2) (.slice Ao37 t1406.length co37)) (fun _ hk => hk.1.2) (.slice Ao39 t1409.length co39)) (fun _ hk => hk.1.2) (.slice Ao41 t1412.length co41)) (fun _ hk => hk.2) (.slice Ao37 t1406.length co37)) (fun _ hk => hk.2) (.slice Ao39 t1409.length co39)) (fun _ hk => hk.2) (.slice Ao41 t1412.length co41)) (fun _ h_ => h_.1)) (fun _ h_ => h_.1)))) (by decide) hg); replace BK1374 := Aside0.mk (blk_grown (g := gb1374) (o := .cells #[.slice none 0 0, .slice none 0 0, .slice none 0 0] 47 (0, 0)) (bx BK1374) hg (Kd.R_ne HO_7.out BK1374.out (by decide))); replace BK1396 := Aside0.mk (blk_grown (g := gb1396) (o := .cells #[.int .i64 ((rd_T51 l0 x22_1).f0), .int .i64 ((rd_T51 l0 x22_1).f1)] 51 (0, 0)) (bx BK1396) hg (Kd.R_ne HO_7.out BK1396.out (by decide))); replace HO1408 := Aside0.mk (Kd.R_over' (ra (Kd.R_mono (Kd.R_mono (Kd.R_far (p := ⟨gb1385, 2, none⟩) (Kd.R_far (p := ⟨gb1385, 1, none⟩) (Kd.R_far (p := ⟨gb1385, 0, none⟩) (Kd.R_far (p := ⟨gb1416, 2, none⟩) (Kd.R_far (p := ⟨gb1416, 1, none⟩) (Kd.R_far (p := ⟨gb1416, 0, none⟩) (Kd.R_types (Kd.R_types HO1408.out BK1416.out (by decide)) BK1385.out (by decide)) (fun _ hk => hk.1.2) (.slice Ao37 t1406.length co37)) (fun _ hk => hk.1.2) (.slice Ao39 t1409.length co39)) (fun _ hk => hk.1.2) (.slice Ao41 t1412.length co41)) (fun _ hk => hk.2) (.slice Ao37 t1406.length co37)) (fun _ hk => hk.2) (.slice Ao39 t1409.length co39)) (fun _ hk => hk.2) (.slice Ao41 t1412.length co41)) (fun _ h_ => h_.1)) (fun _ h_ => h_.1))) (Kd.R_typed (ra (Kd.R_mono (Kd.R_mono (Kd.R_far (p := ⟨gb1385, 2, none⟩) (Kd.R_far (p := ⟨gb1385, 1, none⟩) (Kd.R_far (p := ⟨gb1385, 0, none⟩) (Kd.R_far (p := ⟨gb1416, 2, none⟩) (Kd.R_far (p := ⟨gb1416, 1, none⟩) (Kd.R_far (p := ⟨gb1416, 0, none⟩) (Kd.R_types (Kd.R_types HO_7.out BK1416.out (by decide)) BK1385.out (by decide)) (fun _ hk => hk.1.2) (.slice Ao37 t1406.length co37)) (fun _ hk => hk.1.2) (.slice Ao39 t1409.length co39)) (fun _ hk => hk.1.2) (.slice Ao41 t1412.length co41)) (fun _ hk => hk.2) (.slice Ao37 t1406.length co37)) (fun _ hk => hk.2) (.slice Ao39 t1409.length co39)) (fun _ hk => hk.2) (.slice Ao41 t1412.length co41)) (fun _ h_ => h_.1)) (fun _ h_ => h_.1)))) (by decide) hg); replace HO1411 := Aside0.mk (Kd.R_over' (ra (Kd.R_mono (Kd.R_mono (Kd.R_far (p := ⟨gb1385, 2, none⟩) (Kd.R_far (p := ⟨gb1385, 1, none⟩) (Kd.R_far (p := ⟨gb1385, 0, none⟩) (Kd.R_far (p := ⟨gb1416, 2, none⟩) (Kd.R_far (p := ⟨gb1416, 1, none⟩) (Kd.R_far (p := ⟨gb1416, 0, none⟩) (Kd.R_types (Kd.R_types HO1411.out BK1416.out (by decide)) BK1385.out (by decide)) (fun _ hk => hk.1.2) (.slice Ao37 t1406.length co37)) (fun _ hk => hk.1.2) (.slice Ao39 t1409.length co39)) (fun _ hk => hk.1.2) (.slice Ao41 t1412.length co41)) (fun _ hk => hk.2) (.slice Ao37 t1406.length co37)) (fun _ hk => hk.2) (.slice Ao39 t1409.length co39)) (fun _ hk => hk.2) (.slice Ao41 t1412.length co41)) (fun _ h_ => h_.1)) (fun _ h_ => h_.1))) (Kd.R_typed (ra (Kd.R_mono (Kd.R_mono (Kd.R_far (p := ⟨gb1385, 2, none⟩) (Kd.R_far (p := ⟨gb1385, 1, none⟩) (Kd.R_far (p := ⟨gb1385, 0, none⟩) (Kd.R_far (p := ⟨gb1416, 2, none⟩) (Kd.R_far (p := ⟨gb1416, 1, none⟩) (Kd.R_far (p := ⟨gb1416, 0, none⟩) (Kd.R_types (Kd.R_types HO_7.out BK1416.out (by decide)) BK1385.out (by decide)) (fun _ hk => hk.1.2) (.slice Ao37 t1406.length co37)) (fun _ hk => hk.1.2) (.slice Ao39 t1409.length co39)) (fun _ hk => hk.1.2) (.slice Ao41 t1412.length co41)) (fun _ hk => hk.2) (.slice Ao37 t1406.length co37)) (fun _ hk => hk.2) (.slice Ao39 t1409.length co39)) (fun _ hk => hk.2) (.slice Ao41 t1412.length co41)) (fun _ h_ => h_.1)) (fun _ h_ => h_.1)))) (by decide) hg); replace HO1414 := Aside0.mk (Kd.R_over' (ra (Kd.R_mono (Kd.R_mono (Kd.R_far (p := ⟨gb1385, 2, none⟩) (Kd.R_far (p := ⟨gb1385, 1, none⟩) (Kd.R_far (p := ⟨gb1385, 0, none⟩) (Kd.R_far (p := ⟨gb1416, 2, none⟩) (Kd.R_far (p := ⟨gb1416, 1, none⟩) (Kd.R_far (p := ⟨gb1416, 0, none⟩) (Kd.R_types (Kd.R_types HO1414.out BK1416.out (by decide)) BK1385.out (by decide)) (fun _ hk => hk.1.2) (.slice Ao37 t1406.length co37)) (fun _ hk => hk.1.2) (.slice Ao39 t1409.length co39)) (fun _ hk => hk.1.2) (.slice Ao41 t1412.length co41)) (fun _ hk => hk.2) (.slice Ao37 t1406.length co37)) (fun _ hk => hk.2) (.slice Ao39 t1409.length co39)) (fun _ hk => hk.2) (.slice Ao41 t1412.length co41)) (fun _ h_ => h_.1)) (fun _ h_ => h_.1))) (Kd.R_typed (ra (Kd.R_mono (Kd.R_mono (Kd.R_far (p := ⟨gb1385, 2, none⟩) (Kd.R_far (p := ⟨gb1385, 1, none⟩) (Kd.R_far (p := ⟨gb1385, 0, none⟩) (Kd.R_far (p := ⟨gb1416, 2, none⟩) (Kd.R_far (p := ⟨gb1416, 1, none⟩) (Kd.R_far (p := ⟨gb1416, 0, none⟩) (Kd.R_types (Kd.R_types HO_7.out BK1416.out (by decide)) BK1385.out (by decide)) (fun _ hk => hk.1.2) (.slice Ao37 t1406.length co37)) (fun _ hk => hk.1.2) (.slice Ao39 t1409.length co39)) (fun _ hk => hk.1.2) (.slice Ao41 t1412.length co41)) (fun _ hk => hk.2) (.slice Ao37 t1406.length co37)) (fun _ hk => hk.2) (.slice Ao39 t1409.length co39)) (fun _ hk => hk.2) (.slice Ao41 t1412.length co41)) (fun _ h_ => h_.1)) (fun _ h_ => h_.1)))) (by decide) hg); replace BK1385 := Aside0.mk (blk_grown (g := gb1385) (o := .cells #[.slice Ao37 t1406.length co37, .slice Ao39 t1409.length co39, .slice Ao41 t1412.length co41] 47 (0, 0)) (by (with_reducible repeat (first | refine blk_drewN ?_ _ | refine blk_drew ?_ | refine blk_alloc ?_ _)); refine blk_put (cs := #[.slice Ao37 t1406.length co37, .slice Ao39 t1409.length co39, .slice Ao27 x1386002_1.length co27]) ?_ 2 _ rfl; (with_reducible repeat (first | refine blk_drewN ?_ _ | refine blk_drew ?_ | refine blk_alloc ?_ _)); refine blk_put (cs := #[.slice Ao37 t1406.length co37, .slice Ao26 x1386001_1.length co26, .slice Ao27 x1386002_1.length co27]) ?_ 1 _ rfl; (with_reducible repeat (first | refine blk_drewN ?_ _ | refine blk_drew ?_ | refine blk_alloc ?_ _)); refine blk_put (cs := #[.slice Ao25 x1386000_1.length co25, .slice Ao26 x1386001_1.length co26, .slice Ao27 x1386002_1.length co27]) ?_ 0 _ rfl; (with_reducible repeat (first | refine blk_drewN ?_ _ | refine blk_drew ?_ | refine blk_alloc ?_ _)); refine blk_far ?_ NB1385_1416.out _; (with_reducible repeat (first | refine blk_drewN ?_ _ | refine blk_drew ?_ | refine blk_alloc ?_ _)); refine blk_far ?_ NB1385_1416.out _; (with_reducible repeat (first | refine blk_drewN ?_ _ | refine blk_drew ?_ | refine blk_alloc ?_ _)); refine blk_far ?_ NB1385_1416.out _; (with_reducible repeat (first | refine blk_drewN ?_ _ | refine blk_drew ?_ | refine blk_alloc ?_ _)); exact BK1385.out) hg (Kd.R_ne HO_7.out BK1385.out (by decide))); replace BK1416 := Aside0.mk (blk_grown (g := gb1416) (o := .cells #[.slice Ao37 t1406.length co37, .slice Ao39 t1409.length co39, .slice Ao41 t1412.length co41] 47 (0, 0)) (by (with_reducible repeat (first | refine blk_drewN ?_ _ | refine blk_drew ?_ | refine blk_alloc ?_ _)); refine blk_far ?_ NB1416_1385.out _; (with_reducible repeat (first | refine blk_drewN ?_ _ | refine blk_drew ?_ | refine blk_alloc ?_ _)); refine blk_far ?_ NB1416_1385.out _; (with_reducible repeat (first | refine blk_drewN ?_ _ | refine blk_drew ?_ | refine blk_alloc ?_ _)); refine blk_far ?_ NB1416_1385.out _; (with_reducible repeat (first | refine blk_drewN ?_ _ | refine blk_drew ?_ | refine blk_alloc ?_ _)); refine blk_put (cs := #[.slice Ao37 t1406.length co37, .slice Ao39 t1409.length co39, .slice none 0 0]) ?_ 2 _ rfl; (with_reducible repeat (first | refine blk_drewN ?_ _ | refine blk_drew ?_ | refine blk_alloc ?_ _)); refine blk_put (cs := #[.slice Ao37 t1406.length co37, .slice none 0 0, .slice none 0 0]) ?_ 1 _ rfl; (with_reducible repeat (first | refine blk_drewN ?_ _ | refine blk_drew ?_ | refine blk_alloc ?_ _)); refine blk_put (cs := #[.slice none 0 0, .slice none 0 0, .slice none 0 0]) ?_ 0 _ rfl; (with_reducible repeat (first | refine blk_drewN ?_ _ | refine blk_drew ?_ | refine blk_alloc ?_ _)); exact BK1416.out) hg (Kd.R_ne HO_7.out BK1416.out (by decide))); replace HB := Aside0.mk (hb); clear HO_7; clear ho hb hg hat))
   go_roundg k1
   case measure => have := HK1.out; omega
   case rel => exact ⟨(y1417), (wrap64 (x22_1 + 1)), (t1406), (t1409), (t1412), (.slice Ao37 t1406.length co37), (.slice Ao39 t1409.length co39), (.slice Ao41 t1412.length co41), (by first | rfl | (simp; done) | (simp [*]; done)), H', ⟨by have := HK1.out; omega⟩, ⟨ra HO1419.out⟩, rm_ HO1408 (fun _ hk => hk.1), rm_ HO1411 (fun _ hk => hk.1), rm_ HO1414 (fun _ hk => trivial), ⟨by (with_reducible repeat (first | refine blk_drewN ?_ _ | refine blk_drew ?_ | refine blk_alloc ?_ _)); exact BK1374.out⟩, ⟨by (with_reducible repeat (first | refine blk_drewN ?_ _ | refine blk_drew ?_ | refine blk_alloc ?_ _)); exact BK1385.out⟩, ⟨hB HB⟩⟩

end Go.Proofs.Ytolncjkfcmbieaa.P
