import Derived.Test.YtolncjkfcmbieaaF0
import Derived.Test.YtolncjkfcmbieaaF9
import Derived.Test.YtolncjkfcmbieaaF33
namespace Go.Proofs.Ytolncjkfcmbieaa.P
open Go.RowKit Go.Proofs.YtolncjkfcmbieaaW.PrintWords Go.Proofs.YtolncjkfcmbieaaW.PrintLast Go.Proofs.YtolncjkfcmbieaaW.PrintMore
attribute [local go_sem] max2_int min2_int max_two min_two max_three min_three max_four min_four   -- for this text's walks alone
set_option linter.unusedVariables false
set_option linter.unusedSimpArgs false

def laws_eqHello.f (a0_0 : Int) (a0_1 : Bool) (a1_0 : Int) (a1_1 : Bool) : Option (Bool) := if a0_0 = a1_0 then (if (a0_1 != a1_1) = true then (some false) else (some true)) else (some false)
set_option maxHeartbeats 8000000 in
set_option maxRecDepth 100000 in
theorem laws_eqHello.calls (a0_0 : Int) (a0_1 : Bool) (a1_0 : Int) (a1_1 : Bool) (r : Bool) (w : World) (h : laws_eqHello.f a0_0 a0_1 a1_0 a1_1 = some r) :
  Calls Try.prog 161 #[.agg #[.int .i64 a0_0, .bool a0_1], .agg #[.int .i64 a1_0, .bool a1_1]] w fun e w' => e = .returned (.bool r) ∧ Below w.heap.size w w' := by
 have hu127 := Try.underlying127
 have HB := Aside0.mk (Below.refl w.heap.size w)
 have H : (if a0_0 = a1_0 then (if (a0_1 != a1_1) = true then (some false) else (some true)) else (some false)) = some r := h
 clear h
 by_cases c3 : a0_0 = a1_0
 rotate_left
 ·rw [if_neg c3] at H
  have c3b0 : (a0_0 == a1_0) = false := beq_eq_false_iff_ne.mpr c3
  have c3b1 : (a0_0 != a1_0) = true := bne_iff_ne.mpr c3
  obtain rfl := Option.some.inj H
  go_enter Try.func161, Try.ntmps161
  go_wp2_with (first | ((with_reducible refine gate_dst (N := 2) rfl ?_); refine box_event ?hg (N := 2) ?hd (cs := #[.int .i64 a0_0, .bool a0_1]) (t := 127) ?hr ?_; (case hd => rfl); (case hg => rfl); (case hr => first | (go_simp; done) | (go_simp; rfl)); intro gb595 hg w15 hbox hb; have BK595 := Aside0.mk (hbox); have GW595 := gw_ hg HB; have GE595 := gw_ hg HB; replace HB := bst_ HB hb; clear hb hbox hg) | ((with_reducible refine gate_dst (N := 3) rfl ?_); refine box_event ?hg (N := 3) ?hd (cs := #[.int .i64 a1_0, .bool a1_1]) (t := 127) ?hr ?_; (case hd => rfl); (case hg => rfl); (case hr => first | (go_simp; done) | (go_simp; rfl)); intro gb596 hg w16 hbox hb; have BK596 := Aside0.mk (hbox); have GW596 := gw_ hg HB; have GE596 := gw_ hg HB; have NB595_596 := nl_ hg BK595; have NB596_595 := ng_ hg BK595; replace BK595 := bb_ BK595 hb; replace HB := bst_ HB hb; clear hb hbox hg; have hnb17 := NB595_596.out; have hnc17 := NB596_595.out; have hcz18_0 : w16.cell? ⟨gb595, 0, none⟩ = some (.int .i64 a0_0) := bc_ BK595 0; have hcz18_1 : w16.cell? ⟨gb595, 1, none⟩ = some (.bool a0_1) := bc_ BK595 1; have hfz18_0 := blk_frozen BK595.out 0; have hfz18_1 := blk_frozen BK595.out 1; have hcz19_0 : w16.cell? ⟨gb596, 0, none⟩ = some (.int .i64 a1_0) := bc_ BK596 0; have hcz19_1 : w16.cell? ⟨gb596, 1, none⟩ = some (.bool a1_1) := bc_ BK596 1; have hfz19_0 := blk_frozen BK596.out 0; have hfz19_1 := blk_frozen BK596.out 1))
  go_ret
  exact ⟨by first | rfl | (simp [errW_none, errW_some] <;> rfl) | (simp [*, errW_none, errW_some] <;> rfl), by repeat (first | (with_reducible first | exact HB.out | apply below_alloc | apply pw_below_drewN | apply below_drew1 | refine below_set ?_ GE595.out | refine below_set ?_ GE596.out) | exact HB.out)⟩
 rw [if_pos c3] at H
 have c3b0 : (a0_0 == a1_0) = true := beq_iff_eq.mpr c3
 have c3b1 : (a0_0 != a1_0) = false := bne_eq_false_iff_eq.mpr c3
 clear c3
 by_cases c4 : (a0_1 != a1_1) = true
 rotate_left
 ·rw [if_neg c4] at H
  have c4b0 : (a0_1 != a1_1) = false := by simpa using c4
  (try (have c4b1 : decide (a0_1 = a1_1) = true := by simpa using c4))
  (try (have c4b2 : (a0_1 == a1_1) = true := by simpa using c4))
  clear c4
  obtain rfl := Option.some.inj H
  go_enter Try.func161, Try.ntmps161
  go_wp2_with (first | ((with_reducible refine gate_dst (N := 2) rfl ?_); refine box_event ?hg (N := 2) ?hd (cs := #[.int .i64 a0_0, .bool a0_1]) (t := 127) ?hr ?_; (case hd => rfl); (case hg => rfl); (case hr => first | (go_simp; done) | (go_simp; rfl)); intro gb595 hg w10 hbox hb; have BK595 := Aside0.mk (hbox); have GW595 := gw_ hg HB; have GE595 := gw_ hg HB; replace HB := bst_ HB hb; clear hb hbox hg) | ((with_reducible refine gate_dst (N := 3) rfl ?_); refine box_event ?hg (N := 3) ?hd (cs := #[.int .i64 a1_0, .bool a1_1]) (t := 127) ?hr ?_; (case hd => rfl); (case hg => rfl); (case hr => first | (go_simp; done) | (go_simp; rfl)); intro gb596 hg w11 hbox hb; have BK596 := Aside0.mk (hbox); have GW596 := gw_ hg HB; have GE596 := gw_ hg HB; have NB595_596 := nl_ hg BK595; have NB596_595 := ng_ hg BK595; replace BK595 := bb_ BK595 hb; replace HB := bst_ HB hb; clear hb hbox hg; have hnb12 := NB595_596.out; have hnc12 := NB596_595.out; have hcz13_0 : w11.cell? ⟨gb595, 0, none⟩ = some (.int .i64 a0_0) := bc_ BK595 0; have hcz13_1 : w11.cell? ⟨gb595, 1, none⟩ = some (.bool a0_1) := bc_ BK595 1; have hfz13_0 := blk_frozen BK595.out 0; have hfz13_1 := blk_frozen BK595.out 1; have hcz14_0 : w11.cell? ⟨gb596, 0, none⟩ = some (.int .i64 a1_0) := bc_ BK596 0; have hcz14_1 : w11.cell? ⟨gb596, 1, none⟩ = some (.bool a1_1) := bc_ BK596 1; have hfz14_0 := blk_frozen BK596.out 0; have hfz14_1 := blk_frozen BK596.out 1))
  go_ret
  exact ⟨by first | rfl | (simp [errW_none, errW_some] <;> rfl) | (simp [*, errW_none, errW_some] <;> rfl), by repeat (first | (with_reducible first | exact HB.out | apply below_alloc | apply pw_below_drewN | apply below_drew1 | refine below_set ?_ GE595.out | refine below_set ?_ GE596.out) | exact HB.out)⟩
 rw [if_pos c4] at H
 have c4b0 : (a0_1 != a1_1) = true := c4
 (try (have c4b1 : decide (a0_1 = a1_1) = false := by simpa using c4))
 (try (have c4b2 : (a0_1 == a1_1) = false := by simpa using c4))
 (try (have c4b3 : ¬ (a0_1 = a1_1) := by simpa using c4))
 clear c4
 obtain rfl := Option.some.inj H
 go_enter Try.func161, Try.ntmps161
 go_wp2_with (first | ((with_reducible refine gate_dst (N := 2) rfl ?_); refine box_event ?hg (N := 2) ?hd (cs := #[.int .i64 a0_0, .bool a0_1]) (t := 127) ?hr ?_; (case hd => rfl); (case hg => rfl); (case hr => first | (go_simp; done) | (go_simp; rfl)); intro gb595 hg w5 hbox hb; have BK595 := Aside0.mk (hbox); have GW595 := gw_ hg HB; have GE595 := gw_ hg HB; replace HB := bst_ HB hb; clear hb hbox hg) | ((with_reducible refine gate_dst (N := 3) rfl ?_); refine box_event ?hg (N := 3) ?hd (cs := #[.int .i64 a1_0, .bool a1_1]) (t := 127) ?hr ?_; (case hd => rfl); (case hg => rfl); (case hr => first | (go_simp; done) | (go_simp; rfl)); intro gb596 hg w6 hbox hb; have BK596 := Aside0.mk (hbox); have GW596 := gw_ hg HB; have GE596 := gw_ hg HB; have NB595_596 := nl_ hg BK595; have NB596_595 := ng_ hg BK595; replace BK595 := bb_ BK595 hb; replace HB := bst_ HB hb; clear hb hbox hg; have hnb7 := NB595_596.out; have hnc7 := NB596_595.out; have hcz8_0 : w6.cell? ⟨gb595, 0, none⟩ = some (.int .i64 a0_0) := bc_ BK595 0; have hcz8_1 : w6.cell? ⟨gb595, 1, none⟩ = some (.bool a0_1) := bc_ BK595 1; have hfz8_0 := blk_frozen BK595.out 0; have hfz8_1 := blk_frozen BK595.out 1; have hcz9_0 : w6.cell? ⟨gb596, 0, none⟩ = some (.int .i64 a1_0) := bc_ BK596 0; have hcz9_1 : w6.cell? ⟨gb596, 1, none⟩ = some (.bool a1_1) := bc_ BK596 1; have hfz9_0 := blk_frozen BK596.out 0; have hfz9_1 := blk_frozen BK596.out 1))
 go_ret
 exact ⟨by first | rfl | (simp [errW_none, errW_some] <;> rfl) | (simp [*, errW_none, errW_some] <;> rfl), by repeat (first | (with_reducible first | exact HB.out | apply below_alloc | apply pw_below_drewN | apply below_drew1 | refine below_set ?_ GE595.out | refine below_set ?_ GE596.out) | exact HB.out)⟩

def laws_eqHelloS.l0 : Nat → List (S127) → List (S127) → Int → Option (Bool)
 | 0, _, _, _ => none
 | k + 1, x0, x1, x5 => if x5 < (x0.length : Int) then (if 0 ≤ x5 then (if x5 < (x1.length : Int) then ((laws_eqHello.f ((rd_T127 x0 x5).f0) ((rd_T127 x0 x5).f1) ((rd_T127 x1 x5).f0) ((rd_T127 x1 x5).f1)).bind fun t599 => (if t599 = true then (laws_eqHelloS.l0 k x0 x1 (wrap64 (x5 + 1))) else (some false))) else (none)) else (none)) else (some true)
def laws_eqHelloS.f (k : Nat) (l0 : List (S127)) (l1 : List (S127)) : Option (Bool) := if (l0.length : Int) = (l1.length : Int) then (laws_eqHelloS.l0 k l0 l1 0) else (some false)
theorem laws_eqHelloS.mono_l : ∀ k, (∀ y0 y1 y2, LeO (laws_eqHelloS.l0 k y0 y1 y2) (laws_eqHelloS.l0 (k + 1) y0 y1 y2))
 | 0 => fun _ _ _ r h => by simp [laws_eqHelloS.l0] at h
 | k + 1 => by
  have ih0 := laws_eqHelloS.mono_l k
  ·intro y0 y1 y2
   unfold laws_eqHelloS.l0
   repeat' first
   | (with_reducible exact ih0 _ _ _)
   | (with_reducible exact LeO.refl _)
   | (with_reducible exact LeO.none _)
   | (with_reducible refine LeO.ite ?_ ?_)
   | (with_reducible refine LeO.bind ?_ (fun _ => ?_))
theorem laws_eqHelloS.mono : ∀ a0 a1 k, LeO (laws_eqHelloS.f k a0 a1) (laws_eqHelloS.f (k + 1) a0 a1) := by
 intro a0 a1 k
 have ih0 := laws_eqHelloS.mono_l k
 unfold laws_eqHelloS.f
 repeat' first
   | (with_reducible exact ih0 _ _ _)
   | (with_reducible exact LeO.refl _)
   | (with_reducible exact LeO.none _)
   | (with_reducible refine LeO.ite ?_ ?_)
   | (with_reducible refine LeO.bind ?_ (fun _ => ?_))
def laws_eqHelloS.T6 : Bool × List (List Nat × List Nat) := (true, [([], []), ([], []), ([0, 1], [0, 1]), ([2], [2]), ([], []), ([], []), ([4, 5], [4, 5]), ([6], [6]), ([3, 7], [3, 7]), ([8], [8])])
def laws_eqHelloS.B6 : List Nat := [0, 0, 3, 7, 0, 0, 48, 112, 255, 511]
theorem laws_eqHelloS.tab6 : rtab .any (opsOf Try.f95 6) = laws_eqHelloS.T6 := by kernel_rfl
theorem laws_eqHelloS.bits6 : waitsOk laws_eqHelloS.T6.2 laws_eqHelloS.B6 = true := by kernel_rfl
set_option maxHeartbeats 8000000 in
set_option maxRecDepth 100000 in
theorem laws_eqHelloS.calls (k : Nat) (A0 : Option Addr) (c0 : Nat) (l0 : List (S127)) (A1 : Option Addr) (c1 : Nat) (l1 : List (S127)) (r : Bool) (w : World) (hr0 : Kd.C k127 w A0 l0.length l0) (hc0 : l0.length ≤ c0) (hr1 : Kd.C k127 w A1 l1.length l1) (hc1 : l1.length ≤ c1) (h : laws_eqHelloS.f k l0 l1 = some r) :
  Calls Try.prog 95 #[.slice A0 l0.length c0, .slice A1 l1.length c1] w fun e w' => e = .returned (.bool r) ∧ Below w.heap.size w w' := by
 have hu127 := Try.underlying127
 have HR0 := Aside0.mk hr0
 have HC0 := Aside0.mk hc0
 clear hr0 hc0
 have HR1 := Aside0.mk hr1
 have HC1 := Aside0.mk hc1
 clear hr1 hc1
 have HB := Aside0.mk (Below.refl w.heap.size w)
 have H : (if (l0.length : Int) = (l1.length : Int) then (laws_eqHelloS.l0 k l0 l1 0) else (some false)) = some r := h
 clear h
 by_cases c3 : (l0.length : Int) = (l1.length : Int)
 rotate_left
 ·rw [if_neg c3] at H
  have c3b0 : ((l0.length : Int) == (l1.length : Int)) = false := beq_eq_false_iff_ne.mpr c3
  have c3b1 : ((l0.length : Int) != (l1.length : Int)) = true := bne_iff_ne.mpr c3
  have c3b2 : (l0.length == l1.length) = false := by first | simpa using c3 | (simp at c3 ⊢; omega)
  obtain rfl := Option.some.inj H
  go_enter Try.func95, Try.ntmps95
  go_wp2
  go_ret
  exact ⟨by first | rfl | (simp [errW_none, errW_some] <;> rfl) | (simp [*, errW_none, errW_some] <;> rfl), by repeat (first | (with_reducible first | exact HB.out | apply below_alloc | apply pw_below_drewN | apply below_drew1) | exact HB.out)⟩
 rw [if_pos c3] at H
 have c3b0 : ((l0.length : Int) == (l1.length : Int)) = true := beq_iff_eq.mpr c3
 have c3b1 : ((l0.length : Int) != (l1.length : Int)) = false := bne_eq_false_iff_eq.mpr c3
 have c3b2 : (l0.length == l1.length) = true := by first | simpa using c3 | (simp at c3 ⊢; omega)
 clear c3
 have H' := Aside0.mk H
 clear H
 go_enter Try.func95, Try.ntmps95
 go_wp2
 go_loopg [5] k (fun kq v5 w' => ∃ (x5_1 : Int), v5 = .int .i64 x5_1 ∧ Aside0 (laws_eqHelloS.l0 kq l0 l1 x5_1 = some r) ∧ Aside0 (kq ≤ k) ∧ Aside0 (Below w.heap.size w w'))
 case atStart => exact ⟨(0), (by first | rfl | (simp; done) | (simp [*]; done)), H', ⟨Nat.le_refl _⟩, ⟨hB HB⟩⟩
 case round =>
  clear H'
  try clear c1
  try clear c3
  try clear c3b0
  try clear c3b1
  try clear c3b2
  obtain ⟨x5_1, rfl, HA, HK1, HB⟩ := hrel
  cases gk with
  | zero => exact absurd HA.out (by simp [laws_eqHelloS.l0])
  | succ k1 =>
   have H := HA.out
   clear HA
   simp only [laws_eqHelloS.l0] at H
   by_cases c4 : x5_1 < (l0.length : Int)
   rotate_left
   ·rw [if_neg c4] at H
    have c4b0 : decide (x5_1 < (l0.length : Int)) = false := decide_eq_false c4
    clear c4
    obtain rfl := Option.some.inj H
    go_wp2
    go_ret
    exact ⟨by first | rfl | (simp [errW_none, errW_some] <;> rfl) | (simp [*, errW_none, errW_some] <;> rfl), by repeat (first | (with_reducible first | exact HB.out | apply below_alloc | apply pw_below_drewN | apply below_drew1) | exact HB.out)⟩
   rw [if_pos c4] at H
   have c4b0 : decide (x5_1 < (l0.length : Int)) = true := decide_eq_true c4
   clear c4
   by_cases c5 : 0 ≤ x5_1
   rotate_left
   ·rw [if_neg c5] at H
    exact absurd H (by simp)
   rw [if_pos c5] at H
   have c5b0 : decide (0 ≤ x5_1) = true := decide_eq_true c5
   clear c5
   by_cases c6 : x5_1 < (l1.length : Int)
   rotate_left
   ·rw [if_neg c6] at H
    exact absurd H (by simp)
   rw [if_pos c6] at H
   have c6b0 : decide (x5_1 < (l1.length : Int)) = true := decide_eq_true c6
   clear c6
   replace H := Option.bind_eq_some_iff.mp H
   obtain ⟨t599, A70, H⟩ := H
   replace H : (if t599 = true then (laws_eqHelloS.l0 k1 l0 l1 (wrap64 (x5_1 + 1))) else (some false)) = some r := H
   have A7 := Aside0.mk A70
   clear A70
   by_cases c8 : t599 = true
   ·subst c8
    rw [if_pos rfl] at H
    have H' := Aside0.mk H
    clear H
    try go_wp2
    replace HB := Aside0.mk (below_drew1 HB.out)
    have p597 : 0 ≤ (x5_1 : Int) := of_decide_eq_true (by first | (with_reducible assumption) | assumption)
    have q597 : x5_1 < (l0.length : Int) := of_decide_eq_true (by first | (with_reducible assumption) | assumption)
    obtain ⟨ad597, e597, hx597_0, hx597_1⟩ := at_T127 HR0.out x5_1 p597 q597
    have hw597_1 := hx597_1
    have hw597_0 := hx597_0
    cases e597
    replace hx597_0 := (HB.out.cell (World.block_lt_of_cell? w _ hx597_0)).trans hx597_0
    replace hx597_1 := (HB.out.cell (World.block_lt_of_cell? w _ hx597_1)).trans hx597_1
    replace p597 := eq_true p597
    replace q597 := eq_true q597
    have p598 : 0 ≤ (x5_1 : Int) := of_decide_eq_true (by first | (with_reducible assumption) | assumption)
    have q598 : x5_1 < (l1.length : Int) := of_decide_eq_true (by first | (with_reducible assumption) | assumption)
    obtain ⟨ad598, e598, hx598_0, hx598_1⟩ := at_T127 HR1.out x5_1 p598 q598
    have hw598_1 := hx598_1
    have hw598_0 := hx598_0
    cases e598
    replace hx598_0 := (HB.out.cell (World.block_lt_of_cell? w _ hx598_0)).trans hx598_0
    replace hx598_1 := (HB.out.cell (World.block_lt_of_cell? w _ hx598_1)).trans hx598_1
    replace p598 := eq_true p598
    replace q598 := eq_true q598
    refine start_ (n := 10) (S := fun w' => w'.cell? (ad597.add ((x5_1).toNat * 2)) = some (.int .i64 ((rd_T127 l0 x5_1).f0)) ∧ w'.cell? ⟨(ad597.add ((x5_1).toNat * 2)).block, (ad597.add ((x5_1).toNat * 2)).off + 1, none⟩ = some (.bool ((rd_T127 l0 x5_1).f1)) ∧ w'.cell? (ad598.add ((x5_1).toNat * 2)) = some (.int .i64 ((rd_T127 l1 x5_1).f0)) ∧ w'.cell? ⟨(ad598.add ((x5_1).toNat * 2)).block, (ad598.add ((x5_1).toNat * 2)).off + 1, none⟩ = some (.bool ((rd_T127 l1 x5_1).f1))) (ds := []) (bs 10 0) (by kernel_rfl) rfl rfl ⟨((HB.out.cell (World.block_lt_of_cell? w _ hw597_0)).trans hw597_0), ((HB.out.cell (World.block_lt_of_cell? w _ hw597_1)).trans hw597_1), ((HB.out.cell (World.block_lt_of_cell? w _ hw598_0)).trans hw598_0), ((HB.out.cell (World.block_lt_of_cell? w _ hw598_1)).trans hw598_1)⟩ (fun hHeld => ?_); refine with_tabW laws_eqHelloS.tab6 laws_eqHelloS.bits6 (fun HT_ HW_ => ?_)
    generalize wr.drew = w9 at HB hx597_0 hx597_1 hx598_0 hx598_1 hHeld ⊢
    refine pu_ 0 17 (bs 10 1) HT_ ?_
    refine pu_ 1 18 (bs 10 3) HT_ ?_
    refine pu_ 2 19 (bs 10 7) HT_ ?_
    refine pu_ 4 21 (bs 10 23) HT_ ?_
    refine pu_ 5 22 (bs 10 55) HT_ ?_
    refine pu_ 6 23 (bs 10 119) HT_ ?_
    refine tk_ 3 20 (bs 10 127) HT_ HW_ hHeld ?_
    refine tk_ 7 24 (bs 10 255) HT_ HW_ hHeld ?_
    refine one_ (i := 8) (N := some 25) (bs 10 511) rfl rfl (one_of HT_.out (by kernel_rfl)) (by decide) (fun K hK => ?_)
    refine goes_ Try.func161 (by kernel_rfl) rfl #[.agg #[.int .i64 ((rd_T127 l0 x5_1).f0), .bool ((rd_T127 l0 x5_1).f1)], .agg #[.int .i64 ((rd_T127 l1 x5_1).f0), .bool ((rd_T127 l1 x5_1).f1)]] (by rfl) rfl rfl tm_ ?_
    with_reducible refine (laws_eqHello.calls ((rd_T127 l0 x5_1).f0) ((rd_T127 l0 x5_1).f1) ((rd_T127 l1 x5_1).f0) ((rd_T127 l1 x5_1).f1) true _ A7.out).mono ?_
    rintro e w10 ⟨rfl, hb⟩
    refine ⟨_, rfl, ?_⟩
    replace HB := bst_ HB hb
    clear hb
    refine hK.out _ _ ⟨((HB.out.cell (World.block_lt_of_cell? w _ hw597_0)).trans hw597_0), ((HB.out.cell (World.block_lt_of_cell? w _ hw597_1)).trans hw597_1), ((HB.out.cell (World.block_lt_of_cell? w _ hw598_0)).trans hw598_0), ((HB.out.cell (World.block_lt_of_cell? w _ hw598_1)).trans hw598_1)⟩ (fun hHeld => ?_)
    clear hK K
    refine nm_ 25 ?_
    refine pu_ 9 26 (bs 10 1023) HT_ ?_
    refine done_ (done_of HT_.out (by kernel_rfl)) ?_
    try go_wp2
    go_roundg k1
    case measure => have := HK1.out; omega
    case rel => exact ⟨(wrap64 (x5_1 + 1)), (by first | rfl | (simp; done) | (simp [*]; done)), H', ⟨by have := HK1.out; omega⟩, ⟨hB HB⟩⟩
   replace c8 := Bool.eq_false_iff.mpr c8
   subst c8
   rw [if_neg (show ¬ (false = true) by decide)] at H
   obtain rfl := Option.some.inj H
   try go_wp2
   replace HB := Aside0.mk (below_drew1 HB.out)
   have p597 : 0 ≤ (x5_1 : Int) := of_decide_eq_true (by first | (with_reducible assumption) | assumption)
   have q597 : x5_1 < (l0.length : Int) := of_decide_eq_true (by first | (with_reducible assumption) | assumption)
   obtain ⟨ad597, e597, hx597_0, hx597_1⟩ := at_T127 HR0.out x5_1 p597 q597
   have hw597_1 := hx597_1
   have hw597_0 := hx597_0
   cases e597
   replace hx597_0 := (HB.out.cell (World.block_lt_of_cell? w _ hx597_0)).trans hx597_0
   replace hx597_1 := (HB.out.cell (World.block_lt_of_cell? w _ hx597_1)).trans hx597_1
   replace p597 := eq_true p597
   replace q597 := eq_true q597
   have p598 : 0 ≤ (x5_1 : Int) := of_decide_eq_true (by first | (with_reducible assumption) | assumption)
   have q598 : x5_1 < (l1.length : Int) := of_decide_eq_true (by first | (with_reducible assumption) | assumption)
   obtain ⟨ad598, e598, hx598_0, hx598_1⟩ := at_T127 HR1.out x5_1 p598 q598
   have hw598_1 := hx598_1
   have hw598_0 := hx598_0
   cases e598
   replace hx598_0 := (HB.out.cell (World.block_lt_of_cell? w _ hx598_0)).trans hx598_0
   replace hx598_1 := (HB.out.cell (World.block_lt_of_cell? w _ hx598_1)).trans hx598_1
   replace p598 := eq_true p598
   replace q598 := eq_true q598
   refine start_ (n := 10) (S := fun w' => w'.cell? (ad597.add ((x5_1).toNat * 2)) = some (.int .i64 ((rd_T127 l0 x5_1).f0)) ∧ w'.cell? ⟨(ad597.add ((x5_1).toNat * 2)).block, (ad597.add ((x5_1).toNat * 2)).off + 1, none⟩ = some (.bool ((rd_T127 l0 x5_1).f1)) ∧ w'.cell? (ad598.add ((x5_1).toNat * 2)) = some (.int .i64 ((rd_T127 l1 x5_1).f0)) ∧ w'.cell? ⟨(ad598.add ((x5_1).toNat * 2)).block, (ad598.add ((x5_1).toNat * 2)).off + 1, none⟩ = some (.bool ((rd_T127 l1 x5_1).f1))) (ds := []) (bs 10 0) (by kernel_rfl) rfl rfl ⟨((HB.out.cell (World.block_lt_of_cell? w _ hw597_0)).trans hw597_0), ((HB.out.cell (World.block_lt_of_cell? w _ hw597_1)).trans hw597_1), ((HB.out.cell (World.block_lt_of_cell? w _ hw598_0)).trans hw598_0), ((HB.out.cell (World.block_lt_of_cell? w _ hw598_1)).trans hw598_1)⟩ (fun hHeld => ?_); refine with_tabW laws_eqHelloS.tab6 laws_eqHelloS.bits6 (fun HT_ HW_ => ?_)
   generalize wr.drew = w11 at HB hx597_0 hx597_1 hx598_0 hx598_1 hHeld ⊢
   refine pu_ 0 17 (bs 10 1) HT_ ?_
   refine pu_ 1 18 (bs 10 3) HT_ ?_
   refine pu_ 2 19 (bs 10 7) HT_ ?_
   refine pu_ 4 21 (bs 10 23) HT_ ?_
   refine pu_ 5 22 (bs 10 55) HT_ ?_
   refine pu_ 6 23 (bs 10 119) HT_ ?_
   refine tk_ 3 20 (bs 10 127) HT_ HW_ hHeld ?_
   refine tk_ 7 24 (bs 10 255) HT_ HW_ hHeld ?_
   refine one_ (i := 8) (N := some 25) (bs 10 511) rfl rfl (one_of HT_.out (by kernel_rfl)) (by decide) (fun K hK => ?_)
   refine goes_ Try.func161 (by kernel_rfl) rfl #[.agg #[.int .i64 ((rd_T127 l0 x5_1).f0), .bool ((rd_T127 l0 x5_1).f1)], .agg #[.int .i64 ((rd_T127 l1 x5_1).f0), .bool ((rd_T127 l1 x5_1).f1)]] (by rfl) rfl rfl tm_ ?_
   with_reducible refine (laws_eqHello.calls ((rd_T127 l0 x5_1).f0) ((rd_T127 l0 x5_1).f1) ((rd_T127 l1 x5_1).f0) ((rd_T127 l1 x5_1).f1) false _ A7.out).mono ?_
   rintro e w12 ⟨rfl, hb⟩
   refine ⟨_, rfl, ?_⟩
   replace HB := bst_ HB hb
   clear hb
   refine hK.out _ _ ⟨((HB.out.cell (World.block_lt_of_cell? w _ hw597_0)).trans hw597_0), ((HB.out.cell (World.block_lt_of_cell? w _ hw597_1)).trans hw597_1), ((HB.out.cell (World.block_lt_of_cell? w _ hw598_0)).trans hw598_0), ((HB.out.cell (World.block_lt_of_cell? w _ hw598_1)).trans hw598_1)⟩ (fun hHeld => ?_)
   clear hK K
   refine nm_ 25 ?_
   refine pu_ 9 26 (bs 10 1023) HT_ ?_
   refine done_ (done_of HT_.out (by kernel_rfl)) ?_
   try go_wp2
   go_ret
   exact ⟨by first | rfl | (simp [errW_none, errW_some] <;> rfl) | (simp [*, errW_none, errW_some] <;> rfl), by repeat (first | (with_reducible first | exact HB.out | apply below_alloc | apply pw_below_drewN | apply below_drew1) | exact HB.out)⟩

def laws_eqPair.f (k : Nat) (l0_0 : List Int) (l0_1 : List Int) (l0_2 : List (S127)) (l1_0 : List Int) (l1_1 : List Int) (l1_2 : List (S127)) : Option (Bool) := (laws_eqIntS.f k l0_0 l1_0).bind fun t602 => (if t602 = true then ((laws_eqIntS.f k l0_1 l1_1).bind fun t603 => (if t603 = true then ((laws_eqHelloS.f k l0_2 l1_2).bind fun t604 => (if t604 = true then (some true) else (some false))) else (some false))) else (some false))
theorem laws_eqPair.mono : ∀ a0 a1 a2 a3 a4 a5 k, LeO (laws_eqPair.f k a0 a1 a2 a3 a4 a5) (laws_eqPair.f (k + 1) a0 a1 a2 a3 a4 a5) := by
 intro a0 a1 a2 a3 a4 a5 k
 unfold laws_eqPair.f
 repeat' first
   | (with_reducible exact laws_eqHelloS.mono _ _ _)
   | (with_reducible exact laws_eqIntS.mono _ _ _)
   | (with_reducible exact LeO.refl _)
   | (with_reducible exact LeO.none _)
   | (with_reducible refine LeO.ite ?_ ?_)
   | (with_reducible refine LeO.bind ?_ (fun _ => ?_))
set_option maxHeartbeats 8000000 in
set_option maxRecDepth 100000 in
theorem laws_eqPair.calls (k : Nat) (A0_0 : Option Addr) (c0_0 : Nat) (l0_0 : List Int) (A0_1 : Option Addr) (c0_1 : Nat) (l0_1 : List Int) (A0_2 : Option Addr) (c0_2 : Nat) (l0_2 : List (S127)) (A1_0 : Option Addr) (c1_0 : Nat) (l1_0 : List Int) (A1_1 : Option Addr) (c1_1 : Nat) (l1_1 : List Int) (A1_2 : Option Addr) (c1_2 : Nat) (l1_2 : List (S127)) (r : Bool) (w : World) (hr0_0 : Kd.C (Kd.int .i64) w A0_0 l0_0.length l0_0) (hc0_0 : l0_0.length ≤ c0_0) (hr0_1 : Kd.C (Kd.int .i64) w A0_1 l0_1.length l0_1) (hc0_1 : l0_1.length ≤ c0_1) (hr0_2 : Kd.C k127 w A0_2 l0_2.length l0_2) (hc0_2 : l0_2.length ≤ c0_2) (hr1_0 : Kd.C (Kd.int .i64) w A1_0 l1_0.length l1_0) (hc1_0 : l1_0.length ≤ c1_0) (hr1_1 : Kd.C (Kd.int .i64) w A1_1 l1_1.length l1_1) (hc1_1 : l1_1.length ≤ c1_1) (hr1_2 : Kd.C k127 w A1_2 l1_2.length l1_2) (hc1_2 : l1_2.length ≤ c1_2) (h : laws_eqPair.f k l0_0 l0_1 l0_2 l1_0 l1_1 l1_2 = some r) :
  Calls Try.prog 34 #[.agg #[.slice A0_0 l0_0.length c0_0, .slice A0_1 l0_1.length c0_1, .slice A0_2 l0_2.length c0_2], .agg #[.slice A1_0 l1_0.length c1_0, .slice A1_1 l1_1.length c1_1, .slice A1_2 l1_2.length c1_2]] w fun e w' => e = .returned (.bool r) ∧ Below w.heap.size w w' := by
 have hu47 := Try.underlying47
 have HR0_0 := Aside0.mk hr0_0
 have HC0_0 := Aside0.mk hc0_0
 clear hr0_0 hc0_0
 have HR0_1 := Aside0.mk hr0_1
 have HC0_1 := Aside0.mk hc0_1
 clear hr0_1 hc0_1
 have HR0_2 := Aside0.mk hr0_2
 have HC0_2 := Aside0.mk hc0_2
 clear hr0_2 hc0_2
 have HR1_0 := Aside0.mk hr1_0
 have HC1_0 := Aside0.mk hc1_0
 clear hr1_0 hc1_0
 have HR1_1 := Aside0.mk hr1_1
 have HC1_1 := Aside0.mk hc1_1
 clear hr1_1 hc1_1
 have HR1_2 := Aside0.mk hr1_2
 have HC1_2 := Aside0.mk hc1_2
 clear hr1_2 hc1_2
 have HB := Aside0.mk (Below.refl w.heap.size w)
 have H : ((laws_eqIntS.f k l0_0 l1_0).bind fun t602 => (if t602 = true then ((laws_eqIntS.f k l0_1 l1_1).bind fun t603 => (if t603 = true then ((laws_eqHelloS.f k l0_2 l1_2).bind fun t604 => (if t604 = true then (some true) else (some false))) else (some false))) else (some false))) = some r := h
 clear h
 replace H := Option.bind_eq_some_iff.mp H
 obtain ⟨t602, A30, H⟩ := H
 replace H : (if t602 = true then ((laws_eqIntS.f k l0_1 l1_1).bind fun t603 => (if t603 = true then ((laws_eqHelloS.f k l0_2 l1_2).bind fun t604 => (if t604 = true then (some true) else (some false))) else (some false))) else (some false)) = some r := H
 have A3 := Aside0.mk A30
 clear A30
 by_cases c4 : t602 = true
 rotate_left
 ·replace c4 := Bool.eq_false_iff.mpr c4
  subst c4
  rw [if_neg (show ¬ (false = true) by decide)] at H
  obtain rfl := Option.some.inj H
  go_enter Try.func34, Try.ntmps34
  go_wp2_with (first | ((with_reducible refine gate_dst (N := 2) rfl ?_); refine box_event ?hg (N := 2) ?hd (cs := #[.slice A0_0 l0_0.length c0_0, .slice A0_1 l0_1.length c0_1, .slice A0_2 l0_2.length c0_2]) (t := 47) ?hr ?_; (case hd => rfl); (case hg => rfl); (case hr => first | (go_simp; done) | (go_simp; rfl)); intro gb600 hg w26 hbox hb; have BK600 := Aside0.mk (hbox); have GW600 := gw_ hg HB; have GE600 := gw_ hg HB; replace HB := bst_ HB hb; clear hb hbox hg) | ((with_reducible refine gate_dst (N := 3) rfl ?_); refine box_event ?hg (N := 3) ?hd (cs := #[.slice A1_0 l1_0.length c1_0, .slice A1_1 l1_1.length c1_1, .slice A1_2 l1_2.length c1_2]) (t := 47) ?hr ?_; (case hd => rfl); (case hg => rfl); (case hr => first | (go_simp; done) | (go_simp; rfl)); intro gb601 hg w27 hbox hb; have BK601 := Aside0.mk (hbox); have GW601 := gw_ hg HB; have GE601 := gw_ hg HB; have NB600_601 := nl_ hg BK600; have NB601_600 := ng_ hg BK600; replace BK600 := bb_ BK600 hb; replace HB := bst_ HB hb; clear hb hbox hg; have hnb28 := NB600_601.out; have hnc28 := NB601_600.out; have hcz29_0 : w27.cell? ⟨gb600, 0, none⟩ = some (.slice A0_0 l0_0.length c0_0) := bc_ BK600 0; have hcz29_1 : w27.cell? ⟨gb600, 1, none⟩ = some (.slice A0_1 l0_1.length c0_1) := bc_ BK600 1; have hcz29_2 : w27.cell? ⟨gb600, 2, none⟩ = some (.slice A0_2 l0_2.length c0_2) := bc_ BK600 2; have hfz29_0 := blk_frozen BK600.out 0; have hfz29_1 := blk_frozen BK600.out 1; have hfz29_2 := blk_frozen BK600.out 2; have hcz30_0 : w27.cell? ⟨gb601, 0, none⟩ = some (.slice A1_0 l1_0.length c1_0) := bc_ BK601 0; have hcz30_1 : w27.cell? ⟨gb601, 1, none⟩ = some (.slice A1_1 l1_1.length c1_1) := bc_ BK601 1; have hcz30_2 : w27.cell? ⟨gb601, 2, none⟩ = some (.slice A1_2 l1_2.length c1_2) := bc_ BK601 2; have hfz30_0 := blk_frozen BK601.out 0; have hfz30_1 := blk_frozen BK601.out 1; have hfz30_2 := blk_frozen BK601.out 2) | ((with_reducible refine gate_callee (f := 19) rfl ?_); refine goesL_ (some 9) rfl rfl Try.func19 (by kernel_rfl) rfl #[.slice A0_0 l0_0.length c0_0, .slice A1_0 l1_0.length c1_0] rfl tm_ ?_; (with_reducible refine (laws_eqIntS.calls k _ _ l0_0 _ _ l1_0 false _ ?side1 ?side2 ?side3 ?side4 A3.out).mono ?_); (case side1 => exact ca (Kd.C_below HR0_0.out HB.out)); (case side2 => exact HC0_0.out); (case side3 => exact ca (Kd.C_below HR1_0.out HB.out)); (case side4 => exact HC1_0.out); rintro e w' ⟨rfl, ⟨nd, rfl⟩⟩; refine ⟨_, rfl, ?_⟩))
  go_ret
  exact ⟨by first | rfl | (simp [errW_none, errW_some] <;> rfl) | (simp [*, errW_none, errW_some] <;> rfl), by repeat (first | (with_reducible first | exact HB.out | apply below_alloc | apply pw_below_drewN | apply below_drew1 | refine below_set ?_ GE600.out | refine below_set ?_ GE601.out) | exact HB.out)⟩
 subst c4
 rw [if_pos rfl] at H
 replace H := Option.bind_eq_some_iff.mp H
 obtain ⟨t603, A50, H⟩ := H
 replace H : (if t603 = true then ((laws_eqHelloS.f k l0_2 l1_2).bind fun t604 => (if t604 = true then (some true) else (some false))) else (some false)) = some r := H
 have A5 := Aside0.mk A50
 clear A50
 by_cases c6 : t603 = true
 rotate_left
 ·replace c6 := Bool.eq_false_iff.mpr c6
  subst c6
  rw [if_neg (show ¬ (false = true) by decide)] at H
  obtain rfl := Option.some.inj H
  go_enter Try.func34, Try.ntmps34
  go_wp2_with (first | ((with_reducible refine gate_dst (N := 2) rfl ?_); refine box_event ?hg (N := 2) ?hd (cs := #[.slice A0_0 l0_0.length c0_0, .slice A0_1 l0_1.length c0_1, .slice A0_2 l0_2.length c0_2]) (t := 47) ?hr ?_; (case hd => rfl); (case hg => rfl); (case hr => first | (go_simp; done) | (go_simp; rfl)); intro gb600 hg w21 hbox hb; have BK600 := Aside0.mk (hbox); have GW600 := gw_ hg HB; have GE600 := gw_ hg HB; replace HB := bst_ HB hb; clear hb hbox hg) | ((with_reducible refine gate_dst (N := 3) rfl ?_); refine box_event ?hg (N := 3) ?hd (cs := #[.slice A1_0 l1_0.length c1_0, .slice A1_1 l1_1.length c1_1, .slice A1_2 l1_2.length c1_2]) (t := 47) ?hr ?_; (case hd => rfl); (case hg => rfl); (case hr => first | (go_simp; done) | (go_simp; rfl)); intro gb601 hg w22 hbox hb; have BK601 := Aside0.mk (hbox); have GW601 := gw_ hg HB; have GE601 := gw_ hg HB; have NB600_601 := nl_ hg BK600; have NB601_600 := ng_ hg BK600; replace BK600 := bb_ BK600 hb; replace HB := bst_ HB hb; clear hb hbox hg; have hnb23 := NB600_601.out; have hnc23 := NB601_600.out; have hcz24_0 : w22.cell? ⟨gb600, 0, none⟩ = some (.slice A0_0 l0_0.length c0_0) := bc_ BK600 0; have hcz24_1 : w22.cell? ⟨gb600, 1, none⟩ = some (.slice A0_1 l0_1.length c0_1) := bc_ BK600 1; have hcz24_2 : w22.cell? ⟨gb600, 2, none⟩ = some (.slice A0_2 l0_2.length c0_2) := bc_ BK600 2; have hfz24_0 := blk_frozen BK600.out 0; have hfz24_1 := blk_frozen BK600.out 1; have hfz24_2 := blk_frozen BK600.out 2; have hcz25_0 : w22.cell? ⟨gb601, 0, none⟩ = some (.slice A1_0 l1_0.length c1_0) := bc_ BK601 0; have hcz25_1 : w22.cell? ⟨gb601, 1, none⟩ = some (.slice A1_1 l1_1.length c1_1) := bc_ BK601 1; have hcz25_2 : w22.cell? ⟨gb601, 2, none⟩ = some (.slice A1_2 l1_2.length c1_2) := bc_ BK601 2; have hfz25_0 := blk_frozen BK601.out 0; have hfz25_1 := blk_frozen BK601.out 1; have hfz25_2 := blk_frozen BK601.out 2) | ((with_reducible refine gate_callee (f := 19) rfl ?_); refine goesL_ (some 9) rfl rfl Try.func19 (by kernel_rfl) rfl #[.slice A0_0 l0_0.length c0_0, .slice A1_0 l1_0.length c1_0] rfl tm_ ?_; (with_reducible refine (laws_eqIntS.calls k _ _ l0_0 _ _ l1_0 true _ ?side1 ?side2 ?side3 ?side4 A3.out).mono ?_); (case side1 => exact ca (Kd.C_below HR0_0.out HB.out)); (case side2 => exact HC0_0.out); (case side3 => exact ca (Kd.C_below HR1_0.out HB.out)); (case side4 => exact HC1_0.out); rintro e w' ⟨rfl, ⟨nd, rfl⟩⟩; refine ⟨_, rfl, ?_⟩) | ((with_reducible refine gate_callee (f := 19) rfl ?_); refine goesL_ (some 15) rfl rfl Try.func19 (by kernel_rfl) rfl #[.slice A0_1 l0_1.length c0_1, .slice A1_1 l1_1.length c1_1] rfl tm_ ?_; (with_reducible refine (laws_eqIntS.calls k _ _ l0_1 _ _ l1_1 false _ ?side1 ?side2 ?side3 ?side4 A5.out).mono ?_); (case side1 => exact ca (Kd.C_below HR0_1.out (hB HB))); (case side2 => exact HC0_1.out); (case side3 => exact ca (Kd.C_below HR1_1.out (hB HB))); (case side4 => exact HC1_1.out); rintro e w' ⟨rfl, ⟨nd, rfl⟩⟩; refine ⟨_, rfl, ?_⟩))
  go_ret
  exact ⟨by first | rfl | (simp [errW_none, errW_some] <;> rfl) | (simp [*, errW_none, errW_some] <;> rfl), by repeat (first | (with_reducible first | exact HB.out | apply below_alloc | apply pw_below_drewN | apply below_drew1 | refine below_set ?_ GE600.out | refine below_set ?_ GE601.out) | exact HB.out)⟩
 subst c6
 rw [if_pos rfl] at H
 replace H := Option.bind_eq_some_iff.mp H
 obtain ⟨t604, A70, H⟩ := H
 replace H : (if t604 = true then (some true) else (some false)) = some r := H
 have A7 := Aside0.mk A70
 clear A70
 by_cases c8 : t604 = true
 ·subst c8
  rw [if_pos rfl] at H
  obtain rfl := Option.some.inj H
  go_enter Try.func34, Try.ntmps34
  go_wp2_with (first | ((with_reducible refine gate_dst (N := 2) rfl ?_); refine box_event ?hg (N := 2) ?hd (cs := #[.slice A0_0 l0_0.length c0_0, .slice A0_1 l0_1.length c0_1, .slice A0_2 l0_2.length c0_2]) (t := 47) ?hr ?_; (case hd => rfl); (case hg => rfl); (case hr => first | (go_simp; done) | (go_simp; rfl)); intro gb600 hg w9 hbox hb; have BK600 := Aside0.mk (hbox); have GW600 := gw_ hg HB; have GE600 := gw_ hg HB; replace HB := bst_ HB hb; clear hb hbox hg) | ((with_reducible refine gate_dst (N := 3) rfl ?_); refine box_event ?hg (N := 3) ?hd (cs := #[.slice A1_0 l1_0.length c1_0, .slice A1_1 l1_1.length c1_1, .slice A1_2 l1_2.length c1_2]) (t := 47) ?hr ?_; (case hd => rfl); (case hg => rfl); (case hr => first | (go_simp; done) | (go_simp; rfl)); intro gb601 hg w10 hbox hb; have BK601 := Aside0.mk (hbox); have GW601 := gw_ hg HB; have GE601 := gw_ hg HB; have NB600_601 := nl_ hg BK600; have NB601_600 := ng_ hg BK600; replace BK600 := bb_ BK600 hb; replace HB := bst_ HB hb; clear hb hbox hg; have hnb11 := NB600_601.out; have hnc11 := NB601_600.out; have hcz12_0 : w10.cell? ⟨gb600, 0, none⟩ = some (.slice A0_0 l0_0.length c0_0) := bc_ BK600 0; have hcz12_1 : w10.cell? ⟨gb600, 1, none⟩ = some (.slice A0_1 l0_1.length c0_1) := bc_ BK600 1; have hcz12_2 : w10.cell? ⟨gb600, 2, none⟩ = some (.slice A0_2 l0_2.length c0_2) := bc_ BK600 2; have hfz12_0 := blk_frozen BK600.out 0; have hfz12_1 := blk_frozen BK600.out 1; have hfz12_2 := blk_frozen BK600.out 2; have hcz13_0 : w10.cell? ⟨gb601, 0, none⟩ = some (.slice A1_0 l1_0.length c1_0) := bc_ BK601 0; have hcz13_1 : w10.cell? ⟨gb601, 1, none⟩ = some (.slice A1_1 l1_1.length c1_1) := bc_ BK601 1; have hcz13_2 : w10.cell? ⟨gb601, 2, none⟩ = some (.slice A1_2 l1_2.length c1_2) := bc_ BK601 2; have hfz13_0 := blk_frozen BK601.out 0; have hfz13_1 := blk_frozen BK601.out 1; have hfz13_2 := blk_frozen BK601.out 2) | ((with_reducible refine gate_callee (f := 19) rfl ?_); refine goesL_ (some 9) rfl rfl Try.func19 (by kernel_rfl) rfl #[.slice A0_0 l0_0.length c0_0, .slice A1_0 l1_0.length c1_0] rfl tm_ ?_; (with_reducible refine (laws_eqIntS.calls k _ _ l0_0 _ _ l1_0 true _ ?side1 ?side2 ?side3 ?side4 A3.out).mono ?_); (case side1 => exact ca (Kd.C_below HR0_0.out HB.out)); (case side2 => exact HC0_0.out); (case side3 => exact ca (Kd.C_below HR1_0.out HB.out)); (case side4 => exact HC1_0.out); rintro e w' ⟨rfl, ⟨nd, rfl⟩⟩; refine ⟨_, rfl, ?_⟩) | ((with_reducible refine gate_callee (f := 19) rfl ?_); refine goesL_ (some 15) rfl rfl Try.func19 (by kernel_rfl) rfl #[.slice A0_1 l0_1.length c0_1, .slice A1_1 l1_1.length c1_1] rfl tm_ ?_; (with_reducible refine (laws_eqIntS.calls k _ _ l0_1 _ _ l1_1 true _ ?side1 ?side2 ?side3 ?side4 A5.out).mono ?_); (case side1 => exact ca (Kd.C_below HR0_1.out (hB HB))); (case side2 => exact HC0_1.out); (case side3 => exact ca (Kd.C_below HR1_1.out (hB HB))); (case side4 => exact HC1_1.out); rintro e w' ⟨rfl, ⟨nd, rfl⟩⟩; refine ⟨_, rfl, ?_⟩) | ((with_reducible refine gate_callee (f := 95) rfl ?_); refine goesL_ (some 21) rfl rfl Try.func95 (by kernel_rfl) rfl #[.slice A0_2 l0_2.length c0_2, .slice A1_2 l1_2.length c1_2] rfl tm_ ?_; (with_reducible refine (laws_eqHelloS.calls k _ _ l0_2 _ _ l1_2 true _ ?side1 ?side2 ?side3 ?side4 A7.out).mono ?_); (case side1 => exact ca (Kd.C_below HR0_2.out (hB HB))); (case side2 => exact HC0_2.out); (case side3 => exact ca (Kd.C_below HR1_2.out (hB HB))); (case side4 => exact HC1_2.out); rintro e w14 ⟨rfl, hb⟩; refine ⟨_, rfl, ?_⟩; replace BK600 := bb_ BK600 hb; replace BK601 := bb_ BK601 hb; replace HB := bst_ HB hb; clear hb))
  go_ret
  exact ⟨by first | rfl | (simp [errW_none, errW_some] <;> rfl) | (simp [*, errW_none, errW_some] <;> rfl), by repeat (first | (with_reducible first | exact HB.out | apply below_alloc | apply pw_below_drewN | apply below_drew1 | refine below_set ?_ GE600.out | refine below_set ?_ GE601.out) | exact HB.out)⟩
 replace c8 := Bool.eq_false_iff.mpr c8
 subst c8
 rw [if_neg (show ¬ (false = true) by decide)] at H
 obtain rfl := Option.some.inj H
 go_enter Try.func34, Try.ntmps34
 go_wp2_with (first | ((with_reducible refine gate_dst (N := 2) rfl ?_); refine box_event ?hg (N := 2) ?hd (cs := #[.slice A0_0 l0_0.length c0_0, .slice A0_1 l0_1.length c0_1, .slice A0_2 l0_2.length c0_2]) (t := 47) ?hr ?_; (case hd => rfl); (case hg => rfl); (case hr => first | (go_simp; done) | (go_simp; rfl)); intro gb600 hg w15 hbox hb; have BK600 := Aside0.mk (hbox); have GW600 := gw_ hg HB; have GE600 := gw_ hg HB; replace HB := bst_ HB hb; clear hb hbox hg) | ((with_reducible refine gate_dst (N := 3) rfl ?_); refine box_event ?hg (N := 3) ?hd (cs := #[.slice A1_0 l1_0.length c1_0, .slice A1_1 l1_1.length c1_1, .slice A1_2 l1_2.length c1_2]) (t := 47) ?hr ?_; (case hd => rfl); (case hg => rfl); (case hr => first | (go_simp; done) | (go_simp; rfl)); intro gb601 hg w16 hbox hb; have BK601 := Aside0.mk (hbox); have GW601 := gw_ hg HB; have GE601 := gw_ hg HB; have NB600_601 := nl_ hg BK600; have NB601_600 := ng_ hg BK600; replace BK600 := bb_ BK600 hb; replace HB := bst_ HB hb; clear hb hbox hg; have hnb17 := NB600_601.out; have hnc17 := NB601_600.out; have hcz18_0 : w16.cell? ⟨gb600, 0, none⟩ = some (.slice A0_0 l0_0.length c0_0) := bc_ BK600 0; have hcz18_1 : w16.cell? ⟨gb600, 1, none⟩ = some (.slice A0_1 l0_1.length c0_1) := bc_ BK600 1; have hcz18_2 : w16.cell? ⟨gb600, 2, none⟩ = some (.slice A0_2 l0_2.length c0_2) := bc_ BK600 2; have hfz18_0 := blk_frozen BK600.out 0; have hfz18_1 := blk_frozen BK600.out 1; have hfz18_2 := blk_frozen BK600.out 2; have hcz19_0 : w16.cell? ⟨gb601, 0, none⟩ = some (.slice A1_0 l1_0.length c1_0) := bc_ BK601 0; have hcz19_1 : w16.cell? ⟨gb601, 1, none⟩ = some (.slice A1_1 l1_1.length c1_1) := bc_ BK601 1; have hcz19_2 : w16.cell? ⟨gb601, 2, none⟩ = some (.slice A1_2 l1_2.length c1_2) := bc_ BK601 2; have hfz19_0 := blk_frozen BK601.out 0; have hfz19_1 := blk_frozen BK601.out 1; have hfz19_2 := blk_frozen BK601.out 2) | ((with_reducible refine gate_callee (f := 19) rfl ?_); refine goesL_ (some 9) rfl rfl Try.func19 (by kernel_rfl) rfl #[.slice A0_0 l0_0.length c0_0, .slice A1_0 l1_0.length c1_0] rfl tm_ ?_; (with_reducible refine (laws_eqIntS.calls k _ _ l0_0 _ _ l1_0 true _ ?side1 ?side2 ?side3 ?side4 A3.out).mono ?_); (case side1 => exact ca (Kd.C_below HR0_0.out HB.out)); (case side2 => exact HC0_0.out); (case side3 => exact ca (Kd.C_below HR1_0.out HB.out)); (case side4 => exact HC1_0.out); rintro e w' ⟨rfl, ⟨nd, rfl⟩⟩; refine ⟨_, rfl, ?_⟩) | ((with_reducible refine gate_callee (f := 19) rfl ?_); refine goesL_ (some 15) rfl rfl Try.func19 (by kernel_rfl) rfl #[.slice A0_1 l0_1.length c0_1, .slice A1_1 l1_1.length c1_1] rfl tm_ ?_; (with_reducible refine (laws_eqIntS.calls k _ _ l0_1 _ _ l1_1 true _ ?side1 ?side2 ?side3 ?side4 A5.out).mono ?_); (case side1 => exact ca (Kd.C_below HR0_1.out (hB HB))); (case side2 => exact HC0_1.out); (case side3 => exact ca (Kd.C_below HR1_1.out (hB HB))); (case side4 => exact HC1_1.out); rintro e w' ⟨rfl, ⟨nd, rfl⟩⟩; refine ⟨_, rfl, ?_⟩) | ((with_reducible refine gate_callee (f := 95) rfl ?_); refine goesL_ (some 21) rfl rfl Try.func95 (by kernel_rfl) rfl #[.slice A0_2 l0_2.length c0_2, .slice A1_2 l1_2.length c1_2] rfl tm_ ?_; (with_reducible refine (laws_eqHelloS.calls k _ _ l0_2 _ _ l1_2 false _ ?side1 ?side2 ?side3 ?side4 A7.out).mono ?_); (case side1 => exact ca (Kd.C_below HR0_2.out (hB HB))); (case side2 => exact HC0_2.out); (case side3 => exact ca (Kd.C_below HR1_2.out (hB HB))); (case side4 => exact HC1_2.out); rintro e w20 ⟨rfl, hb⟩; refine ⟨_, rfl, ?_⟩; replace BK600 := bb_ BK600 hb; replace BK601 := bb_ BK601 hb; replace HB := bst_ HB hb; clear hb))
 go_ret
 exact ⟨by first | rfl | (simp [errW_none, errW_some] <;> rfl) | (simp [*, errW_none, errW_some] <;> rfl), by repeat (first | (with_reducible first | exact HB.out | apply below_alloc | apply pw_below_drewN | apply below_drew1 | refine below_set ?_ GE600.out | refine below_set ?_ GE601.out) | exact HB.out)⟩

def laws_markHelloS.l0 : Nat → List (S127) → Int → Int → Option (Int × (List (S127)))
 | 0, _, _, _ => none
 | k + 1, x0, x1, x5 => if x5 < (x0.length : Int) then (if 0 ≤ x5 then ((some (x0.set (x5 : Int).toNat (⟨x1, (rd_T127 x0 x5).f1⟩ : S127) : List (S127))).bind fun y605 => (laws_markHelloS.l0 k (y605.set (x5 : Int).toNat (⟨(rd_T127 y605 x5).f0, ((Int.tmod (wrap64 (x1 + 1)) 3) == 0)⟩ : S127)) (wrap64 ((wrap64 (x1 + 1)) + 1)) (wrap64 (x5 + 1)))) else (none)) else (some (x1, x0))
def laws_markHelloS.f (k : Nat) (l0 : List (S127)) (a1 : Int) : Option (Int × (List (S127))) := laws_markHelloS.l0 k l0 a1 0
theorem laws_markHelloS.mono_l : ∀ k, (∀ y0 y1 y2, LeO (laws_markHelloS.l0 k y0 y1 y2) (laws_markHelloS.l0 (k + 1) y0 y1 y2))
 | 0 => fun _ _ _ r h => by simp [laws_markHelloS.l0] at h
 | k + 1 => by
  have ih0 := laws_markHelloS.mono_l k
  ·intro y0 y1 y2
   unfold laws_markHelloS.l0
   repeat' first
   | (with_reducible exact ih0 _ _ _)
   | (with_reducible exact LeO.refl _)
   | (with_reducible exact LeO.none _)
   | (with_reducible refine LeO.ite ?_ ?_)
   | (with_reducible refine LeO.bind ?_ (fun _ => ?_))
theorem laws_markHelloS.mono : ∀ a0 a1 k, LeO (laws_markHelloS.f k a0 a1) (laws_markHelloS.f (k + 1) a0 a1) := by
 intro a0 a1 k
 have ih0 := laws_markHelloS.mono_l k
 unfold laws_markHelloS.f
 repeat' first
   | (with_reducible exact ih0 _ _ _)
   | (with_reducible exact LeO.refl _)
   | (with_reducible exact LeO.none _)
   | (with_reducible refine LeO.ite ?_ ?_)
   | (with_reducible refine LeO.bind ?_ (fun _ => ?_))
set_option maxHeartbeats 8000000 in
set_option maxRecDepth 100000 in
theorem laws_markHelloS.calls (k : Nat) (P0_ : Nat → Prop) (u9000_ : Value) (l0 : List (S127)) (a1 : Int) (r1 : Int) (r2 : List (S127)) (w0 w : World) (hB : Below w0.heap.size w0 w) (ho0 : Kd.R k127 127 w w0.heap.size P0_ u9000_ l0) (h : laws_markHelloS.f k l0 a1 = some (r1, r2)) :
  Calls Try.prog 96 #[u9000_, .int .i64 a1] w fun e w' => e = .returned (.int .i64 r1) ∧ Kd.R k127 127 w' w0.heap.size (fun k_ => (P0_ k_ ∨ w.heap.size ≤ k_)) u9000_ r2 ∧ Below w0.heap.size w0 w' ∧ Kept w w' (fun k_ => P0_ k_) := by
 have HO0 := Aside0.mk (show Kd.R k127 127 w w0.heap.size (fun k_ => (P0_ k_ ∨ w.heap.size ≤ k_)) u9000_ l0 from Kd.R_mono ho0 (fun k_ hk => (.inl hk)))
 have HK := Aside0.mk (Kept.refl w (fun k_ => P0_ k_))
 have HW0 := Aside0.mk hB.size
 have HB := Aside0.mk hB
 clear hB
 have H : (laws_markHelloS.l0 k l0 a1 0) = some (r1, r2) := h
 clear h
 have H' := Aside0.mk H
 clear H
 go_enter Try.func96, Try.ntmps96
 go_wp2
 go_loopg [1, 5] k (fun kq v1 v5 w' => ∃ (x0_1 : List (S127)) (x1_1 : Int) (x5_1 : Int), v1 = .int .i64 x1_1 ∧ v5 = .int .i64 x5_1 ∧ Aside0 (laws_markHelloS.l0 kq x0_1 x1_1 x5_1 = some (r1, r2)) ∧ Aside0 (kq ≤ k) ∧ Aside0 (Kd.R k127 127 w' w0.heap.size (fun k_ => (P0_ k_ ∨ w.heap.size ≤ k_)) u9000_ x0_1) ∧ Aside0 (Kept w w' (fun k_ => P0_ k_)) ∧ Aside0 (Below w0.heap.size w0 w'))
 case atStart => exact ⟨(l0), (a1), (0), (by first | rfl | (simp; done) | (simp [*]; done)), (by first | rfl | (simp; done) | (simp [*]; done)), H', ⟨Nat.le_refl _⟩, ⟨ra HO0.out⟩, ⟨by repeat (first | (with_reducible first | exact HK.out | apply Kept.alloc | apply Kept.drewN | apply Kept.drew) | exact HK.out)⟩, ⟨hB HB⟩⟩
 case round =>
  clear H'
  obtain ⟨x0_1, x1_1, x5_1, rfl, rfl, HA, HK1, HO_0, HK, HB⟩ := hrel
  cases gk with
  | zero => exact absurd HA.out (by simp [laws_markHelloS.l0])
  | succ k1 =>
   have H := HA.out
   clear HA
   simp only [laws_markHelloS.l0] at H
   by_cases c3 : x5_1 < (x0_1.length : Int)
   rotate_left
   ·rw [if_neg c3] at H
    have c3b0 : decide (x5_1 < (x0_1.length : Int)) = false := decide_eq_false c3
    clear c3
    simp only [Option.some.injEq, Prod.mk.injEq] at H
    obtain ⟨rfl, rfl⟩ := H
    obtain ⟨Ao12, co12, eo12⟩ := Kd.R_slice HO_0.out
    subst eo12
    go_wp2
    go_ret
    exact ⟨by first | rfl | (simp [errW_none, errW_some] <;> rfl) | (simp [*, errW_none, errW_some] <;> rfl), by (with_reducible repeat (first | apply Kd.R_alloc | apply Kd.R_drewN | apply Kd.R_drew)); exact HO_0.out, by repeat (first | (with_reducible first | exact HB.out | apply below_alloc | apply pw_below_drewN | apply below_drew1) | exact HB.out), by repeat (first | (with_reducible first | exact HK.out | apply Kept.alloc | apply Kept.drewN | apply Kept.drew) | exact HK.out)⟩
   rw [if_pos c3] at H
   have c3b0 : decide (x5_1 < (x0_1.length : Int)) = true := decide_eq_true c3
   clear c3
   by_cases c4 : 0 ≤ x5_1
   rotate_left
   ·rw [if_neg c4] at H
    exact absurd H (by simp)
   rw [if_pos c4] at H
   have c4b0 : decide (0 ≤ x5_1) = true := decide_eq_true c4
   clear c4
   obtain ⟨y605, hy605⟩ : ∃ y_ : List (S127), y_ = (x0_1.set (x5_1 : Int).toNat (⟨x1_1, (rd_T127 x0_1 x5_1).f1⟩ : S127)) := ⟨_, rfl⟩
   replace H : (laws_markHelloS.l0 k1 (y605.set (x5_1 : Int).toNat (⟨(rd_T127 y605 x5_1).f0, ((Int.tmod (wrap64 (x1_1 + 1)) 3) == 0)⟩ : S127)) (wrap64 ((wrap64 (x1_1 + 1)) + 1)) (wrap64 (x5_1 + 1))) = some (r1, r2) := by first | (rw [hy605]; with_reducible exact H) | (have H2_ := (Option.bind_some _ _).symm.trans H; rw [hy605]; with_reducible exact H2_) | (have H2_ := (Option.bind_some _ _).symm.trans H; with_reducible exact H2_) | with_reducible exact H | (rw [hy605]; exact H) | exact H
   have Ny605 := Aside0.mk hy605
   clear hy605
   obtain ⟨y606, hy606⟩ : ∃ y_ : List (S127), y_ = (y605.set (x5_1 : Int).toNat (⟨(rd_T127 y605 x5_1).f0, ((Int.tmod (wrap64 (x1_1 + 1)) 3) == 0)⟩ : S127)) := ⟨_, rfl⟩
   replace H : (laws_markHelloS.l0 k1 y606 (wrap64 ((wrap64 (x1_1 + 1)) + 1)) (wrap64 (x5_1 + 1))) = some (r1, r2) := by first | (rw [hy606]; with_reducible exact H) | (have H2_ := (Option.bind_some _ _).symm.trans H; rw [hy606]; with_reducible exact H2_) | (have H2_ := (Option.bind_some _ _).symm.trans H; with_reducible exact H2_) | with_reducible exact H | (rw [hy606]; exact H) | exact H
   have Ny606 := Aside0.mk hy606
   clear hy606
   have H' := Aside0.mk H
   clear H
   obtain ⟨Ao7, co7, eo7⟩ := Kd.R_slice HO_0.out
   subst eo7
   have p5 : 0 ≤ (x5_1 : Int) := of_decide_eq_true (by first | (with_reducible assumption) | assumption)
   have q5 : (x5_1 : Int) < ((x0_1.length : Int) : Int) := of_decide_eq_true (by first | (with_reducible assumption) | assumption)
   obtain ⟨go5, co5, eo5, gb5, gl5, cl5, HG5⟩ := Kd.R_form HO_0.out (by omega)
   (first | cases eo5 | (injection eo5 with ea_ en_ ec_; (first | subst ea_ | (injection ea_ with ea_; subst ea_)); subst ec_; clear en_))
   have GB5 := Aside0.mk gb5
   have GG5 := Aside0.mk HG5
   clear gb5 gl5 HG5
   have HMgo5 := Aside0.mk (show (P0_ go5 ∨ w.heap.size ≤ go5) from (HO_0.out.1 _ rfl))
   obtain ⟨ce5, hcl5, hM5, hcc5, hfr5⟩ := Kd.R_elem HO_0.out z127 (x5_1 : Int) p5 q5
   obtain rfl := k127_openM hM5
   have hx5_0 : wr.cell? ⟨go5, (x5_1 : Int).toNat * 2, none⟩ = some (.int .i64 ((rd_T127 x0_1 x5_1).f0)) := hcc5 0 _ rfl
   have hx5_1 : wr.cell? ⟨go5, (x5_1 : Int).toNat * 2 + 1, none⟩ = some (.bool ((rd_T127 x0_1 x5_1).f1)) := hcc5 1 _ rfl
   have hf5_0 : wr.frozen? ⟨go5, (x5_1 : Int).toNat * 2, none⟩ = false := hfr5 0
   have hf5_1 : wr.frozen? ⟨go5, (x5_1 : Int).toNat * 2 + 1, none⟩ = false := hfr5 1
   clear hcl5 hcc5 hfr5 hM5
   replace p5 := eq_true p5
   replace q5 := eq_true q5
   have HX8 := Aside0.mk (show Kd.R k127 127 wr w0.heap.size (fun k_ => (P0_ k_ ∨ w.heap.size ≤ k_)) (.slice (some ⟨go5, 0, none⟩) x0_1.length co7) x0_1 from (ra HO_0.out))
   obtain ⟨ce8, hcl8, hM8, hcc8, hfr8⟩ := Kd.R_elem HX8.out z127 (x5_1 : Int) (of_decide_eq_true (by first | (with_reducible assumption) | assumption)) (by have h_ : (x5_1 : Int) < ((x0_1.length : Int) : Int) := of_decide_eq_true (by first | (with_reducible assumption) | assumption); first | exact h_ | (have e_ := (Kd.R_reads' HO_0.out).1; omega) | simpa using h_)
   obtain rfl := k127_openM hM8
   have HP8 := Kd.R_seg HX8.out (x5_1 : Int) (of_decide_eq_true (by first | (with_reducible assumption) | assumption)) (by have h_ : (x5_1 : Int) < ((x0_1.length : Int) : Int) := of_decide_eq_true (by first | (with_reducible assumption) | assumption); first | exact h_ | (have e_ := (Kd.R_reads' HO_0.out).1; omega) | simpa using h_) (seg := [.int .i64 x1_1]) (j := 0) hcl8 hcc8 (show 1 ≤ 2 from by decide) (x' := (⟨x1_1, (rd_T127 x0_1 x5_1).f1⟩ : S127)) (k127_mkM _ _ _ (⟨x1_1, (rd_T127 x0_1 x5_1).f1⟩ : S127) ) (fun _ hk => hk)
   have hx8_0 := hcc8 0 _ rfl
   (try simp only [show (k127).sz = 2 from rfl, Nat.mul_one, Nat.add_zero] at hx8_0)
   have hf8_0 := hfr8 0
   (try simp only [show (k127).sz = 2 from rfl, Nat.mul_one, Nat.add_zero] at hf8_0)
   clear hcl8 hcc8 hfr8 hM8
   go_wp2_with (first | ((with_reducible refine gate_store (t := 3) (p := 16) rfl ?_); refine store_event (t := 3) (p := 16) (v := ?vo_w9) (w1 := (wr.setCell ⟨go5, (x5_1 : Int).toNat * 2, none⟩ (.int .i64 x1_1))) ?hg ?ho ?hn ?hr ?_; (case ho => rfl); (case hg => rfl); (case hn => rfl); (case hr => first | (go_simp; done) | (go_simp; rfl)); intro w9 hw; have hg : wr.grownBy w9 (some go5) := (by rw [hw]; exact HP8.2); have hp_ : Kd.R k127 127 w9 w0.heap.size (fun k_ => (P0_ k_ ∨ w.heap.size ≤ k_)) (.slice (some ⟨go5, 0, none⟩) x0_1.length co7) y605 := (by rw [hw, Ny605.out]; exact HP8.1); clear HP8; replace HB := Aside0.mk ((by rw [hw]; exact below_set (HB.out) GB5.out : Below w0.heap.size w0 w9)); replace HK := Aside0.mk (Kept.of_grown (S := (fun k_ => P0_ k_)) hg (by repeat (first | (with_reducible first | exact HK.out | apply Kept.alloc | apply Kept.drewN | apply Kept.drew) | exact HK.out)) (fun k_ e_ => (HO_0.out.1 k_ e_))); replace HO_0 := Aside0.mk (hp_); clear hg hw hp_; have p6 : 0 ≤ (x5_1 : Int) := of_decide_eq_true (by first | (with_reducible assumption) | assumption); have q6 : (x5_1 : Int) < ((x0_1.length : Int) : Int) := of_decide_eq_true (by first | (with_reducible assumption) | assumption); obtain ⟨ce6, hcl6, hM6, hcc6, hfr6⟩ := Kd.R_elem HO_0.out z127 (x5_1 : Int) p6 q6; obtain rfl := k127_openM hM6; have hx6_0 : w9.cell? ⟨go5, (x5_1 : Int).toNat * 2, none⟩ = some (.int .i64 ((rd_T127 y605 x5_1).f0)) := hcc6 0 _ rfl; have hx6_1 : w9.cell? ⟨go5, (x5_1 : Int).toNat * 2 + 1, none⟩ = some (.bool ((rd_T127 y605 x5_1).f1)) := hcc6 1 _ rfl; have hf6_0 : w9.frozen? ⟨go5, (x5_1 : Int).toNat * 2, none⟩ = false := hfr6 0; have hf6_1 : w9.frozen? ⟨go5, (x5_1 : Int).toNat * 2 + 1, none⟩ = false := hfr6 1; clear hcl6 hcc6 hfr6 hM6; replace p6 := eq_true p6; replace q6 := eq_true q6; have HX10 := Aside0.mk (show Kd.R k127 127 w9 w0.heap.size (fun k_ => (P0_ k_ ∨ w.heap.size ≤ k_)) (.slice (some ⟨go5, 0, none⟩) x0_1.length co7) y605 from (ra HO_0.out)); obtain ⟨ce10, hcl10, hM10, hcc10, hfr10⟩ := Kd.R_elem HX10.out z127 (x5_1 : Int) (of_decide_eq_true (by first | (with_reducible assumption) | assumption)) (by have h_ : (x5_1 : Int) < ((x0_1.length : Int) : Int) := of_decide_eq_true (by first | (with_reducible assumption) | assumption); first | exact h_ | (have e_ := (Kd.R_reads' HO_0.out).1; omega) | simpa using h_); obtain rfl := k127_openM hM10; have HP10 := Kd.R_seg HX10.out (x5_1 : Int) (of_decide_eq_true (by first | (with_reducible assumption) | assumption)) (by have h_ : (x5_1 : Int) < ((x0_1.length : Int) : Int) := of_decide_eq_true (by first | (with_reducible assumption) | assumption); first | exact h_ | (have e_ := (Kd.R_reads' HO_0.out).1; omega) | simpa using h_) (seg := [.bool ((Int.tmod (wrap64 (x1_1 + 1)) 3) == 0)]) (j := 1) hcl10 hcc10 (show 2 ≤ 2 from by decide) (x' := (⟨(rd_T127 y605 x5_1).f0, ((Int.tmod (wrap64 (x1_1 + 1)) 3) == 0)⟩ : S127)) (k127_mkM _ _ _ (⟨(rd_T127 y605 x5_1).f0, ((Int.tmod (wrap64 (x1_1 + 1)) 3) == 0)⟩ : S127) ) (fun _ hk => hk); have hx10_1 := hcc10 1 _ rfl; (try simp only [show (k127).sz = 2 from rfl, Nat.mul_one, Nat.add_zero] at hx10_1); have hf10_1 := hfr10 1; (try simp only [show (k127).sz = 2 from rfl, Nat.mul_one, Nat.add_zero] at hf10_1); clear hcl10 hcc10 hfr10 hM10) | ((with_reducible refine gate_store (t := 4) (p := 25) rfl ?_); refine store_event (t := 4) (p := 25) (v := ?vo_w11) (w1 := (w9.setCell ⟨go5, (x5_1 : Int).toNat * 2 + 1, none⟩ (.bool ((Int.tmod (wrap64 (x1_1 + 1)) 3) == 0)))) ?hg ?ho ?hn ?hr ?_; (case ho => rfl); (case hg => rfl); (case hn => rfl); (case hr => first | (go_simp; done) | (go_simp; rfl)); intro w11 hw; have hg : w9.grownBy w11 (some go5) := (by rw [hw]; exact HP10.2); have hp_ : Kd.R k127 127 w11 w0.heap.size (fun k_ => (P0_ k_ ∨ w.heap.size ≤ k_)) (.slice (some ⟨go5, 0, none⟩) x0_1.length co7) y606 := (by rw [hw, Ny606.out]; exact HP10.1); clear HP10; replace HB := Aside0.mk ((by rw [hw]; exact below_set (HB.out) GB5.out : Below w0.heap.size w0 w11)); replace HK := Aside0.mk (Kept.of_grown (S := (fun k_ => P0_ k_)) hg (by repeat (first | (with_reducible first | exact HK.out | apply Kept.alloc | apply Kept.drewN | apply Kept.drew) | exact HK.out)) (fun k_ e_ => (HO_0.out.1 k_ e_))); replace HO_0 := Aside0.mk (hp_); clear hg hw hp_))
   go_roundg k1
   case measure => have := HK1.out; omega
   case rel => exact ⟨(y606), (wrap64 ((wrap64 (x1_1 + 1)) + 1)), (wrap64 (x5_1 + 1)), (by first | rfl | (simp; done) | (simp [*]; done)), (by first | rfl | (simp; done) | (simp [*]; done)), H', ⟨by have := HK1.out; omega⟩, ⟨ra HO_0.out⟩, ⟨by repeat (first | (with_reducible first | exact HK.out | apply Kept.alloc | apply Kept.drewN | apply Kept.drew) | exact HK.out)⟩, ⟨hB HB⟩⟩

def laws_markPair.f (k : Nat) (l0_0 : List Int) (l0_1 : List Int) (l0_2 : List (S127)) (a1 : Int) : Option (Int × List Int × List Int × (List (S127))) := (laws_markIntS.f k l0_0 a1).bind fun bt608 => ((laws_markIntS.f k l0_1 bt608.1).bind fun bt610 => ((laws_markHelloS.f k l0_2 bt610.1).bind fun bt612 => (some (bt612.1, bt608.2, bt610.2, bt612.2))))
theorem laws_markPair.mono : ∀ a0 a1 a2 a3 k, LeO (laws_markPair.f k a0 a1 a2 a3) (laws_markPair.f (k + 1) a0 a1 a2 a3) := by
 intro a0 a1 a2 a3 k
 unfold laws_markPair.f
 repeat' first
   | (with_reducible exact laws_markHelloS.mono _ _ _)
   | (with_reducible exact laws_markIntS.mono _ _ _)
   | (with_reducible exact LeO.refl _)
   | (with_reducible exact LeO.none _)
   | (with_reducible refine LeO.ite ?_ ?_)
   | (with_reducible refine LeO.bind ?_ (fun _ => ?_))
set_option maxHeartbeats 8000000 in
set_option maxRecDepth 100000 in
theorem laws_markPair.calls (k : Nat) (P0_0_ : Nat → Prop) (u9000_ : Value) (l0_0 : List Int) (P0_1_ : Nat → Prop) (u9001_ : Value) (l0_1 : List Int) (P0_2_ : Nat → Prop) (u9002_ : Value) (l0_2 : List (S127)) (a1 : Int) (r1 : Int) (r2 : List Int) (r3 : List Int) (r4 : List (S127)) (w0 w : World) (hB : Below w0.heap.size w0 w) (ho0_0 : Kd.R (Kd.int .i64) 3 w w0.heap.size P0_0_ u9000_ l0_0) (hp0_0_0_1 : ∀ k_, P0_0_ k_ → ¬ P0_1_ k_) (ho0_1 : Kd.R (Kd.int .i64) 3 w w0.heap.size P0_1_ u9001_ l0_1) (hp0_1_0_0 : ∀ k_, P0_1_ k_ → ¬ P0_0_ k_) (ho0_2 : Kd.R k127 127 w w0.heap.size P0_2_ u9002_ l0_2) (h : laws_markPair.f k l0_0 l0_1 l0_2 a1 = some (r1, r2, r3, r4)) :
  Calls Try.prog 35 #[.agg #[u9000_, u9001_, u9002_], .int .i64 a1] w fun e w' => e = .returned (.int .i64 r1) ∧ Kd.R (Kd.int .i64) 3 w' w0.heap.size (fun k_ => ((P0_0_ k_ ∨ P0_1_ k_ ∨ P0_2_ k_) ∨ w.heap.size ≤ k_)) u9000_ r2 ∧ Kd.R (Kd.int .i64) 3 w' w0.heap.size (fun k_ => ((P0_0_ k_ ∨ P0_1_ k_ ∨ P0_2_ k_) ∨ w.heap.size ≤ k_)) u9001_ r3 ∧ Kd.R k127 127 w' w0.heap.size (fun k_ => ((P0_0_ k_ ∨ P0_1_ k_ ∨ P0_2_ k_) ∨ w.heap.size ≤ k_)) u9002_ r4 ∧ Below w0.heap.size w0 w' ∧ Kept w w' (fun k_ => P0_0_ k_ ∨ P0_1_ k_ ∨ P0_2_ k_) := by
 have hu47 := Try.underlying47
 have HO0_0 := Aside0.mk (show Kd.R (Kd.int .i64) 3 w w0.heap.size (fun k_ => ((P0_0_ k_ ∨ P0_1_ k_ ∨ P0_2_ k_) ∨ w.heap.size ≤ k_) ∧ some k_ ≠ (u9001_ : Value).ownBlock) u9000_ l0_0 from Kd.R_mono ho0_0 (fun k_ hk => ⟨(.inl (.inl hk)), fun e_ => hp0_0_0_1 k_ hk (ho0_1.1 k_ e_.symm)⟩))
 have HO0_1 := Aside0.mk (show Kd.R (Kd.int .i64) 3 w w0.heap.size (fun k_ => ((P0_0_ k_ ∨ P0_1_ k_ ∨ P0_2_ k_) ∨ w.heap.size ≤ k_) ∧ some k_ ≠ (u9000_ : Value).ownBlock) u9001_ l0_1 from Kd.R_mono ho0_1 (fun k_ hk => ⟨(.inl (.inr (.inl hk))), fun e_ => hp0_1_0_0 k_ hk (ho0_0.1 k_ e_.symm)⟩))
 have HO0_2 := Aside0.mk (show Kd.R k127 127 w w0.heap.size (fun k_ => ((P0_0_ k_ ∨ P0_1_ k_ ∨ P0_2_ k_) ∨ w.heap.size ≤ k_)) u9002_ l0_2 from Kd.R_mono ho0_2 (fun k_ hk => (.inl (.inr (.inr hk)))))
 have HK := Aside0.mk (Kept.refl w (fun k_ => P0_0_ k_ ∨ P0_1_ k_ ∨ P0_2_ k_))
 have HW0 := Aside0.mk hB.size
 have HB := Aside0.mk hB
 clear hB
 have H : ((laws_markIntS.f k l0_0 a1).bind fun bt608 => ((laws_markIntS.f k l0_1 bt608.1).bind fun bt610 => ((laws_markHelloS.f k l0_2 bt610.1).bind fun bt612 => (some (bt612.1, bt608.2, bt610.2, bt612.2))))) = some (r1, r2, r3, r4) := h
 clear h
 replace H := Option.bind_eq_some_iff.mp H
 obtain ⟨⟨t608, t609⟩, A30, H⟩ := H
 replace H : ((laws_markIntS.f k l0_1 t608).bind fun bt610 => ((laws_markHelloS.f k l0_2 bt610.1).bind fun bt612 => (some (bt612.1, t609, bt610.2, bt612.2)))) = some (r1, r2, r3, r4) := H
 have A3 := Aside0.mk A30
 clear A30
 replace H := Option.bind_eq_some_iff.mp H
 obtain ⟨⟨t610, t611⟩, A40, H⟩ := H
 replace H : ((laws_markHelloS.f k l0_2 t610).bind fun bt612 => (some (bt612.1, t609, t611, bt612.2))) = some (r1, r2, r3, r4) := H
 have A4 := Aside0.mk A40
 clear A40
 replace H := Option.bind_eq_some_iff.mp H
 obtain ⟨⟨t612, t613⟩, A50, H⟩ := H
 replace H : (some (t612, t609, t611, t613)) = some (r1, r2, r3, r4) := H
 have A5 := Aside0.mk A50
 clear A50
 simp only [Option.some.injEq, Prod.mk.injEq] at H
 obtain ⟨rfl, rfl, rfl, rfl⟩ := H
 obtain ⟨Ao6, co6, eo6⟩ := Kd.R_slice HO0_0.out
 subst eo6
 obtain ⟨Ao7, co7, eo7⟩ := Kd.R_slice HO0_1.out
 subst eo7
 obtain ⟨Ao8, co8, eo8⟩ := Kd.R_slice HO0_2.out
 subst eo8
 go_enter Try.func35, Try.ntmps35
 go_wp2_with (first | ((with_reducible refine gate_dst (N := 2) rfl ?_); refine box_event ?hg (N := 2) ?hd (cs := #[.slice Ao6 l0_0.length co6, .slice Ao7 l0_1.length co7, .slice Ao8 l0_2.length co8]) (t := 47) ?hr ?_; (case hd => rfl); (case hg => rfl); (case hr => first | (go_simp; done) | (go_simp; rfl)); intro gb607 hg w9 hbox hb; have BK607 := Aside0.mk (hbox); have GW607 := Aside0.mk ((by rw [hg]; exact (by first | exact HK.out.1 | exact (show Kept w _ (fun k_ => P0_0_ k_ ∨ P0_1_ k_ ∨ P0_2_ k_) from by repeat (first | (with_reducible first | exact HK.out | apply Kept.alloc | apply Kept.drewN | apply Kept.drew) | exact HK.out)).1) : w.heap.size ≤ gb607)); have GE607 := gw_ hg HB; replace HO0_0 := rb_ HO0_0 hb; replace HO0_1 := rb_ HO0_1 hb; replace HO0_2 := rb_ HO0_2 hb; replace HK := Aside0.mk (Kept.below (S := (fun k_ => P0_0_ k_ ∨ P0_1_ k_ ∨ P0_2_ k_)) (by repeat (first | (with_reducible first | exact HK.out | apply Kept.alloc | apply Kept.drewN | apply Kept.drew) | exact HK.out)) hb); replace HB := bst_ HB hb; clear hb hbox hg; have hcz10_0 : w9.cell? ⟨gb607, 0, none⟩ = some (.slice Ao6 l0_0.length co6) := bc_ BK607 0; have hcz10_1 : w9.cell? ⟨gb607, 1, none⟩ = some (.slice Ao7 l0_1.length co7) := bc_ BK607 1; have hcz10_2 : w9.cell? ⟨gb607, 2, none⟩ = some (.slice Ao8 l0_2.length co8) := bc_ BK607 2; have hfz10_0 := blk_frozen BK607.out 0; have hfz10_1 := blk_frozen BK607.out 1; have hfz10_2 := blk_frozen BK607.out 2) | ((with_reducible refine gate_callee (f := 22) rfl ?_); refine goesL_ (some 8) rfl rfl Try.func22 (by kernel_rfl) rfl #[.slice Ao6 l0_0.length co6, .int .i64 a1] rfl tm_ ?_; (with_reducible refine (laws_markIntS.calls k (fun k_ => some k_ = (.slice Ao6 l0_0.length co6 : Value).ownBlock) (.slice Ao6 l0_0.length co6) l0_0 a1 t608 t609 w0 _ ?side1 ?side2 A3.out).mono ?_); (case side1 => repeat (first | (with_reducible first | exact HB.out | apply below_alloc | apply pw_below_drewN | apply below_drew1 | refine below_set ?_ GE607.out) | exact HB.out)); (case side2 => exact Kd.R_tight rfl HO0_0.out); rintro e w11 ⟨rfl, hy0, hb, hkp⟩; refine ⟨_, rfl, ?_⟩; replace HO0_1 := Aside0.mk (Kd.R_mono (ok' := fun k_ => ((P0_0_ k_ ∨ P0_1_ k_ ∨ P0_2_ k_) ∨ w.heap.size ≤ k_) ∧ no_ (.slice Ao6 l0_0.length co6) k_) (Kd.R_keptB (HO0_1.out) hkp (fun k_ hk_ hs_ => (hk_.2) hs_)) (fun k_ hk_ => ⟨hk_.1.1, hk_.1.2⟩)); replace HO0_2 := Aside0.mk (Kd.R_mono (ok' := fun k_ => ((P0_0_ k_ ∨ P0_1_ k_ ∨ P0_2_ k_) ∨ w.heap.size ≤ k_)) (Kd.R_keptB ((Kd.R_apart' HO0_2.out (Kd.R_typed HO0_0.out) (by decide))) hkp (fun k_ hk_ hs_ => (hk_.2) hs_)) (fun k_ hk_ => hk_.1.1)); replace BK607 := Aside0.mk (blk_kept (ba BK607.out) hkp (fun hs_ => (fun e_ => (Kd.R_ne HO0_0.out BK607.out (by decide)) e_) hs_)); replace HK := Aside0.mk (Kept.then_ (S := (fun k_ => P0_0_ k_ ∨ P0_1_ k_ ∨ P0_2_ k_)) (by repeat (first | (with_reducible first | exact HK.out | apply Kept.alloc | apply Kept.drewN | apply Kept.drew | refine Kept.setCell ?_ (.inr GW607.out) _) | exact HK.out)) hkp (fun k_ hs_ => (fun e_ => (HO0_0.out.1 k_ e_.symm).1) hs_)); replace HO0_0 := Aside0.mk (Kd.R_reok rfl hy0 (fun k_ e_ => HO0_0.out.1 k_ e_)); replace HB := Aside0.mk (hb); clear hb; have hcz12_0 : w11.cell? ⟨gb607, 0, none⟩ = some (.slice Ao6 l0_0.length co6) := bc_ BK607 0; have hcz12_1 : w11.cell? ⟨gb607, 1, none⟩ = some (.slice Ao7 l0_1.length co7) := bc_ BK607 1; have hcz12_2 : w11.cell? ⟨gb607, 2, none⟩ = some (.slice Ao8 l0_2.length co8) := bc_ BK607 2; have hfz12_0 := blk_frozen BK607.out 0; have hfz12_1 := blk_frozen BK607.out 1; have hfz12_2 := blk_frozen BK607.out 2) | ((with_reducible refine gate_callee (f := 22) rfl ?_); refine goesL_ (some 12) rfl rfl Try.func22 (by kernel_rfl) rfl #[.slice Ao7 l0_1.length co7, .int .i64 t608] rfl tm_ ?_; (with_reducible refine (laws_markIntS.calls k (fun k_ => some k_ = (.slice Ao7 l0_1.length co7 : Value).ownBlock) (.slice Ao7 l0_1.length co7) l0_1 t608 t610 t611 w0 _ ?side1 ?side2 A4.out).mono ?_); (case side1 => repeat (first | (with_reducible first | exact HB.out | apply below_alloc | apply pw_below_drewN | apply below_drew1 | refine below_set ?_ GE607.out) | exact HB.out)); (case side2 => exact Kd.R_tight rfl HO0_1.out); rintro e w13 ⟨rfl, hy0, hb, hkp⟩; refine ⟨_, rfl, ?_⟩; replace HO0_0 := Aside0.mk (Kd.R_mono (ok' := fun k_ => ((P0_0_ k_ ∨ P0_1_ k_ ∨ P0_2_ k_) ∨ w.heap.size ≤ k_) ∧ no_ (.slice Ao7 l0_1.length co7) k_) (Kd.R_keptB (HO0_0.out) hkp (fun k_ hk_ hs_ => (hk_.2) hs_)) (fun k_ hk_ => ⟨hk_.1.1, hk_.1.2⟩)); replace HO0_2 := Aside0.mk (Kd.R_mono (ok' := fun k_ => ((P0_0_ k_ ∨ P0_1_ k_ ∨ P0_2_ k_) ∨ w.heap.size ≤ k_)) (Kd.R_keptB ((Kd.R_apart' HO0_2.out (Kd.R_typed HO0_1.out) (by decide))) hkp (fun k_ hk_ hs_ => (hk_.2) hs_)) (fun k_ hk_ => hk_.1.1)); replace BK607 := Aside0.mk (blk_kept (ba BK607.out) hkp (fun hs_ => (fun e_ => (Kd.R_ne HO0_1.out BK607.out (by decide)) e_) hs_)); replace HK := Aside0.mk (Kept.then_ (S := (fun k_ => P0_0_ k_ ∨ P0_1_ k_ ∨ P0_2_ k_)) (by repeat (first | (with_reducible first | exact HK.out | apply Kept.alloc | apply Kept.drewN | apply Kept.drew | refine Kept.setCell ?_ (.inr GW607.out) _) | exact HK.out)) hkp (fun k_ hs_ => (fun e_ => (HO0_1.out.1 k_ e_.symm).1) hs_)); replace HO0_1 := Aside0.mk (Kd.R_reok rfl hy0 (fun k_ e_ => HO0_1.out.1 k_ e_)); replace HB := Aside0.mk (hb); clear hb; have hcz14_0 : w13.cell? ⟨gb607, 0, none⟩ = some (.slice Ao6 l0_0.length co6) := bc_ BK607 0; have hcz14_1 : w13.cell? ⟨gb607, 1, none⟩ = some (.slice Ao7 l0_1.length co7) := bc_ BK607 1; have hcz14_2 : w13.cell? ⟨gb607, 2, none⟩ = some (.slice Ao8 l0_2.length co8) := bc_ BK607 2; have hfz14_0 := blk_frozen BK607.out 0; have hfz14_1 := blk_frozen BK607.out 1; have hfz14_2 := blk_frozen BK607.out 2) | ((with_reducible refine gate_callee (f := 96) rfl ?_); refine goesL_ (some 16) rfl rfl Try.func96 (by kernel_rfl) rfl #[.slice Ao8 l0_2.length co8, .int .i64 t610] rfl tm_ ?_; (with_reducible refine (laws_markHelloS.calls k (fun k_ => some k_ = (.slice Ao8 l0_2.length co8 : Value).ownBlock) (.slice Ao8 l0_2.length co8) l0_2 t610 t612 t613 w0 _ ?side1 ?side2 A5.out).mono ?_); (case side1 => repeat (first | (with_reducible first | exact HB.out | apply below_alloc | apply pw_below_drewN | apply below_drew1 | refine below_set ?_ GE607.out) | exact HB.out)); (case side2 => exact Kd.R_tight rfl HO0_2.out); rintro e w15 ⟨rfl, hy0, hb, hkp⟩; refine ⟨_, rfl, ?_⟩; replace HO0_0 := Aside0.mk (Kd.R_mono (ok' := fun k_ => ((P0_0_ k_ ∨ P0_1_ k_ ∨ P0_2_ k_) ∨ w.heap.size ≤ k_) ∧ no_ (.slice Ao7 l0_1.length co7) k_) (Kd.R_keptB ((Kd.R_apart' HO0_0.out (Kd.R_typed HO0_2.out) (by decide))) hkp (fun k_ hk_ hs_ => (hk_.2) hs_)) (fun k_ hk_ => ⟨hk_.1.1.1, hk_.1.1.2⟩)); replace HO0_1 := Aside0.mk (Kd.R_mono (ok' := fun k_ => ((P0_0_ k_ ∨ P0_1_ k_ ∨ P0_2_ k_) ∨ w.heap.size ≤ k_) ∧ no_ (.slice Ao6 l0_0.length co6) k_) (Kd.R_keptB ((Kd.R_apart' HO0_1.out (Kd.R_typed HO0_2.out) (by decide))) hkp (fun k_ hk_ hs_ => (hk_.2) hs_)) (fun k_ hk_ => ⟨hk_.1.1.1, hk_.1.1.2⟩)); replace BK607 := Aside0.mk (blk_kept (ba BK607.out) hkp (fun hs_ => (fun e_ => (Kd.R_ne HO0_2.out BK607.out (by decide)) e_) hs_)); replace HK := Aside0.mk (Kept.then_ (S := (fun k_ => P0_0_ k_ ∨ P0_1_ k_ ∨ P0_2_ k_)) (by repeat (first | (with_reducible first | exact HK.out | apply Kept.alloc | apply Kept.drewN | apply Kept.drew | refine Kept.setCell ?_ (.inr GW607.out) _) | exact HK.out)) hkp (fun k_ hs_ => (fun e_ => (HO0_2.out.1 k_ e_.symm)) hs_)); replace HO0_2 := Aside0.mk (Kd.R_reok rfl hy0 (fun k_ e_ => HO0_2.out.1 k_ e_)); replace HB := Aside0.mk (hb); clear hb))
 go_ret
 exact ⟨by first | rfl | (simp [errW_none, errW_some] <;> rfl) | (simp [*, errW_none, errW_some] <;> rfl), by (with_reducible repeat (first | apply Kd.R_alloc | apply Kd.R_drewN | apply Kd.R_drew)); exact Kd.R_mono HO0_0.out (fun _ hk => hk.1), by (with_reducible repeat (first | apply Kd.R_alloc | apply Kd.R_drewN | apply Kd.R_drew)); exact Kd.R_mono HO0_1.out (fun _ hk => hk.1), by (with_reducible repeat (first | apply Kd.R_alloc | apply Kd.R_drewN | apply Kd.R_drew)); exact HO0_2.out, by repeat (first | (with_reducible first | exact HB.out | apply below_alloc | apply pw_below_drewN | apply below_drew1 | refine below_set ?_ GE607.out) | exact HB.out), by repeat (first | (with_reducible first | exact HK.out | apply Kept.alloc | apply Kept.drewN | apply Kept.drew | refine Kept.setCell ?_ (.inr GW607.out) _) | exact HK.out)⟩

def laws_heldHelloS.l0 : Nat → List (S127) → Int → Int → Option (Int)
 | 0, _, _, _ => none
 | k + 1, x0, x1, x5 => if x5 < (x0.length : Int) then (if 0 ≤ x5 then (if ((rd_T127 x0 x5).f0) = x1 then (if (((rd_T127 x0 x5).f1) != ((Int.tmod (wrap64 (x1 + 1)) 3) == 0)) = true then (some (-1)) else (laws_heldHelloS.l0 k x0 (wrap64 ((wrap64 (x1 + 1)) + 1)) (wrap64 (x5 + 1)))) else (some (-1))) else (none)) else (some x1)
def laws_heldHelloS.f (k : Nat) (l0 : List (S127)) (a1 : Int) : Option (Int) := laws_heldHelloS.l0 k l0 a1 0
theorem laws_heldHelloS.mono_l : ∀ k, (∀ y0 y1 y2, LeO (laws_heldHelloS.l0 k y0 y1 y2) (laws_heldHelloS.l0 (k + 1) y0 y1 y2))
 | 0 => fun _ _ _ r h => by simp [laws_heldHelloS.l0] at h
 | k + 1 => by
  have ih0 := laws_heldHelloS.mono_l k
  ·intro y0 y1 y2
   unfold laws_heldHelloS.l0
   repeat' first
   | (with_reducible exact ih0 _ _ _)
   | (with_reducible exact LeO.refl _)
   | (with_reducible exact LeO.none _)
   | (with_reducible refine LeO.ite ?_ ?_)
   | (with_reducible refine LeO.bind ?_ (fun _ => ?_))
theorem laws_heldHelloS.mono : ∀ a0 a1 k, LeO (laws_heldHelloS.f k a0 a1) (laws_heldHelloS.f (k + 1) a0 a1) := by
 intro a0 a1 k
 have ih0 := laws_heldHelloS.mono_l k
 unfold laws_heldHelloS.f
 repeat' first
   | (with_reducible exact ih0 _ _ _)
   | (with_reducible exact LeO.refl _)
   | (with_reducible exact LeO.none _)
   | (with_reducible refine LeO.ite ?_ ?_)
   | (with_reducible refine LeO.bind ?_ (fun _ => ?_))
set_option maxHeartbeats 8000000 in
set_option maxRecDepth 100000 in
theorem laws_heldHelloS.calls (k : Nat) (A0 : Option Addr) (c0 : Nat) (l0 : List (S127)) (a1 : Int) (r : Int) (w : World) (hr0 : Kd.C k127 w A0 l0.length l0) (hc0 : l0.length ≤ c0) (h : laws_heldHelloS.f k l0 a1 = some r) :
  Calls Try.prog 97 #[.slice A0 l0.length c0, .int .i64 a1] w fun e w' => e = .returned (.int .i64 r) ∧ Drawn0 w w' := by
 have HR0 := Aside0.mk hr0
 have HC0 := Aside0.mk hc0
 clear hr0 hc0
 have H : (laws_heldHelloS.l0 k l0 a1 0) = some r := h
 clear h
 have H' := Aside0.mk H
 clear H
 go_enter Try.func97, Try.ntmps97
 go_wp2
 go_loopg [1, 5] k (fun kq v1 v5 w' => ∃ (x1_1 : Int) (x5_1 : Int), v1 = .int .i64 x1_1 ∧ v5 = .int .i64 x5_1 ∧ Aside0 (laws_heldHelloS.l0 kq l0 x1_1 x5_1 = some r) ∧ Aside0 (kq ≤ k) ∧ Drawn0 w w')
 case atStart => exact ⟨(a1), (0), (by first | rfl | (simp; done) | (simp [*]; done)), (by first | rfl | (simp; done) | (simp [*]; done)), H', ⟨Nat.le_refl _⟩, by repeat (first | exact Drawn0.refl _ | apply Drawn0.step)⟩
 case round =>
  clear H'
  obtain ⟨x1_1, x5_1, rfl, rfl, HA, HK1, ⟨m1, rfl⟩⟩ := hrel
  cases gk with
  | zero => exact absurd HA.out (by simp [laws_heldHelloS.l0])
  | succ k1 =>
   have H := HA.out
   clear HA
   simp only [laws_heldHelloS.l0] at H
   by_cases c3 : x5_1 < (l0.length : Int)
   rotate_left
   ·rw [if_neg c3] at H
    have c3b0 : decide (x5_1 < (l0.length : Int)) = false := decide_eq_false c3
    clear c3
    obtain rfl := Option.some.inj H
    go_wp2
    go_ret
    exact ⟨by first | rfl | (simp; done) | (simp [*]; done), by repeat (first | exact Drawn0.refl _ | apply Drawn0.step)⟩
   rw [if_pos c3] at H
   have c3b0 : decide (x5_1 < (l0.length : Int)) = true := decide_eq_true c3
   clear c3
   by_cases c4 : 0 ≤ x5_1
   rotate_left
   ·rw [if_neg c4] at H
    exact absurd H (by simp)
   rw [if_pos c4] at H
   have c4b0 : decide (0 ≤ x5_1) = true := decide_eq_true c4
   clear c4
   by_cases c5 : ((rd_T127 l0 x5_1).f0) = x1_1
   rotate_left
   ·rw [if_neg c5] at H
    have c5b0 : (((rd_T127 l0 x5_1).f0) == x1_1) = false := beq_eq_false_iff_ne.mpr c5
    have c5b1 : (((rd_T127 l0 x5_1).f0) != x1_1) = true := bne_iff_ne.mpr c5
    obtain rfl := Option.some.inj H
    have p614 : 0 ≤ (x5_1 : Int) := of_decide_eq_true (by first | (with_reducible assumption) | assumption)
    have q614 : x5_1 < (l0.length : Int) := of_decide_eq_true (by first | (with_reducible assumption) | assumption)
    obtain ⟨ad614, e614, hx614_0, hx614_1⟩ := at_T127 HR0.out x5_1 p614 q614
    cases e614
    replace p614 := eq_true p614
    replace q614 := eq_true q614
    go_wp2
    go_ret
    exact ⟨by first | rfl | (simp; done) | (simp [*]; done), by repeat (first | exact Drawn0.refl _ | apply Drawn0.step)⟩
   rw [if_pos c5] at H
   have c5b0 : (((rd_T127 l0 x5_1).f0) == x1_1) = true := beq_iff_eq.mpr c5
   have c5b1 : (((rd_T127 l0 x5_1).f0) != x1_1) = false := bne_eq_false_iff_eq.mpr c5
   clear c5
   by_cases c6 : (((rd_T127 l0 x5_1).f1) != ((Int.tmod (wrap64 (x1_1 + 1)) 3) == 0)) = true
   ·rw [if_pos c6] at H
    have c6b0 : (((rd_T127 l0 x5_1).f1) != ((Int.tmod (wrap64 (x1_1 + 1)) 3) == 0)) = true := c6
    (try (have c6b1 : decide (((rd_T127 l0 x5_1).f1) = ((Int.tmod (wrap64 (x1_1 + 1)) 3) == 0)) = false := by simpa using c6))
    (try (have c6b2 : (((rd_T127 l0 x5_1).f1) == ((Int.tmod (wrap64 (x1_1 + 1)) 3) == 0)) = false := by simpa using c6))
    (try (have c6b3 : ¬ (((rd_T127 l0 x5_1).f1) = ((Int.tmod (wrap64 (x1_1 + 1)) 3) == 0)) := by simpa using c6))
    clear c6
    obtain rfl := Option.some.inj H
    have p614 : 0 ≤ (x5_1 : Int) := of_decide_eq_true (by first | (with_reducible assumption) | assumption)
    have q614 : x5_1 < (l0.length : Int) := of_decide_eq_true (by first | (with_reducible assumption) | assumption)
    obtain ⟨ad614, e614, hx614_0, hx614_1⟩ := at_T127 HR0.out x5_1 p614 q614
    cases e614
    replace p614 := eq_true p614
    replace q614 := eq_true q614
    have p615 : 0 ≤ (x5_1 : Int) := of_decide_eq_true (by first | (with_reducible assumption) | assumption)
    have q615 : x5_1 < (l0.length : Int) := of_decide_eq_true (by first | (with_reducible assumption) | assumption)
    obtain ⟨ad615, e615, hx615_0, hx615_1⟩ := at_T127 HR0.out x5_1 p615 q615
    obtain rfl : ad614 = ad615 := (by injection e615)
    replace p615 := eq_true p615
    replace q615 := eq_true q615
    go_wp2
    go_ret
    exact ⟨by first | rfl | (simp; done) | (simp [*]; done), by repeat (first | exact Drawn0.refl _ | apply Drawn0.step)⟩
   rw [if_neg c6] at H
   have c6b0 : (((rd_T127 l0 x5_1).f1) != ((Int.tmod (wrap64 (x1_1 + 1)) 3) == 0)) = false := by simpa using c6
   (try (have c6b1 : decide (((rd_T127 l0 x5_1).f1) = ((Int.tmod (wrap64 (x1_1 + 1)) 3) == 0)) = true := by simpa using c6))
   (try (have c6b2 : (((rd_T127 l0 x5_1).f1) == ((Int.tmod (wrap64 (x1_1 + 1)) 3) == 0)) = true := by simpa using c6))
   clear c6
   have H' := Aside0.mk H
   clear H
   have p614 : 0 ≤ (x5_1 : Int) := of_decide_eq_true (by first | (with_reducible assumption) | assumption)
   have q614 : x5_1 < (l0.length : Int) := of_decide_eq_true (by first | (with_reducible assumption) | assumption)
   obtain ⟨ad614, e614, hx614_0, hx614_1⟩ := at_T127 HR0.out x5_1 p614 q614
   cases e614
   replace p614 := eq_true p614
   replace q614 := eq_true q614
   have p615 : 0 ≤ (x5_1 : Int) := of_decide_eq_true (by first | (with_reducible assumption) | assumption)
   have q615 : x5_1 < (l0.length : Int) := of_decide_eq_true (by first | (with_reducible assumption) | assumption)
   obtain ⟨ad615, e615, hx615_0, hx615_1⟩ := at_T127 HR0.out x5_1 p615 q615
   obtain rfl : ad614 = ad615 := (by injection e615)
   replace p615 := eq_true p615
   replace q615 := eq_true q615
   go_wp2
   go_roundg k1
   case measure => have := HK1.out; omega
   case rel => exact ⟨(wrap64 ((wrap64 (x1_1 + 1)) + 1)), (wrap64 (x5_1 + 1)), (by first | rfl | (simp; done) | (simp [*]; done)), (by first | rfl | (simp; done) | (simp [*]; done)), H', ⟨by have := HK1.out; omega⟩, by repeat (first | exact Drawn0.refl _ | apply Drawn0.step)⟩

def laws_heldPair.f (k : Nat) (l0_0 : List Int) (l0_1 : List Int) (l0_2 : List (S127)) (a1 : Int) : Option (Int) := (laws_heldIntS.f k l0_0 a1).bind fun t617 => (if t617 < 0 then (some (-1)) else ((laws_heldIntS.f k l0_1 t617).bind fun t618 => (if t618 < 0 then (some (-1)) else ((laws_heldHelloS.f k l0_2 t618).bind fun t619 => (if t619 < 0 then (some (-1)) else (some t619))))))
theorem laws_heldPair.mono : ∀ a0 a1 a2 a3 k, LeO (laws_heldPair.f k a0 a1 a2 a3) (laws_heldPair.f (k + 1) a0 a1 a2 a3) := by
 intro a0 a1 a2 a3 k
 unfold laws_heldPair.f
 repeat' first
   | (with_reducible exact laws_heldHelloS.mono _ _ _)
   | (with_reducible exact laws_heldIntS.mono _ _ _)
   | (with_reducible exact LeO.refl _)
   | (with_reducible exact LeO.none _)
   | (with_reducible refine LeO.ite ?_ ?_)
   | (with_reducible refine LeO.bind ?_ (fun _ => ?_))
set_option maxHeartbeats 8000000 in
set_option maxRecDepth 100000 in
theorem laws_heldPair.calls (k : Nat) (A0_0 : Option Addr) (c0_0 : Nat) (l0_0 : List Int) (A0_1 : Option Addr) (c0_1 : Nat) (l0_1 : List Int) (A0_2 : Option Addr) (c0_2 : Nat) (l0_2 : List (S127)) (a1 : Int) (r : Int) (w : World) (hr0_0 : Kd.C (Kd.int .i64) w A0_0 l0_0.length l0_0) (hc0_0 : l0_0.length ≤ c0_0) (hr0_1 : Kd.C (Kd.int .i64) w A0_1 l0_1.length l0_1) (hc0_1 : l0_1.length ≤ c0_1) (hr0_2 : Kd.C k127 w A0_2 l0_2.length l0_2) (hc0_2 : l0_2.length ≤ c0_2) (h : laws_heldPair.f k l0_0 l0_1 l0_2 a1 = some r) :
  Calls Try.prog 36 #[.agg #[.slice A0_0 l0_0.length c0_0, .slice A0_1 l0_1.length c0_1, .slice A0_2 l0_2.length c0_2], .int .i64 a1] w fun e w' => e = .returned (.int .i64 r) ∧ Below w.heap.size w w' := by
 have hu47 := Try.underlying47
 have HR0_0 := Aside0.mk hr0_0
 have HC0_0 := Aside0.mk hc0_0
 clear hr0_0 hc0_0
 have HR0_1 := Aside0.mk hr0_1
 have HC0_1 := Aside0.mk hc0_1
 clear hr0_1 hc0_1
 have HR0_2 := Aside0.mk hr0_2
 have HC0_2 := Aside0.mk hc0_2
 clear hr0_2 hc0_2
 have HB := Aside0.mk (Below.refl w.heap.size w)
 have H : ((laws_heldIntS.f k l0_0 a1).bind fun t617 => (if t617 < 0 then (some (-1)) else ((laws_heldIntS.f k l0_1 t617).bind fun t618 => (if t618 < 0 then (some (-1)) else ((laws_heldHelloS.f k l0_2 t618).bind fun t619 => (if t619 < 0 then (some (-1)) else (some t619))))))) = some r := h
 clear h
 replace H := Option.bind_eq_some_iff.mp H
 obtain ⟨t617, A30, H⟩ := H
 replace H : (if t617 < 0 then (some (-1)) else ((laws_heldIntS.f k l0_1 t617).bind fun t618 => (if t618 < 0 then (some (-1)) else ((laws_heldHelloS.f k l0_2 t618).bind fun t619 => (if t619 < 0 then (some (-1)) else (some t619)))))) = some r := H
 have A3 := Aside0.mk A30
 clear A30
 by_cases c4 : t617 < 0
 ·rw [if_pos c4] at H
  have c4b0 : decide (t617 < 0) = true := decide_eq_true c4
  clear c4
  obtain rfl := Option.some.inj H
  go_enter Try.func36, Try.ntmps36
  go_wp2_with (first | ((with_reducible refine gate_dst (N := 2) rfl ?_); refine box_event ?hg (N := 2) ?hd (cs := #[.slice A0_0 l0_0.length c0_0, .slice A0_1 l0_1.length c0_1, .slice A0_2 l0_2.length c0_2]) (t := 47) ?hr ?_; (case hd => rfl); (case hg => rfl); (case hr => first | (go_simp; done) | (go_simp; rfl)); intro gb616 hg w5 hbox hb; have BK616 := Aside0.mk (hbox); have GW616 := gw_ hg HB; have GE616 := gw_ hg HB; replace HB := bst_ HB hb; clear hb hbox hg; have hcz6_0 : w5.cell? ⟨gb616, 0, none⟩ = some (.slice A0_0 l0_0.length c0_0) := bc_ BK616 0; have hcz6_1 : w5.cell? ⟨gb616, 1, none⟩ = some (.slice A0_1 l0_1.length c0_1) := bc_ BK616 1; have hcz6_2 : w5.cell? ⟨gb616, 2, none⟩ = some (.slice A0_2 l0_2.length c0_2) := bc_ BK616 2; have hfz6_0 := blk_frozen BK616.out 0; have hfz6_1 := blk_frozen BK616.out 1; have hfz6_2 := blk_frozen BK616.out 2) | ((with_reducible refine gate_callee (f := 23) rfl ?_); refine goesL_ (some 8) rfl rfl Try.func23 (by kernel_rfl) rfl #[.slice A0_0 l0_0.length c0_0, .int .i64 a1] rfl tm_ ?_; (with_reducible refine (laws_heldIntS.calls k _ _ l0_0 a1 t617 _ ?side1 ?side2 A3.out).mono ?_); (case side1 => exact ca (Kd.C_below HR0_0.out HB.out)); (case side2 => exact HC0_0.out); rintro e w' ⟨rfl, ⟨nd, rfl⟩⟩; refine ⟨_, rfl, ?_⟩))
  go_ret
  exact ⟨by first | rfl | (simp [errW_none, errW_some] <;> rfl) | (simp [*, errW_none, errW_some] <;> rfl), by repeat (first | (with_reducible first | exact HB.out | apply below_alloc | apply pw_below_drewN | apply below_drew1 | refine below_set ?_ GE616.out) | exact HB.out)⟩
 rw [if_neg c4] at H
 have c4b0 : decide (t617 < 0) = false := decide_eq_false c4
 clear c4
 replace H := Option.bind_eq_some_iff.mp H
 obtain ⟨t618, A70, H⟩ := H
 replace H : (if t618 < 0 then (some (-1)) else ((laws_heldHelloS.f k l0_2 t618).bind fun t619 => (if t619 < 0 then (some (-1)) else (some t619)))) = some r := H
 have A7 := Aside0.mk A70
 clear A70
 by_cases c8 : t618 < 0
 ·rw [if_pos c8] at H
  have c8b0 : decide (t618 < 0) = true := decide_eq_true c8
  clear c8
  obtain rfl := Option.some.inj H
  go_enter Try.func36, Try.ntmps36
  go_wp2_with (first | ((with_reducible refine gate_dst (N := 2) rfl ?_); refine box_event ?hg (N := 2) ?hd (cs := #[.slice A0_0 l0_0.length c0_0, .slice A0_1 l0_1.length c0_1, .slice A0_2 l0_2.length c0_2]) (t := 47) ?hr ?_; (case hd => rfl); (case hg => rfl); (case hr => first | (go_simp; done) | (go_simp; rfl)); intro gb616 hg w9 hbox hb; have BK616 := Aside0.mk (hbox); have GW616 := gw_ hg HB; have GE616 := gw_ hg HB; replace HB := bst_ HB hb; clear hb hbox hg; have hcz10_0 : w9.cell? ⟨gb616, 0, none⟩ = some (.slice A0_0 l0_0.length c0_0) := bc_ BK616 0; have hcz10_1 : w9.cell? ⟨gb616, 1, none⟩ = some (.slice A0_1 l0_1.length c0_1) := bc_ BK616 1; have hcz10_2 : w9.cell? ⟨gb616, 2, none⟩ = some (.slice A0_2 l0_2.length c0_2) := bc_ BK616 2; have hfz10_0 := blk_frozen BK616.out 0; have hfz10_1 := blk_frozen BK616.out 1; have hfz10_2 := blk_frozen BK616.out 2) | ((with_reducible refine gate_callee (f := 23) rfl ?_); refine goesL_ (some 8) rfl rfl Try.func23 (by kernel_rfl) rfl #[.slice A0_0 l0_0.length c0_0, .int .i64 a1] rfl tm_ ?_; (with_reducible refine (laws_heldIntS.calls k _ _ l0_0 a1 t617 _ ?side1 ?side2 A3.out).mono ?_); (case side1 => exact ca (Kd.C_below HR0_0.out HB.out)); (case side2 => exact HC0_0.out); rintro e w' ⟨rfl, ⟨nd, rfl⟩⟩; refine ⟨_, rfl, ?_⟩) | ((with_reducible refine gate_callee (f := 23) rfl ?_); refine goesL_ (some 14) rfl rfl Try.func23 (by kernel_rfl) rfl #[.slice A0_1 l0_1.length c0_1, .int .i64 t617] rfl tm_ ?_; (with_reducible refine (laws_heldIntS.calls k _ _ l0_1 t617 t618 _ ?side1 ?side2 A7.out).mono ?_); (case side1 => exact ca (Kd.C_below HR0_1.out (hB HB))); (case side2 => exact HC0_1.out); rintro e w' ⟨rfl, ⟨nd, rfl⟩⟩; refine ⟨_, rfl, ?_⟩))
  go_ret
  exact ⟨by first | rfl | (simp [errW_none, errW_some] <;> rfl) | (simp [*, errW_none, errW_some] <;> rfl), by repeat (first | (with_reducible first | exact HB.out | apply below_alloc | apply pw_below_drewN | apply below_drew1 | refine below_set ?_ GE616.out) | exact HB.out)⟩
 rw [if_neg c8] at H
 have c8b0 : decide (t618 < 0) = false := decide_eq_false c8
 clear c8
 replace H := Option.bind_eq_some_iff.mp H
 obtain ⟨t619, A110, H⟩ := H
 replace H : (if t619 < 0 then (some (-1)) else (some t619)) = some r := H
 have A11 := Aside0.mk A110
 clear A110
 by_cases c12 : t619 < 0
 ·rw [if_pos c12] at H
  have c12b0 : decide (t619 < 0) = true := decide_eq_true c12
  clear c12
  obtain rfl := Option.some.inj H
  go_enter Try.func36, Try.ntmps36
  go_wp2_with (first | ((with_reducible refine gate_dst (N := 2) rfl ?_); refine box_event ?hg (N := 2) ?hd (cs := #[.slice A0_0 l0_0.length c0_0, .slice A0_1 l0_1.length c0_1, .slice A0_2 l0_2.length c0_2]) (t := 47) ?hr ?_; (case hd => rfl); (case hg => rfl); (case hr => first | (go_simp; done) | (go_simp; rfl)); intro gb616 hg w13 hbox hb; have BK616 := Aside0.mk (hbox); have GW616 := gw_ hg HB; have GE616 := gw_ hg HB; replace HB := bst_ HB hb; clear hb hbox hg; have hcz14_0 : w13.cell? ⟨gb616, 0, none⟩ = some (.slice A0_0 l0_0.length c0_0) := bc_ BK616 0; have hcz14_1 : w13.cell? ⟨gb616, 1, none⟩ = some (.slice A0_1 l0_1.length c0_1) := bc_ BK616 1; have hcz14_2 : w13.cell? ⟨gb616, 2, none⟩ = some (.slice A0_2 l0_2.length c0_2) := bc_ BK616 2; have hfz14_0 := blk_frozen BK616.out 0; have hfz14_1 := blk_frozen BK616.out 1; have hfz14_2 := blk_frozen BK616.out 2) | ((with_reducible refine gate_callee (f := 23) rfl ?_); refine goesL_ (some 8) rfl rfl Try.func23 (by kernel_rfl) rfl #[.slice A0_0 l0_0.length c0_0, .int .i64 a1] rfl tm_ ?_; (with_reducible refine (laws_heldIntS.calls k _ _ l0_0 a1 t617 _ ?side1 ?side2 A3.out).mono ?_); (case side1 => exact ca (Kd.C_below HR0_0.out HB.out)); (case side2 => exact HC0_0.out); rintro e w' ⟨rfl, ⟨nd, rfl⟩⟩; refine ⟨_, rfl, ?_⟩) | ((with_reducible refine gate_callee (f := 23) rfl ?_); refine goesL_ (some 14) rfl rfl Try.func23 (by kernel_rfl) rfl #[.slice A0_1 l0_1.length c0_1, .int .i64 t617] rfl tm_ ?_; (with_reducible refine (laws_heldIntS.calls k _ _ l0_1 t617 t618 _ ?side1 ?side2 A7.out).mono ?_); (case side1 => exact ca (Kd.C_below HR0_1.out (hB HB))); (case side2 => exact HC0_1.out); rintro e w' ⟨rfl, ⟨nd, rfl⟩⟩; refine ⟨_, rfl, ?_⟩) | ((with_reducible refine gate_callee (f := 97) rfl ?_); refine goesL_ (some 20) rfl rfl Try.func97 (by kernel_rfl) rfl #[.slice A0_2 l0_2.length c0_2, .int .i64 t618] rfl tm_ ?_; (with_reducible refine (laws_heldHelloS.calls k _ _ l0_2 t618 t619 _ ?side1 ?side2 A11.out).mono ?_); (case side1 => exact ca (Kd.C_below HR0_2.out (hB HB))); (case side2 => exact HC0_2.out); rintro e w' ⟨rfl, ⟨nd, rfl⟩⟩; refine ⟨_, rfl, ?_⟩))
  go_ret
  exact ⟨by first | rfl | (simp [errW_none, errW_some] <;> rfl) | (simp [*, errW_none, errW_some] <;> rfl), by repeat (first | (with_reducible first | exact HB.out | apply below_alloc | apply pw_below_drewN | apply below_drew1 | refine below_set ?_ GE616.out) | exact HB.out)⟩
 rw [if_neg c12] at H
 have c12b0 : decide (t619 < 0) = false := decide_eq_false c12
 clear c12
 obtain rfl := Option.some.inj H
 go_enter Try.func36, Try.ntmps36
 go_wp2_with (first | ((with_reducible refine gate_dst (N := 2) rfl ?_); refine box_event ?hg (N := 2) ?hd (cs := #[.slice A0_0 l0_0.length c0_0, .slice A0_1 l0_1.length c0_1, .slice A0_2 l0_2.length c0_2]) (t := 47) ?hr ?_; (case hd => rfl); (case hg => rfl); (case hr => first | (go_simp; done) | (go_simp; rfl)); intro gb616 hg w15 hbox hb; have BK616 := Aside0.mk (hbox); have GW616 := gw_ hg HB; have GE616 := gw_ hg HB; replace HB := bst_ HB hb; clear hb hbox hg; have hcz16_0 : w15.cell? ⟨gb616, 0, none⟩ = some (.slice A0_0 l0_0.length c0_0) := bc_ BK616 0; have hcz16_1 : w15.cell? ⟨gb616, 1, none⟩ = some (.slice A0_1 l0_1.length c0_1) := bc_ BK616 1; have hcz16_2 : w15.cell? ⟨gb616, 2, none⟩ = some (.slice A0_2 l0_2.length c0_2) := bc_ BK616 2; have hfz16_0 := blk_frozen BK616.out 0; have hfz16_1 := blk_frozen BK616.out 1; have hfz16_2 := blk_frozen BK616.out 2) | ((with_reducible refine gate_callee (f := 23) rfl ?_); refine goesL_ (some 8) rfl rfl Try.func23 (by kernel_rfl) rfl #[.slice A0_0 l0_0.length c0_0, .int .i64 a1] rfl tm_ ?_; (with_reducible refine (laws_heldIntS.calls k _ _ l0_0 a1 t617 _ ?side1 ?side2 A3.out).mono ?_); (case side1 => exact ca (Kd.C_below HR0_0.out HB.out)); (case side2 => exact HC0_0.out); rintro e w' ⟨rfl, ⟨nd, rfl⟩⟩; refine ⟨_, rfl, ?_⟩) | ((with_reducible refine gate_callee (f := 23) rfl ?_); refine goesL_ (some 14) rfl rfl Try.func23 (by kernel_rfl) rfl #[.slice A0_1 l0_1.length c0_1, .int .i64 t617] rfl tm_ ?_; (with_reducible refine (laws_heldIntS.calls k _ _ l0_1 t617 t618 _ ?side1 ?side2 A7.out).mono ?_); (case side1 => exact ca (Kd.C_below HR0_1.out (hB HB))); (case side2 => exact HC0_1.out); rintro e w' ⟨rfl, ⟨nd, rfl⟩⟩; refine ⟨_, rfl, ?_⟩) | ((with_reducible refine gate_callee (f := 97) rfl ?_); refine goesL_ (some 20) rfl rfl Try.func97 (by kernel_rfl) rfl #[.slice A0_2 l0_2.length c0_2, .int .i64 t618] rfl tm_ ?_; (with_reducible refine (laws_heldHelloS.calls k _ _ l0_2 t618 t619 _ ?side1 ?side2 A11.out).mono ?_); (case side1 => exact ca (Kd.C_below HR0_2.out (hB HB))); (case side2 => exact HC0_2.out); rintro e w' ⟨rfl, ⟨nd, rfl⟩⟩; refine ⟨_, rfl, ?_⟩))
 go_ret
 exact ⟨by first | rfl | (simp [errW_none, errW_some] <;> rfl) | (simp [*, errW_none, errW_some] <;> rfl), by repeat (first | (with_reducible first | exact HB.out | apply below_alloc | apply pw_below_drewN | apply below_drew1 | refine below_set ?_ GE616.out) | exact HB.out)⟩

end Go.Proofs.Ytolncjkfcmbieaa.P
