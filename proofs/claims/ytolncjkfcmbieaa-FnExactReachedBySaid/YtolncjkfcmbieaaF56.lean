import Derived.Test.YtolncjkfcmbieaaF0
import Derived.Test.YtolncjkfcmbieaaF9
import Derived.Test.YtolncjkfcmbieaaF34
import Derived.Test.YtolncjkfcmbieaaF55
namespace Go.Proofs.Ytolncjkfcmbieaa.P
open Go.RowKit Go.Proofs.YtolncjkfcmbieaaW.PrintWords Go.Proofs.YtolncjkfcmbieaaW.PrintLast Go.Proofs.YtolncjkfcmbieaaW.PrintMore
attribute [local go_sem] max2_int min2_int max_two min_two max_three min_three max_four min_four   -- for this text's walks alone
set_option linter.unusedVariables false
set_option linter.unusedSimpArgs false

def laws_eqHopS.l0 : Nat → List (S162) → List (S162) → Int → Option (Bool)
 | 0, _, _, _ => none
 | k + 1, x0, x1, x5 => if x5 < (x0.length : Int) then (if 0 ≤ x5 then (if x5 < (x1.length : Int) then ((laws_eqHop.f ((rd_T162 x0 x5).f0) ((rd_T162 x0 x5).f1) ((rd_T162 x1 x5).f0) ((rd_T162 x1 x5).f1)).bind fun t1854 => (if t1854 = true then (laws_eqHopS.l0 k x0 x1 (wrap64 (x5 + 1))) else (some false))) else (none)) else (none)) else (some true)
def laws_eqHopS.f (k : Nat) (l0 : List (S162)) (l1 : List (S162)) : Option (Bool) := if (l0.length : Int) = (l1.length : Int) then (laws_eqHopS.l0 k l0 l1 0) else (some false)
theorem laws_eqHopS.mono_l : ∀ k, (∀ y0 y1 y2, LeO (laws_eqHopS.l0 k y0 y1 y2) (laws_eqHopS.l0 (k + 1) y0 y1 y2))
 | 0 => fun _ _ _ r h => by simp [laws_eqHopS.l0] at h
 | k + 1 => by
  have ih0 := laws_eqHopS.mono_l k
  ·intro y0 y1 y2
   unfold laws_eqHopS.l0
   repeat' first
   | (with_reducible exact ih0 _ _ _)
   | (with_reducible exact LeO.refl _)
   | (with_reducible exact LeO.none _)
   | (with_reducible refine LeO.ite ?_ ?_)
   | (with_reducible refine LeO.bind ?_ (fun _ => ?_))
theorem laws_eqHopS.mono : ∀ a0 a1 k, LeO (laws_eqHopS.f k a0 a1) (laws_eqHopS.f (k + 1) a0 a1) := by
 intro a0 a1 k
 have ih0 := laws_eqHopS.mono_l k
 unfold laws_eqHopS.f
 repeat' first
   | (with_reducible exact ih0 _ _ _)
   | (with_reducible exact LeO.refl _)
   | (with_reducible exact LeO.none _)
   | (with_reducible refine LeO.ite ?_ ?_)
   | (with_reducible refine LeO.bind ?_ (fun _ => ?_))
def laws_eqHopS.T6 : Bool × List (List Nat × List Nat) := (true, [([], []), ([], []), ([0, 1], [0, 1]), ([2], [2]), ([], []), ([], []), ([4, 5], [4, 5]), ([6], [6]), ([3, 7], [3, 7]), ([8], [8])])
def laws_eqHopS.B6 : List Nat := [0, 0, 3, 7, 0, 0, 48, 112, 255, 511]
theorem laws_eqHopS.tab6 : rtab .any (opsOf Try.f68 6) = laws_eqHopS.T6 := by kernel_rfl
theorem laws_eqHopS.bits6 : waitsOk laws_eqHopS.T6.2 laws_eqHopS.B6 = true := by kernel_rfl
set_option maxHeartbeats 8000000 in
set_option maxRecDepth 100000 in
theorem laws_eqHopS.calls (k : Nat) (A0 : Option Addr) (c0 : Nat) (l0 : List (S162)) (A1 : Option Addr) (c1 : Nat) (l1 : List (S162)) (r : Bool) (w : World) (hr0 : Kd.C k162 w A0 l0.length l0) (hc0 : l0.length ≤ c0) (hr1 : Kd.C k162 w A1 l1.length l1) (hc1 : l1.length ≤ c1) (h : laws_eqHopS.f k l0 l1 = some r) :
  Calls Try.prog 68 #[.slice A0 l0.length c0, .slice A1 l1.length c1] w fun e w' => e = .returned (.bool r) ∧ Below w.heap.size w w' := by
 have hu162 := Try.underlying162
 have HR0 := Aside0.mk hr0
 have HC0 := Aside0.mk hc0
 clear hr0 hc0
 have HR1 := Aside0.mk hr1
 have HC1 := Aside0.mk hc1
 clear hr1 hc1
 have HB := Aside0.mk (Below.refl w.heap.size w)
 have H : (if (l0.length : Int) = (l1.length : Int) then (laws_eqHopS.l0 k l0 l1 0) else (some false)) = some r := h
 clear h
 by_cases c3 : (l0.length : Int) = (l1.length : Int)
 rotate_left
 ·rw [if_neg c3] at H
  have c3b0 : ((l0.length : Int) == (l1.length : Int)) = false := beq_eq_false_iff_ne.mpr c3
  have c3b1 : ((l0.length : Int) != (l1.length : Int)) = true := bne_iff_ne.mpr c3
  have c3b2 : (l0.length == l1.length) = false := by first | simpa using c3 | (simp at c3 ⊢; omega)
  obtain rfl := Option.some.inj H
  go_enter Try.func68, Try.ntmps68
  go_wp2
  go_ret
  exact ⟨by first | rfl | (simp [errW_none, errW_some] <;> rfl) | (simp [*, errW_none, errW_some] <;> rfl), by repeat (first | (with_reducible first | exact HB.out | apply below_alloc | apply pw_below_drewN | apply below_drew1) | exact HB.out)⟩
 rw [if_pos c3] at H
 have c3b0 : ((l0.length : Int) == (l1.length : Int)) = true := beq_iff_eq.mpr c3
 have c3b1 : ((l0.length : Int) != (l1.length : Int)) = false := bne_eq_false_iff_eq.mpr c3
 have c3b2 : (l0.length == l1.length) = true := by first | simpa using c3 | (simp at c3 ⊢; omega)
 clear c3
 have H' := Aside0.mk H
 clear H
 go_enter Try.func68, Try.ntmps68
 go_wp2
 go_loopg [5] k (fun kq v5 w' => ∃ (x5_1 : Int), v5 = .int .i64 x5_1 ∧ Aside0 (laws_eqHopS.l0 kq l0 l1 x5_1 = some r) ∧ Aside0 (kq ≤ k) ∧ Aside0 (Below w.heap.size w w'))
 case atStart => exact ⟨(0), (by first | rfl | (simp; done) | (simp [*]; done)), H', ⟨Nat.le_refl _⟩, ⟨hB HB⟩⟩
 case round =>
  clear H'
  try clear c1
  try clear c3
  try clear c3b0
  try clear c3b1
  try clear c3b2
  obtain ⟨x5_1, rfl, HA, HK1, HB⟩ := hrel
  cases gk with
  | zero => exact absurd HA.out (by simp [laws_eqHopS.l0])
  | succ k1 =>
   have H := HA.out
   clear HA
   simp only [laws_eqHopS.l0] at H
   by_cases c4 : x5_1 < (l0.length : Int)
   rotate_left
   ·rw [if_neg c4] at H
    have c4b0 : decide (x5_1 < (l0.length : Int)) = false := decide_eq_false c4
    clear c4
    obtain rfl := Option.some.inj H
    go_wp2
    go_ret
    exact ⟨by first | rfl | (simp [errW_none, errW_some] <;> rfl) | (simp [*, errW_none, errW_some] <;> rfl), by repeat (first | (with_reducible first | exact HB.out | apply below_alloc | apply pw_below_drewN | apply below_drew1) | exact HB.out)⟩
   rw [if_pos c4] at H
   have c4b0 : decide (x5_1 < (l0.length : Int)) = true := decide_eq_true c4
   clear c4
   by_cases c5 : 0 ≤ x5_1
   rotate_left
   ·rw [if_neg c5] at H
    exact absurd H (by simp)
   rw [if_pos c5] at H
   have c5b0 : decide (0 ≤ x5_1) = true := decide_eq_true c5
   clear c5
   by_cases c6 : x5_1 < (l1.length : Int)
   rotate_left
   ·rw [if_neg c6] at H
    exact absurd H (by simp)
   rw [if_pos c6] at H
   have c6b0 : decide (x5_1 < (l1.length : Int)) = true := decide_eq_true c6
   clear c6
   replace H := Option.bind_eq_some_iff.mp H
   obtain ⟨t1854, A70, H⟩ := H
   replace H : (if t1854 = true then (laws_eqHopS.l0 k1 l0 l1 (wrap64 (x5_1 + 1))) else (some false)) = some r := H
   have A7 := Aside0.mk A70
   clear A70
   by_cases c8 : t1854 = true
   ·subst c8
    rw [if_pos rfl] at H
    have H' := Aside0.mk H
    clear H
    try go_wp2
    replace HB := Aside0.mk (below_drew1 HB.out)
    have p1852 : 0 ≤ (x5_1 : Int) := of_decide_eq_true (by first | (with_reducible assumption) | assumption)
    have q1852 : x5_1 < (l0.length : Int) := of_decide_eq_true (by first | (with_reducible assumption) | assumption)
    obtain ⟨ad1852, e1852, hx1852_0, hx1852_1⟩ := at_T162 HR0.out x5_1 p1852 q1852
    have hw1852_1 := hx1852_1
    have hw1852_0 := hx1852_0
    cases e1852
    replace hx1852_0 := (HB.out.cell (World.block_lt_of_cell? w _ hx1852_0)).trans hx1852_0
    replace hx1852_1 := (HB.out.cell (World.block_lt_of_cell? w _ hx1852_1)).trans hx1852_1
    replace p1852 := eq_true p1852
    replace q1852 := eq_true q1852
    have p1853 : 0 ≤ (x5_1 : Int) := of_decide_eq_true (by first | (with_reducible assumption) | assumption)
    have q1853 : x5_1 < (l1.length : Int) := of_decide_eq_true (by first | (with_reducible assumption) | assumption)
    obtain ⟨ad1853, e1853, hx1853_0, hx1853_1⟩ := at_T162 HR1.out x5_1 p1853 q1853
    have hw1853_1 := hx1853_1
    have hw1853_0 := hx1853_0
    cases e1853
    replace hx1853_0 := (HB.out.cell (World.block_lt_of_cell? w _ hx1853_0)).trans hx1853_0
    replace hx1853_1 := (HB.out.cell (World.block_lt_of_cell? w _ hx1853_1)).trans hx1853_1
    replace p1853 := eq_true p1853
    replace q1853 := eq_true q1853
    refine start_ (n := 10) (S := fun w' => w'.cell? (ad1852.add ((x5_1).toNat * 2)) = some (.int .i64 ((rd_T162 l0 x5_1).f0)) ∧ w'.cell? ⟨(ad1852.add ((x5_1).toNat * 2)).block, (ad1852.add ((x5_1).toNat * 2)).off + 1, none⟩ = some (.int .i64 ((rd_T162 l0 x5_1).f1)) ∧ w'.cell? (ad1853.add ((x5_1).toNat * 2)) = some (.int .i64 ((rd_T162 l1 x5_1).f0)) ∧ w'.cell? ⟨(ad1853.add ((x5_1).toNat * 2)).block, (ad1853.add ((x5_1).toNat * 2)).off + 1, none⟩ = some (.int .i64 ((rd_T162 l1 x5_1).f1))) (ds := []) (bs 10 0) (by kernel_rfl) rfl rfl ⟨((HB.out.cell (World.block_lt_of_cell? w _ hw1852_0)).trans hw1852_0), ((HB.out.cell (World.block_lt_of_cell? w _ hw1852_1)).trans hw1852_1), ((HB.out.cell (World.block_lt_of_cell? w _ hw1853_0)).trans hw1853_0), ((HB.out.cell (World.block_lt_of_cell? w _ hw1853_1)).trans hw1853_1)⟩ (fun hHeld => ?_); refine with_tabW laws_eqHopS.tab6 laws_eqHopS.bits6 (fun HT_ HW_ => ?_)
    generalize wr.drew = w9 at HB hx1852_0 hx1852_1 hx1853_0 hx1853_1 hHeld ⊢
    refine pu_ 0 17 (bs 10 1) HT_ ?_
    refine pu_ 1 18 (bs 10 3) HT_ ?_
    refine pu_ 2 19 (bs 10 7) HT_ ?_
    refine pu_ 4 21 (bs 10 23) HT_ ?_
    refine pu_ 5 22 (bs 10 55) HT_ ?_
    refine pu_ 6 23 (bs 10 119) HT_ ?_
    refine tk_ 3 20 (bs 10 127) HT_ HW_ hHeld ?_
    refine tk_ 7 24 (bs 10 255) HT_ HW_ hHeld ?_
    refine one_ (i := 8) (N := some 25) (bs 10 511) rfl rfl (one_of HT_.out (by kernel_rfl)) (by decide) (fun K hK => ?_)
    refine goes_ Try.func132 (by kernel_rfl) rfl #[.agg #[.int .i64 ((rd_T162 l0 x5_1).f0), .int .i64 ((rd_T162 l0 x5_1).f1)], .agg #[.int .i64 ((rd_T162 l1 x5_1).f0), .int .i64 ((rd_T162 l1 x5_1).f1)]] (by rfl) rfl rfl tm_ ?_
    with_reducible refine (laws_eqHop.calls ((rd_T162 l0 x5_1).f0) ((rd_T162 l0 x5_1).f1) ((rd_T162 l1 x5_1).f0) ((rd_T162 l1 x5_1).f1) true _ A7.out).mono ?_
    rintro e w10 ⟨rfl, hb⟩
    refine ⟨_, rfl, ?_⟩
    replace HB := bst_ HB hb
    clear hb
    refine hK.out _ _ ⟨((HB.out.cell (World.block_lt_of_cell? w _ hw1852_0)).trans hw1852_0), ((HB.out.cell (World.block_lt_of_cell? w _ hw1852_1)).trans hw1852_1), ((HB.out.cell (World.block_lt_of_cell? w _ hw1853_0)).trans hw1853_0), ((HB.out.cell (World.block_lt_of_cell? w _ hw1853_1)).trans hw1853_1)⟩ (fun hHeld => ?_)
    clear hK K
    refine nm_ 25 ?_
    refine pu_ 9 26 (bs 10 1023) HT_ ?_
    refine done_ (done_of HT_.out (by kernel_rfl)) ?_
    try go_wp2
    go_roundg k1
    case measure => have := HK1.out; omega
    case rel => exact ⟨(wrap64 (x5_1 + 1)), (by first | rfl | (simp; done) | (simp [*]; done)), H', ⟨by have := HK1.out; omega⟩, ⟨hB HB⟩⟩
   replace c8 := Bool.eq_false_iff.mpr c8
   subst c8
   rw [if_neg (show ¬ (false = true) by decide)] at H
   obtain rfl := Option.some.inj H
   try go_wp2
   replace HB := Aside0.mk (below_drew1 HB.out)
   have p1852 : 0 ≤ (x5_1 : Int) := of_decide_eq_true (by first | (with_reducible assumption) | assumption)
   have q1852 : x5_1 < (l0.length : Int) := of_decide_eq_true (by first | (with_reducible assumption) | assumption)
   obtain ⟨ad1852, e1852, hx1852_0, hx1852_1⟩ := at_T162 HR0.out x5_1 p1852 q1852
   have hw1852_1 := hx1852_1
   have hw1852_0 := hx1852_0
   cases e1852
   replace hx1852_0 := (HB.out.cell (World.block_lt_of_cell? w _ hx1852_0)).trans hx1852_0
   replace hx1852_1 := (HB.out.cell (World.block_lt_of_cell? w _ hx1852_1)).trans hx1852_1
   replace p1852 := eq_true p1852
   replace q1852 := eq_true q1852
   have p1853 : 0 ≤ (x5_1 : Int) := of_decide_eq_true (by first | (with_reducible assumption) | assumption)
   have q1853 : x5_1 < (l1.length : Int) := of_decide_eq_true (by first | (with_reducible assumption) | assumption)
   obtain ⟨ad1853, e1853, hx1853_0, hx1853_1⟩ := at_T162 HR1.out x5_1 p1853 q1853
   have hw1853_1 := hx1853_1
   have hw1853_0 := hx1853_0
   cases e1853
   replace hx1853_0 := (HB.out.cell (World.block_lt_of_cell? w _ hx1853_0)).trans hx1853_0
   replace hx1853_1 := (HB.out.cell (World.block_lt_of_cell? w _ hx1853_1)).trans hx1853_1
   replace p1853 := eq_true p1853
   replace q1853 := eq_true q1853
   refine start_ (n := 10) (S := fun w' => w'.cell? (ad1852.add ((x5_1).toNat * 2)) = some (.int .i64 ((rd_T162 l0 x5_1).f0)) ∧ w'.cell? ⟨(ad1852.add ((x5_1).toNat * 2)).block, (ad1852.add ((x5_1).toNat * 2)).off + 1, none⟩ = some (.int .i64 ((rd_T162 l0 x5_1).f1)) ∧ w'.cell? (ad1853.add ((x5_1).toNat * 2)) = some (.int .i64 ((rd_T162 l1 x5_1).f0)) ∧ w'.cell? ⟨(ad1853.add ((x5_1).toNat * 2)).block, (ad1853.add ((x5_1).toNat * 2)).off + 1, none⟩ = some (.int .i64 ((rd_T162 l1 x5_1).f1))) (ds := []) (bs 10 0) (by kernel_rfl) rfl rfl ⟨((HB.out.cell (World.block_lt_of_cell? w _ hw1852_0)).trans hw1852_0), ((HB.out.cell (World.block_lt_of_cell? w _ hw1852_1)).trans hw1852_1), ((HB.out.cell (World.block_lt_of_cell? w _ hw1853_0)).trans hw1853_0), ((HB.out.cell (World.block_lt_of_cell? w _ hw1853_1)).trans hw1853_1)⟩ (fun hHeld => ?_); refine with_tabW laws_eqHopS.tab6 laws_eqHopS.bits6 (fun HT_ HW_ => ?_)
   generalize wr.drew = w11 at HB hx1852_0 hx1852_1 hx1853_0 hx1853_1 hHeld ⊢
   refine pu_ 0 17 (bs 10 1) HT_ ?_
   refine pu_ 1 18 (bs 10 3) HT_ ?_
   refine pu_ 2 19 (bs 10 7) HT_ ?_
   refine pu_ 4 21 (bs 10 23) HT_ ?_
   refine pu_ 5 22 (bs 10 55) HT_ ?_
   refine pu_ 6 23 (bs 10 119) HT_ ?_
   refine tk_ 3 20 (bs 10 127) HT_ HW_ hHeld ?_
   refine tk_ 7 24 (bs 10 255) HT_ HW_ hHeld ?_
   refine one_ (i := 8) (N := some 25) (bs 10 511) rfl rfl (one_of HT_.out (by kernel_rfl)) (by decide) (fun K hK => ?_)
   refine goes_ Try.func132 (by kernel_rfl) rfl #[.agg #[.int .i64 ((rd_T162 l0 x5_1).f0), .int .i64 ((rd_T162 l0 x5_1).f1)], .agg #[.int .i64 ((rd_T162 l1 x5_1).f0), .int .i64 ((rd_T162 l1 x5_1).f1)]] (by rfl) rfl rfl tm_ ?_
   with_reducible refine (laws_eqHop.calls ((rd_T162 l0 x5_1).f0) ((rd_T162 l0 x5_1).f1) ((rd_T162 l1 x5_1).f0) ((rd_T162 l1 x5_1).f1) false _ A7.out).mono ?_
   rintro e w12 ⟨rfl, hb⟩
   refine ⟨_, rfl, ?_⟩
   replace HB := bst_ HB hb
   clear hb
   refine hK.out _ _ ⟨((HB.out.cell (World.block_lt_of_cell? w _ hw1852_0)).trans hw1852_0), ((HB.out.cell (World.block_lt_of_cell? w _ hw1852_1)).trans hw1852_1), ((HB.out.cell (World.block_lt_of_cell? w _ hw1853_0)).trans hw1853_0), ((HB.out.cell (World.block_lt_of_cell? w _ hw1853_1)).trans hw1853_1)⟩ (fun hHeld => ?_)
   clear hK K
   refine nm_ 25 ?_
   refine pu_ 9 26 (bs 10 1023) HT_ ?_
   refine done_ (done_of HT_.out (by kernel_rfl)) ?_
   try go_wp2
   go_ret
   exact ⟨by first | rfl | (simp [errW_none, errW_some] <;> rfl) | (simp [*, errW_none, errW_some] <;> rfl), by repeat (first | (with_reducible first | exact HB.out | apply below_alloc | apply pw_below_drewN | apply below_drew1) | exact HB.out)⟩

def laws_markHopS.l0 : Nat → List (S162) → Int → Int → Option (Int × (List (S162)))
 | 0, _, _, _ => none
 | k + 1, x0, x1, x5 => if x5 < (x0.length : Int) then (if 0 ≤ x5 then ((some (x0.set (x5 : Int).toNat (⟨x1, (rd_T162 x0 x5).f1⟩ : S162) : List (S162))).bind fun y1855 => (laws_markHopS.l0 k (y1855.set (x5 : Int).toNat (⟨(rd_T162 y1855 x5).f0, wrap64 (x1 + 1)⟩ : S162)) (wrap64 ((wrap64 (x1 + 1)) + 1)) (wrap64 (x5 + 1)))) else (none)) else (some (x1, x0))
def laws_markHopS.f (k : Nat) (l0 : List (S162)) (a1 : Int) : Option (Int × (List (S162))) := laws_markHopS.l0 k l0 a1 0
theorem laws_markHopS.mono_l : ∀ k, (∀ y0 y1 y2, LeO (laws_markHopS.l0 k y0 y1 y2) (laws_markHopS.l0 (k + 1) y0 y1 y2))
 | 0 => fun _ _ _ r h => by simp [laws_markHopS.l0] at h
 | k + 1 => by
  have ih0 := laws_markHopS.mono_l k
  ·intro y0 y1 y2
   unfold laws_markHopS.l0
   repeat' first
   | (with_reducible exact ih0 _ _ _)
   | (with_reducible exact LeO.refl _)
   | (with_reducible exact LeO.none _)
   | (with_reducible refine LeO.ite ?_ ?_)
   | (with_reducible refine LeO.bind ?_ (fun _ => ?_))
theorem laws_markHopS.mono : ∀ a0 a1 k, LeO (laws_markHopS.f k a0 a1) (laws_markHopS.f (k + 1) a0 a1) := by
 intro a0 a1 k
 have ih0 := laws_markHopS.mono_l k
 unfold laws_markHopS.f
 repeat' first
   | (with_reducible exact ih0 _ _ _)
   | (with_reducible exact LeO.refl _)
   | (with_reducible exact LeO.none _)
   | (with_reducible refine LeO.ite ?_ ?_)
   | (with_reducible refine LeO.bind ?_ (fun _ => ?_))
set_option maxHeartbeats 8000000 in
set_option maxRecDepth 100000 in
theorem laws_markHopS.calls (k : Nat) (P0_ : Nat → Prop) (u9000_ : Value) (l0 : List (S162)) (a1 : Int) (r1 : Int) (r2 : List (S162)) (w0 w : World) (hB : Below w0.heap.size w0 w) (ho0 : Kd.R k162 162 w w0.heap.size P0_ u9000_ l0) (h : laws_markHopS.f k l0 a1 = some (r1, r2)) :
  Calls Try.prog 69 #[u9000_, .int .i64 a1] w fun e w' => e = .returned (.int .i64 r1) ∧ Kd.R k162 162 w' w0.heap.size (fun k_ => (P0_ k_ ∨ w.heap.size ≤ k_)) u9000_ r2 ∧ Below w0.heap.size w0 w' ∧ Kept w w' (fun k_ => P0_ k_) := by
 have HO0 := Aside0.mk (show Kd.R k162 162 w w0.heap.size (fun k_ => (P0_ k_ ∨ w.heap.size ≤ k_)) u9000_ l0 from Kd.R_mono ho0 (fun k_ hk => (.inl hk)))
 have HK := Aside0.mk (Kept.refl w (fun k_ => P0_ k_))
 have HW0 := Aside0.mk hB.size
 have HB := Aside0.mk hB
 clear hB
 have H : (laws_markHopS.l0 k l0 a1 0) = some (r1, r2) := h
 clear h
 have H' := Aside0.mk H
 clear H
 go_enter Try.func69, Try.ntmps69
 go_wp2
 go_loopg [1, 5] k (fun kq v1 v5 w' => ∃ (x0_1 : List (S162)) (x1_1 : Int) (x5_1 : Int), v1 = .int .i64 x1_1 ∧ v5 = .int .i64 x5_1 ∧ Aside0 (laws_markHopS.l0 kq x0_1 x1_1 x5_1 = some (r1, r2)) ∧ Aside0 (kq ≤ k) ∧ Aside0 (Kd.R k162 162 w' w0.heap.size (fun k_ => (P0_ k_ ∨ w.heap.size ≤ k_)) u9000_ x0_1) ∧ Aside0 (Kept w w' (fun k_ => P0_ k_)) ∧ Aside0 (Below w0.heap.size w0 w'))
 case atStart => exact ⟨(l0), (a1), (0), (by first | rfl | (simp; done) | (simp [*]; done)), (by first | rfl | (simp; done) | (simp [*]; done)), H', ⟨Nat.le_refl _⟩, ⟨ra HO0.out⟩, ⟨by repeat (first | (with_reducible first | exact HK.out | apply Kept.alloc | apply Kept.drewN | apply Kept.drew) | exact HK.out)⟩, ⟨hB HB⟩⟩
 case round =>
  clear H'
  obtain ⟨x0_1, x1_1, x5_1, rfl, rfl, HA, HK1, HO_0, HK, HB⟩ := hrel
  cases gk with
  | zero => exact absurd HA.out (by simp [laws_markHopS.l0])
  | succ k1 =>
   have H := HA.out
   clear HA
   simp only [laws_markHopS.l0] at H
   by_cases c3 : x5_1 < (x0_1.length : Int)
   rotate_left
   ·rw [if_neg c3] at H
    have c3b0 : decide (x5_1 < (x0_1.length : Int)) = false := decide_eq_false c3
    clear c3
    simp only [Option.some.injEq, Prod.mk.injEq] at H
    obtain ⟨rfl, rfl⟩ := H
    obtain ⟨Ao12, co12, eo12⟩ := Kd.R_slice HO_0.out
    subst eo12
    go_wp2
    go_ret
    exact ⟨by first | rfl | (simp [errW_none, errW_some] <;> rfl) | (simp [*, errW_none, errW_some] <;> rfl), by (with_reducible repeat (first | apply Kd.R_alloc | apply Kd.R_drewN | apply Kd.R_drew)); exact HO_0.out, by repeat (first | (with_reducible first | exact HB.out | apply below_alloc | apply pw_below_drewN | apply below_drew1) | exact HB.out), by repeat (first | (with_reducible first | exact HK.out | apply Kept.alloc | apply Kept.drewN | apply Kept.drew) | exact HK.out)⟩
   rw [if_pos c3] at H
   have c3b0 : decide (x5_1 < (x0_1.length : Int)) = true := decide_eq_true c3
   clear c3
   by_cases c4 : 0 ≤ x5_1
   rotate_left
   ·rw [if_neg c4] at H
    exact absurd H (by simp)
   rw [if_pos c4] at H
   have c4b0 : decide (0 ≤ x5_1) = true := decide_eq_true c4
   clear c4
   obtain ⟨y1855, hy1855⟩ : ∃ y_ : List (S162), y_ = (x0_1.set (x5_1 : Int).toNat (⟨x1_1, (rd_T162 x0_1 x5_1).f1⟩ : S162)) := ⟨_, rfl⟩
   replace H : (laws_markHopS.l0 k1 (y1855.set (x5_1 : Int).toNat (⟨(rd_T162 y1855 x5_1).f0, wrap64 (x1_1 + 1)⟩ : S162)) (wrap64 ((wrap64 (x1_1 + 1)) + 1)) (wrap64 (x5_1 + 1))) = some (r1, r2) := by first | (rw [hy1855]; with_reducible exact H) | (have H2_ := (Option.bind_some _ _).symm.trans H; rw [hy1855]; with_reducible exact H2_) | (have H2_ := (Option.bind_some _ _).symm.trans H; with_reducible exact H2_) | with_reducible exact H | (rw [hy1855]; exact H) | exact H
   have Ny1855 := Aside0.mk hy1855
   clear hy1855
   obtain ⟨y1856, hy1856⟩ : ∃ y_ : List (S162), y_ = (y1855.set (x5_1 : Int).toNat (⟨(rd_T162 y1855 x5_1).f0, wrap64 (x1_1 + 1)⟩ : S162)) := ⟨_, rfl⟩
   replace H : (laws_markHopS.l0 k1 y1856 (wrap64 ((wrap64 (x1_1 + 1)) + 1)) (wrap64 (x5_1 + 1))) = some (r1, r2) := by first | (rw [hy1856]; with_reducible exact H) | (have H2_ := (Option.bind_some _ _).symm.trans H; rw [hy1856]; with_reducible exact H2_) | (have H2_ := (Option.bind_some _ _).symm.trans H; with_reducible exact H2_) | with_reducible exact H | (rw [hy1856]; exact H) | exact H
   have Ny1856 := Aside0.mk hy1856
   clear hy1856
   have H' := Aside0.mk H
   clear H
   obtain ⟨Ao7, co7, eo7⟩ := Kd.R_slice HO_0.out
   subst eo7
   have p5 : 0 ≤ (x5_1 : Int) := of_decide_eq_true (by first | (with_reducible assumption) | assumption)
   have q5 : (x5_1 : Int) < ((x0_1.length : Int) : Int) := of_decide_eq_true (by first | (with_reducible assumption) | assumption)
   obtain ⟨go5, co5, eo5, gb5, gl5, cl5, HG5⟩ := Kd.R_form HO_0.out (by omega)
   (first | cases eo5 | (injection eo5 with ea_ en_ ec_; (first | subst ea_ | (injection ea_ with ea_; subst ea_)); subst ec_; clear en_))
   have GB5 := Aside0.mk gb5
   have GG5 := Aside0.mk HG5
   clear gb5 gl5 HG5
   have HMgo5 := Aside0.mk (show (P0_ go5 ∨ w.heap.size ≤ go5) from (HO_0.out.1 _ rfl))
   obtain ⟨ce5, hcl5, hM5, hcc5, hfr5⟩ := Kd.R_elem HO_0.out z162 (x5_1 : Int) p5 q5
   obtain rfl := k162_openM hM5
   have hx5_0 : wr.cell? ⟨go5, (x5_1 : Int).toNat * 2, none⟩ = some (.int .i64 ((rd_T162 x0_1 x5_1).f0)) := hcc5 0 _ rfl
   have hx5_1 : wr.cell? ⟨go5, (x5_1 : Int).toNat * 2 + 1, none⟩ = some (.int .i64 ((rd_T162 x0_1 x5_1).f1)) := hcc5 1 _ rfl
   have hf5_0 : wr.frozen? ⟨go5, (x5_1 : Int).toNat * 2, none⟩ = false := hfr5 0
   have hf5_1 : wr.frozen? ⟨go5, (x5_1 : Int).toNat * 2 + 1, none⟩ = false := hfr5 1
   clear hcl5 hcc5 hfr5 hM5
   replace p5 := eq_true p5
   replace q5 := eq_true q5
   have HX8 := Aside0.mk (show Kd.R k162 162 wr w0.heap.size (fun k_ => (P0_ k_ ∨ w.heap.size ≤ k_)) (.slice (some ⟨go5, 0, none⟩) x0_1.length co7) x0_1 from (ra HO_0.out))
   obtain ⟨ce8, hcl8, hM8, hcc8, hfr8⟩ := Kd.R_elem HX8.out z162 (x5_1 : Int) (of_decide_eq_true (by first | (with_reducible assumption) | assumption)) (by have h_ : (x5_1 : Int) < ((x0_1.length : Int) : Int) := of_decide_eq_true (by first | (with_reducible assumption) | assumption); first | exact h_ | (have e_ := (Kd.R_reads' HO_0.out).1; omega) | simpa using h_)
   obtain rfl := k162_openM hM8
   have HP8 := Kd.R_seg HX8.out (x5_1 : Int) (of_decide_eq_true (by first | (with_reducible assumption) | assumption)) (by have h_ : (x5_1 : Int) < ((x0_1.length : Int) : Int) := of_decide_eq_true (by first | (with_reducible assumption) | assumption); first | exact h_ | (have e_ := (Kd.R_reads' HO_0.out).1; omega) | simpa using h_) (seg := [.int .i64 x1_1]) (j := 0) hcl8 hcc8 (show 1 ≤ 2 from by decide) (x' := (⟨x1_1, (rd_T162 x0_1 x5_1).f1⟩ : S162)) (k162_mkM _ _ _ (⟨x1_1, (rd_T162 x0_1 x5_1).f1⟩ : S162) ) (fun _ hk => hk)
   have hx8_0 := hcc8 0 _ rfl
   (try simp only [show (k162).sz = 2 from rfl, Nat.mul_one, Nat.add_zero] at hx8_0)
   have hf8_0 := hfr8 0
   (try simp only [show (k162).sz = 2 from rfl, Nat.mul_one, Nat.add_zero] at hf8_0)
   clear hcl8 hcc8 hfr8 hM8
   go_wp2_with (first | ((with_reducible refine gate_store (t := 3) (p := 16) rfl ?_); refine store_event (t := 3) (p := 16) (v := ?vo_w9) (w1 := (wr.setCell ⟨go5, (x5_1 : Int).toNat * 2, none⟩ (.int .i64 x1_1))) ?hg ?ho ?hn ?hr ?_; (case ho => rfl); (case hg => rfl); (case hn => rfl); (case hr => first | (go_simp; done) | (go_simp; rfl)); intro w9 hw; have hg : wr.grownBy w9 (some go5) := (by rw [hw]; exact HP8.2); have hp_ : Kd.R k162 162 w9 w0.heap.size (fun k_ => (P0_ k_ ∨ w.heap.size ≤ k_)) (.slice (some ⟨go5, 0, none⟩) x0_1.length co7) y1855 := (by rw [hw, Ny1855.out]; exact HP8.1); clear HP8; replace HB := Aside0.mk ((by rw [hw]; exact below_set (HB.out) GB5.out : Below w0.heap.size w0 w9)); replace HK := Aside0.mk (Kept.of_grown (S := (fun k_ => P0_ k_)) hg (by repeat (first | (with_reducible first | exact HK.out | apply Kept.alloc | apply Kept.drewN | apply Kept.drew) | exact HK.out)) (fun k_ e_ => (HO_0.out.1 k_ e_))); replace HO_0 := Aside0.mk (hp_); clear hg hw hp_; have p6 : 0 ≤ (x5_1 : Int) := of_decide_eq_true (by first | (with_reducible assumption) | assumption); have q6 : (x5_1 : Int) < ((x0_1.length : Int) : Int) := of_decide_eq_true (by first | (with_reducible assumption) | assumption); obtain ⟨ce6, hcl6, hM6, hcc6, hfr6⟩ := Kd.R_elem HO_0.out z162 (x5_1 : Int) p6 q6; obtain rfl := k162_openM hM6; have hx6_0 : w9.cell? ⟨go5, (x5_1 : Int).toNat * 2, none⟩ = some (.int .i64 ((rd_T162 y1855 x5_1).f0)) := hcc6 0 _ rfl; have hx6_1 : w9.cell? ⟨go5, (x5_1 : Int).toNat * 2 + 1, none⟩ = some (.int .i64 ((rd_T162 y1855 x5_1).f1)) := hcc6 1 _ rfl; have hf6_0 : w9.frozen? ⟨go5, (x5_1 : Int).toNat * 2, none⟩ = false := hfr6 0; have hf6_1 : w9.frozen? ⟨go5, (x5_1 : Int).toNat * 2 + 1, none⟩ = false := hfr6 1; clear hcl6 hcc6 hfr6 hM6; replace p6 := eq_true p6; replace q6 := eq_true q6; have HX10 := Aside0.mk (show Kd.R k162 162 w9 w0.heap.size (fun k_ => (P0_ k_ ∨ w.heap.size ≤ k_)) (.slice (some ⟨go5, 0, none⟩) x0_1.length co7) y1855 from (ra HO_0.out)); obtain ⟨ce10, hcl10, hM10, hcc10, hfr10⟩ := Kd.R_elem HX10.out z162 (x5_1 : Int) (of_decide_eq_true (by first | (with_reducible assumption) | assumption)) (by have h_ : (x5_1 : Int) < ((x0_1.length : Int) : Int) := of_decide_eq_true (by first | (with_reducible assumption) | assumption); first | exact h_ | (have e_ := (Kd.R_reads' HO_0.out).1; omega) | simpa using h_); obtain rfl := k162_openM hM10; have HP10 := Kd.R_seg HX10.out (x5_1 : Int) (of_decide_eq_true (by first | (with_reducible assumption) | assumption)) (by have h_ : (x5_1 : Int) < ((x0_1.length : Int) : Int) := of_decide_eq_true (by first | (with_reducible assumption) | assumption); first | exact h_ | (have e_ := (Kd.R_reads' HO_0.out).1; omega) | simpa using h_) (seg := [.int .i64 (wrap64 (x1_1 + 1))]) (j := 1) hcl10 hcc10 (show 2 ≤ 2 from by decide) (x' := (⟨(rd_T162 y1855 x5_1).f0, wrap64 (x1_1 + 1)⟩ : S162)) (k162_mkM _ _ _ (⟨(rd_T162 y1855 x5_1).f0, wrap64 (x1_1 + 1)⟩ : S162) ) (fun _ hk => hk); have hx10_1 := hcc10 1 _ rfl; (try simp only [show (k162).sz = 2 from rfl, Nat.mul_one, Nat.add_zero] at hx10_1); have hf10_1 := hfr10 1; (try simp only [show (k162).sz = 2 from rfl, Nat.mul_one, Nat.add_zero] at hf10_1); clear hcl10 hcc10 hfr10 hM10) | ((with_reducible refine gate_store (t := 3) (p := 23) rfl ?_); refine store_event (t := 3) (p := 23) (v := ?vo_w11) (w1 := (w9.setCell ⟨go5, (x5_1 : Int).toNat * 2 + 1, none⟩ (.int .i64 (wrap64 (x1_1 + 1))))) ?hg ?ho ?hn ?hr ?_; (case ho => rfl); (case hg => rfl); (case hn => rfl); (case hr => first | (go_simp; done) | (go_simp; rfl)); intro w11 hw; have hg : w9.grownBy w11 (some go5) := (by rw [hw]; exact HP10.2); have hp_ : Kd.R k162 162 w11 w0.heap.size (fun k_ => (P0_ k_ ∨ w.heap.size ≤ k_)) (.slice (some ⟨go5, 0, none⟩) x0_1.length co7) y1856 := (by rw [hw, Ny1856.out]; exact HP10.1); clear HP10; replace HB := Aside0.mk ((by rw [hw]; exact below_set (HB.out) GB5.out : Below w0.heap.size w0 w11)); replace HK := Aside0.mk (Kept.of_grown (S := (fun k_ => P0_ k_)) hg (by repeat (first | (with_reducible first | exact HK.out | apply Kept.alloc | apply Kept.drewN | apply Kept.drew) | exact HK.out)) (fun k_ e_ => (HO_0.out.1 k_ e_))); replace HO_0 := Aside0.mk (hp_); clear hg hw hp_))
   go_roundg k1
   case measure => have := HK1.out; omega
   case rel => exact ⟨(y1856), (wrap64 ((wrap64 (x1_1 + 1)) + 1)), (wrap64 (x5_1 + 1)), (by first | rfl | (simp; done) | (simp [*]; done)), (by first | rfl | (simp; done) | (simp [*]; done)), H', ⟨by have := HK1.out; omega⟩, ⟨ra HO_0.out⟩, ⟨by repeat (first | (with_reducible first | exact HK.out | apply Kept.alloc | apply Kept.drewN | apply Kept.drew) | exact HK.out)⟩, ⟨hB HB⟩⟩

mutual
def laws_FnExactReachedBy.j0 : Nat → List (S166) → Int → List Int → Bool → List (S162) → List Int → Bool → Bool → Option (Bool)
 | 0, _, _, _, _, _, _, _, _ => none
 | k + 1, x0, x1, x6, x7, x8, x9, x10, x44 => if x44 = true then (some false) else ((laws_toHopS.f k x0).bind fun t1873 => ((laws_eqHopS.f k x8 t1873).bind fun t1876 => (if t1876 = true then ((laws_markHopS.f k x8 1).bind fun bt1877 => (if bt1877.1 < 0 then (laws_FnExactReachedBy.j1 k x0 x1 x6 x7 x9 true) else ((laws_eqIntS.f k x9 x6).bind fun t1879 => (if t1879 = true then (laws_FnExactReachedBy.j1 k x0 x1 x6 x7 x9 (x10 != x7)) else (laws_FnExactReachedBy.j1 k x0 x1 x6 x7 x9 true))))) else (some false))))
def laws_FnExactReachedBy.j1 : Nat → List (S166) → Int → List Int → Bool → List Int → Bool → Option (Bool)
 | 0, _, _, _, _, _, _ => none
 | k + 1, x0, x1, x6, x7, x9, x65 => if x65 = true then (some false) else ((laws_markIntS.f k x9 1).bind fun bt1880 => ((laws_heldIntS.f k bt1880.2 1).bind fun t1882 => (if t1882 < 0 then (some false) else (if t1882 = bt1880.1 then ((laws_toHopS.f k x0).bind fun t1883 => ((impl_ReachedBy.f k t1883 x1).bind fun bt1886 => ((laws_eqIntS.f k bt1886.1 x6).bind fun t1890 => (if t1890 = true then (laws_FnExactReachedBy.j2 k bt1880.2 bt1880.1 (bt1886.2 != x7)) else (laws_FnExactReachedBy.j2 k bt1880.2 bt1880.1 true))))) else (some false)))))
def laws_FnExactReachedBy.j2 : Nat → List Int → Int → Bool → Option (Bool)
 | 0, _, _, _ => none
 | k + 1, x9, x12, x92 => if x92 = true then (some false) else ((laws_heldIntS.f k x9 1).bind fun t1891 => (if t1891 < 0 then (some false) else (if t1891 = x12 then (some true) else (some false))))
end
def laws_FnExactReachedBy.f (k : Nat) (l0 : List (S166)) (a1 : Int) : Option (Bool) := (laws_szHopS.f l0 1048576).bind fun t1857 => (if t1857 < 0 then (some true) else ((laws_toHopS.f k l0).bind fun t1858 => ((spec_ReachedBy.f k t1858 a1).bind fun bt1861 => ((laws_toHopS.f k l0).bind fun t1865 => ((impl_ReachedBy.f k t1865 a1).bind fun bt1868 => ((laws_eqIntS.f k bt1868.1 bt1861.1).bind fun t1872 => (if t1872 = true then (laws_FnExactReachedBy.j0 k l0 a1 bt1861.1 bt1861.2 t1865 bt1868.1 bt1868.2 (bt1868.2 != bt1861.2)) else (laws_FnExactReachedBy.j0 k l0 a1 bt1861.1 bt1861.2 t1865 bt1868.1 bt1868.2 true))))))))
theorem laws_FnExactReachedBy.mono_l : ∀ k, (∀ y0 y1 y2 y3 y4 y5 y6 y7, LeO (laws_FnExactReachedBy.j0 k y0 y1 y2 y3 y4 y5 y6 y7) (laws_FnExactReachedBy.j0 (k + 1) y0 y1 y2 y3 y4 y5 y6 y7)) ∧ (∀ y0 y1 y2 y3 y4 y5, LeO (laws_FnExactReachedBy.j1 k y0 y1 y2 y3 y4 y5) (laws_FnExactReachedBy.j1 (k + 1) y0 y1 y2 y3 y4 y5)) ∧ (∀ y0 y1 y2, LeO (laws_FnExactReachedBy.j2 k y0 y1 y2) (laws_FnExactReachedBy.j2 (k + 1) y0 y1 y2))
 | 0 => ⟨fun _ _ _ _ _ _ _ _ r h => by simp [laws_FnExactReachedBy.j0] at h, fun _ _ _ _ _ _ r h => by simp [laws_FnExactReachedBy.j1] at h, fun _ _ _ r h => by simp [laws_FnExactReachedBy.j2] at h⟩
 | k + 1 => by
  obtain ⟨ih0, ih1, ih2⟩ := laws_FnExactReachedBy.mono_l k
  refine ⟨?_, ?_, ?_⟩
  ·intro y0 y1 y2 y3 y4 y5 y6 y7
   unfold laws_FnExactReachedBy.j0
   repeat' first
   | (with_reducible exact ih0 _ _ _ _ _ _ _ _)
   | (with_reducible exact ih1 _ _ _ _ _ _)
   | (with_reducible exact ih2 _ _ _)
   | (with_reducible exact impl_ReachedBy.mono _ _ _)
   | (with_reducible exact laws_eqHopS.mono _ _ _)
   | (with_reducible exact laws_eqIntS.mono _ _ _)
   | (with_reducible exact laws_heldIntS.mono _ _ _)
   | (with_reducible exact laws_markHopS.mono _ _ _)
   | (with_reducible exact laws_markIntS.mono _ _ _)
   | (with_reducible exact laws_toHopS.mono _ _)
   | (with_reducible exact spec_ReachedBy.mono _ _ _)
   | (with_reducible exact LeO.refl _)
   | (with_reducible exact LeO.none _)
   | (with_reducible refine LeO.ite ?_ ?_)
   | (with_reducible refine LeO.bind ?_ (fun _ => ?_))
  ·intro y0 y1 y2 y3 y4 y5
   unfold laws_FnExactReachedBy.j1
   repeat' first
   | (with_reducible exact ih0 _ _ _ _ _ _ _ _)
   | (with_reducible exact ih1 _ _ _ _ _ _)
   | (with_reducible exact ih2 _ _ _)
   | (with_reducible exact impl_ReachedBy.mono _ _ _)
   | (with_reducible exact laws_eqHopS.mono _ _ _)
   | (with_reducible exact laws_eqIntS.mono _ _ _)
   | (with_reducible exact laws_heldIntS.mono _ _ _)
   | (with_reducible exact laws_markHopS.mono _ _ _)
   | (with_reducible exact laws_markIntS.mono _ _ _)
   | (with_reducible exact laws_toHopS.mono _ _)
   | (with_reducible exact spec_ReachedBy.mono _ _ _)
   | (with_reducible exact LeO.refl _)
   | (with_reducible exact LeO.none _)
   | (with_reducible refine LeO.ite ?_ ?_)
   | (with_reducible refine LeO.bind ?_ (fun _ => ?_))
  ·intro y0 y1 y2
   unfold laws_FnExactReachedBy.j2
   repeat' first
   | (with_reducible exact ih0 _ _ _ _ _ _ _ _)
   | (with_reducible exact ih1 _ _ _ _ _ _)
   | (with_reducible exact ih2 _ _ _)
   | (with_reducible exact impl_ReachedBy.mono _ _ _)
   | (with_reducible exact laws_eqHopS.mono _ _ _)
   | (with_reducible exact laws_eqIntS.mono _ _ _)
   | (with_reducible exact laws_heldIntS.mono _ _ _)
   | (with_reducible exact laws_markHopS.mono _ _ _)
   | (with_reducible exact laws_markIntS.mono _ _ _)
   | (with_reducible exact laws_toHopS.mono _ _)
   | (with_reducible exact spec_ReachedBy.mono _ _ _)
   | (with_reducible exact LeO.refl _)
   | (with_reducible exact LeO.none _)
   | (with_reducible refine LeO.ite ?_ ?_)
   | (with_reducible refine LeO.bind ?_ (fun _ => ?_))
theorem laws_FnExactReachedBy.mono : ∀ a0 a1 k, LeO (laws_FnExactReachedBy.f k a0 a1) (laws_FnExactReachedBy.f (k + 1) a0 a1) := by
 intro a0 a1 k
 obtain ⟨ih0, ih1, ih2⟩ := laws_FnExactReachedBy.mono_l k
 unfold laws_FnExactReachedBy.f
 repeat' first
   | (with_reducible exact ih0 _ _ _ _ _ _ _ _)
   | (with_reducible exact ih1 _ _ _ _ _ _)
   | (with_reducible exact ih2 _ _ _)
   | (with_reducible exact impl_ReachedBy.mono _ _ _)
   | (with_reducible exact laws_eqHopS.mono _ _ _)
   | (with_reducible exact laws_eqIntS.mono _ _ _)
   | (with_reducible exact laws_heldIntS.mono _ _ _)
   | (with_reducible exact laws_markHopS.mono _ _ _)
   | (with_reducible exact laws_markIntS.mono _ _ _)
   | (with_reducible exact laws_toHopS.mono _ _)
   | (with_reducible exact spec_ReachedBy.mono _ _ _)
   | (with_reducible exact LeO.refl _)
   | (with_reducible exact LeO.none _)
   | (with_reducible refine LeO.ite ?_ ?_)
   | (with_reducible refine LeO.bind ?_ (fun _ => ?_))
set_option maxHeartbeats 8000000 in
set_option maxRecDepth 100000 in
theorem laws_FnExactReachedBy.calls (k : Nat) (A0 : Option Addr) (c0 : Nat) (l0 : List (S166)) (a1 : Int) (r : Bool) (w : World) (hr0 : Kd.C k166 w A0 l0.length l0) (hc0 : l0.length ≤ c0) (h : laws_FnExactReachedBy.f k l0 a1 = some r) :
  Calls Try.prog 11 #[.slice A0 l0.length c0, .int .i64 a1] w fun e w' => e = .returned (.bool r) ∧ Below w.heap.size w w' := by
 have HR0 := Aside0.mk hr0
 have HC0 := Aside0.mk hc0
 clear hr0 hc0
 have HB := Aside0.mk (Below.refl w.heap.size w)
 have H : ((laws_szHopS.f l0 1048576).bind fun t1857 => (if t1857 < 0 then (some true) else ((laws_toHopS.f k l0).bind fun t1858 => ((spec_ReachedBy.f k t1858 a1).bind fun bt1861 => ((laws_toHopS.f k l0).bind fun t1865 => ((impl_ReachedBy.f k t1865 a1).bind fun bt1868 => ((laws_eqIntS.f k bt1868.1 bt1861.1).bind fun t1872 => (if t1872 = true then (laws_FnExactReachedBy.j0 k l0 a1 bt1861.1 bt1861.2 t1865 bt1868.1 bt1868.2 (bt1868.2 != bt1861.2)) else (laws_FnExactReachedBy.j0 k l0 a1 bt1861.1 bt1861.2 t1865 bt1868.1 bt1868.2 true))))))))) = some r := h
 clear h
 replace H := Option.bind_eq_some_iff.mp H
 obtain ⟨t1857, A30, H⟩ := H
 replace H : (if t1857 < 0 then (some true) else ((laws_toHopS.f k l0).bind fun t1858 => ((spec_ReachedBy.f k t1858 a1).bind fun bt1861 => ((laws_toHopS.f k l0).bind fun t1865 => ((impl_ReachedBy.f k t1865 a1).bind fun bt1868 => ((laws_eqIntS.f k bt1868.1 bt1861.1).bind fun t1872 => (if t1872 = true then (laws_FnExactReachedBy.j0 k l0 a1 bt1861.1 bt1861.2 t1865 bt1868.1 bt1868.2 (bt1868.2 != bt1861.2)) else (laws_FnExactReachedBy.j0 k l0 a1 bt1861.1 bt1861.2 t1865 bt1868.1 bt1868.2 true)))))))) = some r := H
 have A3 := Aside0.mk A30
 clear A30
 by_cases c4 : t1857 < 0
 ·rw [if_pos c4] at H
  have c4b0 : decide (t1857 < 0) = true := decide_eq_true c4
  clear c4
  obtain rfl := Option.some.inj H
  go_enter Try.func11, Try.ntmps11
  go_wp2_with (first | ((with_reducible refine gate_callee (f := 64) rfl ?_); refine goesL_ (some 18) rfl rfl Try.func64 (by kernel_rfl) rfl #[.slice A0 l0.length c0, .int .i64 1048576] rfl tm_ ?_; (with_reducible refine (laws_szHopS.calls _ _ l0 1048576 t1857 _ ?side1 ?side2 A3.out).mono ?_); (case side1 => exact ca HR0.out); (case side2 => exact HC0.out); rintro e w' ⟨rfl, ⟨nd, rfl⟩⟩; refine ⟨_, rfl, ?_⟩))
  go_ret
  exact ⟨by first | rfl | (simp [errW_none, errW_some] <;> rfl) | (simp [*, errW_none, errW_some] <;> rfl), by repeat (first | (with_reducible first | exact HB.out | apply below_alloc | apply pw_below_drewN | apply below_drew1) | exact HB.out)⟩
 rw [if_neg c4] at H
 have c4b0 : decide (t1857 < 0) = false := decide_eq_false c4
 clear c4
 replace H := Option.bind_eq_some_iff.mp H
 obtain ⟨t1858, A50, H⟩ := H
 replace H : ((spec_ReachedBy.f k t1858 a1).bind fun bt1861 => ((laws_toHopS.f k l0).bind fun t1865 => ((impl_ReachedBy.f k t1865 a1).bind fun bt1868 => ((laws_eqIntS.f k bt1868.1 bt1861.1).bind fun t1872 => (if t1872 = true then (laws_FnExactReachedBy.j0 k l0 a1 bt1861.1 bt1861.2 t1865 bt1868.1 bt1868.2 (bt1868.2 != bt1861.2)) else (laws_FnExactReachedBy.j0 k l0 a1 bt1861.1 bt1861.2 t1865 bt1868.1 bt1868.2 true)))))) = some r := H
 have A5 := Aside0.mk A50
 clear A50
 replace H := Option.bind_eq_some_iff.mp H
 obtain ⟨⟨t1861, t1862⟩, A60, H⟩ := H
 replace H : ((laws_toHopS.f k l0).bind fun t1865 => ((impl_ReachedBy.f k t1865 a1).bind fun bt1868 => ((laws_eqIntS.f k bt1868.1 t1861).bind fun t1872 => (if t1872 = true then (laws_FnExactReachedBy.j0 k l0 a1 t1861 t1862 t1865 bt1868.1 bt1868.2 (bt1868.2 != t1862)) else (laws_FnExactReachedBy.j0 k l0 a1 t1861 t1862 t1865 bt1868.1 bt1868.2 true))))) = some r := H
 have A6 := Aside0.mk A60
 clear A60
 replace H := Option.bind_eq_some_iff.mp H
 obtain ⟨t1865, A70, H⟩ := H
 replace H : ((impl_ReachedBy.f k t1865 a1).bind fun bt1868 => ((laws_eqIntS.f k bt1868.1 t1861).bind fun t1872 => (if t1872 = true then (laws_FnExactReachedBy.j0 k l0 a1 t1861 t1862 t1865 bt1868.1 bt1868.2 (bt1868.2 != t1862)) else (laws_FnExactReachedBy.j0 k l0 a1 t1861 t1862 t1865 bt1868.1 bt1868.2 true)))) = some r := H
 have A7 := Aside0.mk A70
 clear A70
 replace H := Option.bind_eq_some_iff.mp H
 obtain ⟨⟨t1868, t1869⟩, A80, H⟩ := H
 replace H : ((laws_eqIntS.f k t1868 t1861).bind fun t1872 => (if t1872 = true then (laws_FnExactReachedBy.j0 k l0 a1 t1861 t1862 t1865 t1868 t1869 (t1869 != t1862)) else (laws_FnExactReachedBy.j0 k l0 a1 t1861 t1862 t1865 t1868 t1869 true))) = some r := H
 have A8 := Aside0.mk A80
 clear A80
 have HC9 := Aside0.mk H
 clear H
 go_enter Try.func11, Try.ntmps11
 go_upto_region 8 with (first | ((with_reducible refine gate_callee (f := 64) rfl ?_); refine goesL_ (some 18) rfl rfl Try.func64 (by kernel_rfl) rfl #[.slice A0 l0.length c0, .int .i64 1048576] rfl tm_ ?_; (with_reducible refine (laws_szHopS.calls _ _ l0 1048576 t1857 _ ?side1 ?side2 A3.out).mono ?_); (case side1 => exact ca HR0.out); (case side2 => exact HC0.out); rintro e w' ⟨rfl, ⟨nd, rfl⟩⟩; refine ⟨_, rfl, ?_⟩) | ((with_reducible refine gate_callee (f := 66) rfl ?_); refine goesL_ (some 23) rfl rfl Try.func66 (by kernel_rfl) rfl #[.slice A0 l0.length c0] rfl tm_ ?_; (with_reducible refine (laws_toHopS.calls k _ _ l0 t1858 _ ?side1 ?side2 A5.out).mono ?_); (case side1 => exact ca HR0.out); (case side2 => exact HC0.out); rintro e w10 ⟨v1859, rfl, ho0, hb⟩; refine ⟨_, rfl, ?_⟩; have HO1860 := Aside0.mk (Kd.R_lower ho0 (below_size (hB HB))); replace HB := bst_ HB hb; clear hb ho0; obtain ⟨Ao11, co11, eo11⟩ := Kd.R_slice HO1860.out; subst eo11) | ((with_reducible refine gate_callee (f := 65) rfl ?_); refine goesL_ (some 25) rfl rfl Try.func65 (by kernel_rfl) rfl #[.slice Ao11 t1858.length co11, .int .i64 a1] rfl tm_ ?_; (with_reducible refine (spec_ReachedBy.calls k _ _ t1858 a1 t1861 t1862 _ ?side1 ?side2 A6.out).mono ?_); (case side1 => exact ca (Kd.R_reads' HO1860.out).2.2); (case side2 => exact (Kd.R_reads' HO1860.out).2.1); rintro e w12 ⟨v1863, rfl, ho0, hb⟩; refine ⟨_, rfl, ?_⟩; have HO1864 := Aside0.mk (Kd.R_lower ho0 (below_size (hB HB))); replace HO1860 := rb_ HO1860 hb; replace HB := bst_ HB hb; clear hb ho0) | ((with_reducible refine gate_callee (f := 66) rfl ?_); refine goesL_ (some 29) rfl rfl Try.func66 (by kernel_rfl) rfl #[.slice A0 l0.length c0] rfl tm_ ?_; (with_reducible refine (laws_toHopS.calls k _ _ l0 t1865 _ ?side1 ?side2 A7.out).mono ?_); (case side1 => exact ca (Kd.C_below HR0.out HB.out)); (case side2 => exact HC0.out); rintro e w13 ⟨v1866, rfl, ho0, hb⟩; refine ⟨_, rfl, ?_⟩; have HO1867 := Aside0.mk (Kd.R_lower (Kd.R_new' ho0 (rl_ HO1860)) (below_size (hB HB))); replace HO1860 := re_ HO1860 ho0 hb; replace HO1864 := rb_ HO1864 hb; replace HB := bst_ HB hb; clear hb ho0; obtain ⟨Ao14, co14, eo14⟩ := Kd.R_slice HO1867.out; subst eo14) | ((with_reducible refine gate_callee (f := 67) rfl ?_); refine goesL_ (some 33) rfl rfl Try.func67 (by kernel_rfl) rfl #[.slice Ao14 t1865.length co14, .int .i64 a1] rfl tm_ ?_; (with_reducible refine (impl_ReachedBy.calls k _ _ t1865 a1 t1868 t1869 _ ?side1 ?side2 A8.out).mono ?_); (case side1 => exact ca (Kd.R_reads' HO1867.out).2.2); (case side2 => exact (Kd.R_reads' HO1867.out).2.1); rintro e w15 ⟨v1870, rfl, ho0, hb⟩; refine ⟨_, rfl, ?_⟩; have HO1871 := Aside0.mk (Kd.R_lower (Kd.R_new' ho0 (rl_ HO1864)) (below_size (hB HB))); replace HO1860 := rb_ HO1860 hb; replace HO1864 := re_ HO1864 ho0 hb; replace HO1867 := rb_ HO1867 hb; replace HB := bst_ HB hb; clear hb ho0))
 (try simp only [Act.put, List.setIfInBounds_toArray, List.set_cons_zero, List.set_cons_succ])
 go_cut [44] (fun v44 wc => ∃ (kq : Nat) (x44_8 : Bool), v44 = .bool x44_8 ∧ Aside0 (laws_FnExactReachedBy.j0 kq l0 a1 t1861 t1862 t1865 t1868 t1869 x44_8 = some r) ∧ Aside0 (kq ≤ k) ∧ Aside0 (Kd.R (Kd.int .i64) 3 wc w.heap.size (fun k_ => no_ v1870 k_) v1863 t1861) ∧ Aside0 (Kd.R k162 162 wc w.heap.size (fun _ => True) (.slice Ao14 t1865.length co14) t1865) ∧ Aside0 (Kd.R (Kd.int .i64) 3 wc w.heap.size (fun k_ => no_ v1863 k_) v1870 t1868) ∧ Aside0 (Below w.heap.size w wc))
 case first =>
  have H := HC9.out
  clear HC9
  replace H := Option.bind_eq_some_iff.mp H
  obtain ⟨t1872, A160, H⟩ := H
  replace H : (if t1872 = true then (laws_FnExactReachedBy.j0 k l0 a1 t1861 t1862 t1865 t1868 t1869 (t1869 != t1862)) else (laws_FnExactReachedBy.j0 k l0 a1 t1861 t1862 t1865 t1868 t1869 true)) = some r := H
  have A16 := Aside0.mk A160
  clear A160
  by_cases c17 : t1872 = true
  ·subst c17
   rw [if_pos rfl] at H
   have H' := Aside0.mk H
   clear H
   obtain ⟨Ao18, co18, eo18⟩ := Kd.R_slice HO1871.out
   subst eo18
   obtain ⟨Ao19, co19, eo19⟩ := Kd.R_slice HO1864.out
   subst eo19
   go_wp2_with (first | ((with_reducible refine gate_callee (f := 19) rfl ?_); refine goesL_ (some 38) rfl rfl Try.func19 (by kernel_rfl) rfl #[.slice Ao18 t1868.length co18, .slice Ao19 t1861.length co19] rfl tm_ ?_; (with_reducible refine (laws_eqIntS.calls k _ _ t1868 _ _ t1861 true _ ?side1 ?side2 ?side3 ?side4 A16.out).mono ?_); (case side1 => exact ca (Kd.R_reads' HO1871.out).2.2); (case side2 => exact (Kd.R_reads' HO1871.out).2.1); (case side3 => exact ca (Kd.R_reads' HO1864.out).2.2); (case side4 => exact (Kd.R_reads' HO1864.out).2.1); rintro e w' ⟨rfl, ⟨nd, rfl⟩⟩; refine ⟨_, rfl, ?_⟩))
   go_meet
   case rel => exact ⟨_, ((t1869 != t1862)), (by first | rfl | (simp; done) | (simp [*]; done)), H', ⟨by first | omega | exact Nat.le_refl _⟩, rm_ HO1864 (fun _ hk => hk.2), rm_ HO1867 (fun _ hk => trivial), rm_ HO1871 (fun _ hk => hk.2), ⟨hB HB⟩⟩
  replace c17 := Bool.eq_false_iff.mpr c17
  subst c17
  rw [if_neg (show ¬ (false = true) by decide)] at H
  have H' := Aside0.mk H
  clear H
  obtain ⟨Ao20, co20, eo20⟩ := Kd.R_slice HO1871.out
  subst eo20
  obtain ⟨Ao21, co21, eo21⟩ := Kd.R_slice HO1864.out
  subst eo21
  go_wp2_with (first | ((with_reducible refine gate_callee (f := 19) rfl ?_); refine goesL_ (some 38) rfl rfl Try.func19 (by kernel_rfl) rfl #[.slice Ao20 t1868.length co20, .slice Ao21 t1861.length co21] rfl tm_ ?_; (with_reducible refine (laws_eqIntS.calls k _ _ t1868 _ _ t1861 false _ ?side1 ?side2 ?side3 ?side4 A16.out).mono ?_); (case side1 => exact ca (Kd.R_reads' HO1871.out).2.2); (case side2 => exact (Kd.R_reads' HO1871.out).2.1); (case side3 => exact ca (Kd.R_reads' HO1864.out).2.2); (case side4 => exact (Kd.R_reads' HO1864.out).2.1); rintro e w' ⟨rfl, ⟨nd, rfl⟩⟩; refine ⟨_, rfl, ?_⟩))
  go_meet
  case rel => exact ⟨_, (true), (by first | rfl | (simp; done) | (simp [*]; done)), H', ⟨by first | omega | exact Nat.le_refl _⟩, rm_ HO1864 (fun _ hk => hk.2), rm_ HO1867 (fun _ hk => trivial), rm_ HO1871 (fun _ hk => hk.2), ⟨hB HB⟩⟩
 case rest =>
  clear HC9
  try clear c4
  try clear c4b0
  obtain ⟨kq, x44_8, rfl, HA, HJ8, HO_6, HO_8, HO_9, HB⟩ := hcut
  cases kq with
  | zero => exact absurd HA.out (by simp [laws_FnExactReachedBy.j0])
  | succ kj8 =>
   have H := HA.out
   clear HA
   simp only [laws_FnExactReachedBy.j0] at H
   by_cases c22 : x44_8 = true
   ·subst c22
    rw [if_pos rfl] at H
    obtain rfl := Option.some.inj H
    go_wp2
    go_ret
    exact ⟨by first | rfl | (simp [errW_none, errW_some] <;> rfl) | (simp [*, errW_none, errW_some] <;> rfl), by repeat (first | (with_reducible first | exact HB.out | apply below_alloc | apply pw_below_drewN | apply below_drew1) | exact HB.out)⟩
   replace c22 := Bool.eq_false_iff.mpr c22
   subst c22
   rw [if_neg (show ¬ (false = true) by decide)] at H
   replace H := Option.bind_eq_some_iff.mp H
   obtain ⟨t1873, A230, H⟩ := H
   replace H : ((laws_eqHopS.f kj8 t1865 t1873).bind fun t1876 => (if t1876 = true then ((laws_markHopS.f kj8 t1865 1).bind fun bt1877 => (if bt1877.1 < 0 then (laws_FnExactReachedBy.j1 kj8 l0 a1 t1861 t1862 t1868 true) else ((laws_eqIntS.f kj8 t1868 t1861).bind fun t1879 => (if t1879 = true then (laws_FnExactReachedBy.j1 kj8 l0 a1 t1861 t1862 t1868 (t1869 != t1862)) else (laws_FnExactReachedBy.j1 kj8 l0 a1 t1861 t1862 t1868 true))))) else (some false))) = some r := H
   have A23 := Aside0.mk A230
   clear A230
   replace H := Option.bind_eq_some_iff.mp H
   obtain ⟨t1876, A240, H⟩ := H
   replace H : (if t1876 = true then ((laws_markHopS.f kj8 t1865 1).bind fun bt1877 => (if bt1877.1 < 0 then (laws_FnExactReachedBy.j1 kj8 l0 a1 t1861 t1862 t1868 true) else ((laws_eqIntS.f kj8 t1868 t1861).bind fun t1879 => (if t1879 = true then (laws_FnExactReachedBy.j1 kj8 l0 a1 t1861 t1862 t1868 (t1869 != t1862)) else (laws_FnExactReachedBy.j1 kj8 l0 a1 t1861 t1862 t1868 true))))) else (some false)) = some r := H
   have A24 := Aside0.mk A240
   clear A240
   by_cases c25 : t1876 = true
   rotate_left
   ·replace c25 := Bool.eq_false_iff.mpr c25
    subst c25
    rw [if_neg (show ¬ (false = true) by decide)] at H
    obtain rfl := Option.some.inj H
    go_wp2_with (first | ((with_reducible refine gate_callee (f := 66) rfl ?_); refine goesL_ (some 47) rfl rfl Try.func66 (by kernel_rfl) rfl #[.slice A0 l0.length c0] rfl tm_ ?_; (with_reducible refine (laws_toHopS.calls kj8 _ _ l0 t1873 _ ?side1 ?side2 A23.out).mono ?_); (case side1 => exact ca (Kd.C_below HR0.out HB.out)); (case side2 => exact HC0.out); rintro e w66 ⟨v1874, rfl, ho0, hb⟩; refine ⟨_, rfl, ?_⟩; have HO1875 := Aside0.mk (Kd.R_lower (Kd.R_new' ho0 (rl_ HO_8)) (below_size (hB HB))); replace HO_6 := rb_ HO_6 hb; replace HO_8 := re_ HO_8 ho0 hb; replace HO_9 := rb_ HO_9 hb; replace HB := bst_ HB hb; clear hb ho0; obtain ⟨Ao67, co67, eo67⟩ := Kd.R_slice HO1875.out; subst eo67) | ((with_reducible refine gate_callee (f := 68) rfl ?_); refine goesL_ (some 48) rfl rfl Try.func68 (by kernel_rfl) rfl #[.slice Ao14 t1865.length co14, .slice Ao67 t1873.length co67] rfl tm_ ?_; (with_reducible refine (laws_eqHopS.calls kj8 _ _ t1865 _ _ t1873 false _ ?side1 ?side2 ?side3 ?side4 A24.out).mono ?_); (case side1 => exact ca (Kd.R_reads' HO_8.out).2.2); (case side2 => exact (Kd.R_reads' HO_8.out).2.1); (case side3 => exact ca (Kd.R_reads' HO1875.out).2.2); (case side4 => exact (Kd.R_reads' HO1875.out).2.1); rintro e w68 ⟨rfl, hb⟩; refine ⟨_, rfl, ?_⟩; replace HO_6 := rb_ HO_6 hb; replace HO_8 := rb_ HO_8 hb; replace HO_9 := rb_ HO_9 hb; replace HO1875 := rb_ HO1875 hb; replace HB := bst_ HB hb; clear hb))
    go_ret
    exact ⟨by first | rfl | (simp [errW_none, errW_some] <;> rfl) | (simp [*, errW_none, errW_some] <;> rfl), by repeat (first | (with_reducible first | exact HB.out | apply below_alloc | apply pw_below_drewN | apply below_drew1) | exact HB.out)⟩
   subst c25
   rw [if_pos rfl] at H
   replace H := Option.bind_eq_some_iff.mp H
   obtain ⟨⟨t1877, t1878⟩, A260, H⟩ := H
   replace H : (if t1877 < 0 then (laws_FnExactReachedBy.j1 kj8 l0 a1 t1861 t1862 t1868 true) else ((laws_eqIntS.f kj8 t1868 t1861).bind fun t1879 => (if t1879 = true then (laws_FnExactReachedBy.j1 kj8 l0 a1 t1861 t1862 t1868 (t1869 != t1862)) else (laws_FnExactReachedBy.j1 kj8 l0 a1 t1861 t1862 t1868 true)))) = some r := H
   have A26 := Aside0.mk A260
   clear A260
   have HC27 := Aside0.mk H
   clear H
   go_upto_region 14 with (first | ((with_reducible refine gate_callee (f := 66) rfl ?_); refine goesL_ (some 47) rfl rfl Try.func66 (by kernel_rfl) rfl #[.slice A0 l0.length c0] rfl tm_ ?_; (with_reducible refine (laws_toHopS.calls kj8 _ _ l0 t1873 _ ?side1 ?side2 A23.out).mono ?_); (case side1 => exact ca (Kd.C_below HR0.out HB.out)); (case side2 => exact HC0.out); rintro e w28 ⟨v1874, rfl, ho0, hb⟩; refine ⟨_, rfl, ?_⟩; have HO1875 := Aside0.mk (Kd.R_lower (Kd.R_new' ho0 (rl_ HO_8)) (below_size (hB HB))); replace HO_6 := rb_ HO_6 hb; replace HO_8 := re_ HO_8 ho0 hb; replace HO_9 := rb_ HO_9 hb; replace HB := bst_ HB hb; clear hb ho0; obtain ⟨Ao29, co29, eo29⟩ := Kd.R_slice HO1875.out; subst eo29) | ((with_reducible refine gate_callee (f := 68) rfl ?_); refine goesL_ (some 48) rfl rfl Try.func68 (by kernel_rfl) rfl #[.slice Ao14 t1865.length co14, .slice Ao29 t1873.length co29] rfl tm_ ?_; (with_reducible refine (laws_eqHopS.calls kj8 _ _ t1865 _ _ t1873 true _ ?side1 ?side2 ?side3 ?side4 A24.out).mono ?_); (case side1 => exact ca (Kd.R_reads' HO_8.out).2.2); (case side2 => exact (Kd.R_reads' HO_8.out).2.1); (case side3 => exact ca (Kd.R_reads' HO1875.out).2.2); (case side4 => exact (Kd.R_reads' HO1875.out).2.1); rintro e w30 ⟨rfl, hb⟩; refine ⟨_, rfl, ?_⟩; replace HO_6 := rb_ HO_6 hb; replace HO_8 := rb_ HO_8 hb; replace HO_9 := rb_ HO_9 hb; replace HO1875 := rb_ HO1875 hb; replace HB := bst_ HB hb; clear hb) | ((with_reducible refine gate_callee (f := 69) rfl ?_); refine goesL_ (some 52) rfl rfl Try.func69 (by kernel_rfl) rfl #[.slice Ao14 t1865.length co14, .int .i64 1] rfl tm_ ?_; (with_reducible refine (laws_markHopS.calls kj8 (fun k_ => some k_ = (.slice Ao14 t1865.length co14 : Value).ownBlock) (.slice Ao14 t1865.length co14) t1865 1 t1877 t1878 w _ ?side1 ?side2 A26.out).mono ?_); (case side1 => repeat (first | (with_reducible first | exact HB.out | apply below_alloc | apply pw_below_drewN | apply below_drew1) | exact HB.out)); (case side2 => exact Kd.R_tight rfl HO_8.out); rintro e w31 ⟨rfl, hy0, hb, hkp⟩; refine ⟨_, rfl, ?_⟩; replace HO_6 := Aside0.mk (Kd.R_mono (ok' := fun k_ => no_ v1870 k_) (Kd.R_keptB ((Kd.R_apart' HO_6.out (Kd.R_typed HO_8.out) (by decide))) hkp (fun k_ hk_ hs_ => (hk_.2) hs_)) (fun k_ hk_ => hk_.1.1)); replace HO_9 := Aside0.mk (Kd.R_mono (ok' := fun k_ => no_ v1863 k_) (Kd.R_keptB ((Kd.R_apart' HO_9.out (Kd.R_typed HO_8.out) (by decide))) hkp (fun k_ hk_ hs_ => (hk_.2) hs_)) (fun k_ hk_ => hk_.1.1)); replace HO_8 := Aside0.mk (Kd.R_reok rfl hy0 (fun k_ e_ => HO_8.out.1 k_ e_)); replace HO1875 := Aside0.mk (Kd.R_mono (ok' := fun k_ => no_ (.slice Ao14 t1865.length co14) k_) (Kd.R_keptB (HO1875.out) hkp (fun k_ hk_ hs_ => (hk_.2) hs_)) (fun k_ hk_ => hk_.1.2)); replace HB := Aside0.mk (hb); clear hb))
   (try simp only [Act.put, List.setIfInBounds_toArray, List.set_cons_zero, List.set_cons_succ])
   go_cut [65] (fun v65 wc => ∃ (kq : Nat) (x65_26 : Bool), v65 = .bool x65_26 ∧ Aside0 (laws_FnExactReachedBy.j1 kq l0 a1 t1861 t1862 t1868 x65_26 = some r) ∧ Aside0 (kq ≤ kj8) ∧ Aside0 (Kd.R (Kd.int .i64) 3 wc w.heap.size (fun k_ => no_ v1870 k_) v1863 t1861) ∧ Aside0 (Kd.R (Kd.int .i64) 3 wc w.heap.size (fun k_ => no_ v1863 k_) v1870 t1868) ∧ Aside0 (Below w.heap.size w wc))
   case first =>
    have H := HC27.out
    clear HC27
    by_cases c32 : t1877 < 0
    ·rw [if_pos c32] at H
     have c32b0 : decide (t1877 < 0) = true := decide_eq_true c32
     clear c32
     (first | rw [c32b0] | (simp only [i64_w, i32_w]; rw [c32b0]) | skip)
     have H' := Aside0.mk H
     clear H
     go_wp2
     go_meet
     case rel => exact ⟨_, (true), (by first | rfl | (simp; done) | (simp [*]; done)), H', ⟨by have := HJ8.out; first | omega | exact Nat.le_refl _⟩, ⟨ra HO_6.out⟩, ⟨ra HO_9.out⟩, ⟨hB HB⟩⟩
    rw [if_neg c32] at H
    have c32b0 : decide (t1877 < 0) = false := decide_eq_false c32
    clear c32
    (first | rw [c32b0] | (simp only [i64_w, i32_w]; rw [c32b0]) | skip)
    replace H := Option.bind_eq_some_iff.mp H
    obtain ⟨t1879, A330, H⟩ := H
    replace H : (if t1879 = true then (laws_FnExactReachedBy.j1 kj8 l0 a1 t1861 t1862 t1868 (t1869 != t1862)) else (laws_FnExactReachedBy.j1 kj8 l0 a1 t1861 t1862 t1868 true)) = some r := H
    have A33 := Aside0.mk A330
    clear A330
    by_cases c34 : t1879 = true
    ·subst c34
     rw [if_pos rfl] at H
     have H' := Aside0.mk H
     clear H
     obtain ⟨Ao35, co35, eo35⟩ := Kd.R_slice HO_9.out
     subst eo35
     obtain ⟨Ao36, co36, eo36⟩ := Kd.R_slice HO_6.out
     subst eo36
     go_wp2_with (first | (go_at_call 19; (with_reducible refine (laws_eqIntS.calls kj8 _ _ t1868 _ _ t1861 true _ ?side1 ?side2 ?side3 ?side4 A33.out).mono ?_); (case side1 => exact ca (Kd.R_reads' HO_9.out).2.2); (case side2 => exact (Kd.R_reads' HO_9.out).2.1); (case side3 => exact ca (Kd.R_reads' HO_6.out).2.2); (case side4 => exact (Kd.R_reads' HO_6.out).2.1); rintro e w' ⟨rfl, ⟨nd, rfl⟩⟩))
     go_meet
     case rel => exact ⟨_, ((t1869 != t1862)), (by first | rfl | (simp; done) | (simp [*]; done)), H', ⟨by have := HJ8.out; first | omega | exact Nat.le_refl _⟩, ⟨ra HO_6.out⟩, ⟨ra HO_9.out⟩, ⟨hB HB⟩⟩
    replace c34 := Bool.eq_false_iff.mpr c34
    subst c34
    rw [if_neg (show ¬ (false = true) by decide)] at H
    have H' := Aside0.mk H
    clear H
    obtain ⟨Ao37, co37, eo37⟩ := Kd.R_slice HO_9.out
    subst eo37
    obtain ⟨Ao38, co38, eo38⟩ := Kd.R_slice HO_6.out
    subst eo38
    go_wp2_with (first | (go_at_call 19; (with_reducible refine (laws_eqIntS.calls kj8 _ _ t1868 _ _ t1861 false _ ?side1 ?side2 ?side3 ?side4 A33.out).mono ?_); (case side1 => exact ca (Kd.R_reads' HO_9.out).2.2); (case side2 => exact (Kd.R_reads' HO_9.out).2.1); (case side3 => exact ca (Kd.R_reads' HO_6.out).2.2); (case side4 => exact (Kd.R_reads' HO_6.out).2.1); rintro e w' ⟨rfl, ⟨nd, rfl⟩⟩))
    go_meet
    case rel => exact ⟨_, (true), (by first | rfl | (simp; done) | (simp [*]; done)), H', ⟨by have := HJ8.out; first | omega | exact Nat.le_refl _⟩, ⟨ra HO_6.out⟩, ⟨ra HO_9.out⟩, ⟨hB HB⟩⟩
   case rest =>
    clear HC27
    try clear c4
    try clear c4b0
    try clear c22
    try clear c25
    obtain ⟨kq, x65_26, rfl, HA, HJ26, HO_6, HO_9, HB⟩ := hcut
    cases kq with
    | zero => exact absurd HA.out (by simp [laws_FnExactReachedBy.j1])
    | succ kj26 =>
     have H := HA.out
     clear HA
     simp only [laws_FnExactReachedBy.j1] at H
     by_cases c39 : x65_26 = true
     ·subst c39
      rw [if_pos rfl] at H
      obtain rfl := Option.some.inj H
      go_wp2
      go_ret
      exact ⟨by first | rfl | (simp [errW_none, errW_some] <;> rfl) | (simp [*, errW_none, errW_some] <;> rfl), by repeat (first | (with_reducible first | exact HB.out | apply below_alloc | apply pw_below_drewN | apply below_drew1) | exact HB.out)⟩
     replace c39 := Bool.eq_false_iff.mpr c39
     subst c39
     rw [if_neg (show ¬ (false = true) by decide)] at H
     replace H := Option.bind_eq_some_iff.mp H
     obtain ⟨⟨t1880, t1881⟩, A400, H⟩ := H
     replace H : ((laws_heldIntS.f kj26 t1881 1).bind fun t1882 => (if t1882 < 0 then (some false) else (if t1882 = t1880 then ((laws_toHopS.f kj26 l0).bind fun t1883 => ((impl_ReachedBy.f kj26 t1883 a1).bind fun bt1886 => ((laws_eqIntS.f kj26 bt1886.1 t1861).bind fun t1890 => (if t1890 = true then (laws_FnExactReachedBy.j2 kj26 t1881 t1880 (bt1886.2 != t1862)) else (laws_FnExactReachedBy.j2 kj26 t1881 t1880 true))))) else (some false)))) = some r := H
     have A40 := Aside0.mk A400
     clear A400
     replace H := Option.bind_eq_some_iff.mp H
     obtain ⟨t1882, A410, H⟩ := H
     replace H : (if t1882 < 0 then (some false) else (if t1882 = t1880 then ((laws_toHopS.f kj26 l0).bind fun t1883 => ((impl_ReachedBy.f kj26 t1883 a1).bind fun bt1886 => ((laws_eqIntS.f kj26 bt1886.1 t1861).bind fun t1890 => (if t1890 = true then (laws_FnExactReachedBy.j2 kj26 t1881 t1880 (bt1886.2 != t1862)) else (laws_FnExactReachedBy.j2 kj26 t1881 t1880 true))))) else (some false))) = some r := H
     have A41 := Aside0.mk A410
     clear A410
     by_cases c42 : t1882 < 0
     ·rw [if_pos c42] at H
      have c42b0 : decide (t1882 < 0) = true := decide_eq_true c42
      clear c42
      obtain rfl := Option.some.inj H
      obtain ⟨Ao43, co43, eo43⟩ := Kd.R_slice HO_9.out
      subst eo43
      go_wp2_with (first | ((with_reducible refine gate_callee (f := 22) rfl ?_); refine goesL_ (some 68) rfl rfl Try.func22 (by kernel_rfl) rfl #[.slice Ao43 t1868.length co43, .int .i64 1] rfl tm_ ?_; (with_reducible refine (laws_markIntS.calls kj26 (fun k_ => some k_ = (.slice Ao43 t1868.length co43 : Value).ownBlock) (.slice Ao43 t1868.length co43) t1868 1 t1880 t1881 w _ ?side1 ?side2 A40.out).mono ?_); (case side1 => repeat (first | (with_reducible first | exact HB.out | apply below_alloc | apply pw_below_drewN | apply below_drew1) | exact HB.out)); (case side2 => exact Kd.R_tight rfl HO_9.out); rintro e w44 ⟨rfl, hy0, hb, hkp⟩; refine ⟨_, rfl, ?_⟩; replace HO_6 := Aside0.mk (Kd.R_mono (ok' := fun k_ => no_ (.slice Ao43 t1868.length co43) k_) (Kd.R_keptB (HO_6.out) hkp (fun k_ hk_ hs_ => (hk_) hs_)) (fun k_ hk_ => hk_.1)); replace HO_9 := Aside0.mk (Kd.R_reok rfl hy0 (fun k_ e_ => HO_9.out.1 k_ e_)); replace HB := Aside0.mk (hb); clear hb) | ((with_reducible refine gate_callee (f := 23) rfl ?_); refine goesL_ (some 71) rfl rfl Try.func23 (by kernel_rfl) rfl #[.slice Ao43 t1881.length co43, .int .i64 1] rfl (by (try simp only [List.map_toArray, List.map_cons, List.map_nil]); first | done | (rw [show t1881.length = t1868.length from (Kd.R_reads' HO_9.out).1.symm] <;> rfl) | rfl | (simp only [List.length_drop, List.length_take]; rfl)) ?_; (with_reducible refine (laws_heldIntS.calls kj26 _ _ t1881 1 t1882 _ ?side1 ?side2 A41.out).mono ?_); (case side1 => exact ca (Kd.R_reads' HO_9.out).2.2); (case side2 => rw [show t1881.length = t1868.length from (Kd.R_reads' HO_9.out).1.symm]; exact (Kd.R_reads' HO_9.out).2.1); rintro e w' ⟨rfl, ⟨nd, rfl⟩⟩; refine ⟨_, rfl, ?_⟩))
      go_ret
      exact ⟨by first | rfl | (simp [errW_none, errW_some] <;> rfl) | (simp [*, errW_none, errW_some] <;> rfl), by repeat (first | (with_reducible first | exact HB.out | apply below_alloc | apply pw_below_drewN | apply below_drew1) | exact HB.out)⟩
     rw [if_neg c42] at H
     have c42b0 : decide (t1882 < 0) = false := decide_eq_false c42
     clear c42
     by_cases c45 : t1882 = t1880
     rotate_left
     ·rw [if_neg c45] at H
      have c45b0 : (t1882 == t1880) = false := beq_eq_false_iff_ne.mpr c45
      have c45b1 : (t1882 != t1880) = true := bne_iff_ne.mpr c45
      obtain rfl := Option.some.inj H
      obtain ⟨Ao64, co64, eo64⟩ := Kd.R_slice HO_9.out
      subst eo64
      go_wp2_with (first | ((with_reducible refine gate_callee (f := 22) rfl ?_); refine goesL_ (some 68) rfl rfl Try.func22 (by kernel_rfl) rfl #[.slice Ao64 t1868.length co64, .int .i64 1] rfl tm_ ?_; (with_reducible refine (laws_markIntS.calls kj26 (fun k_ => some k_ = (.slice Ao64 t1868.length co64 : Value).ownBlock) (.slice Ao64 t1868.length co64) t1868 1 t1880 t1881 w _ ?side1 ?side2 A40.out).mono ?_); (case side1 => repeat (first | (with_reducible first | exact HB.out | apply below_alloc | apply pw_below_drewN | apply below_drew1) | exact HB.out)); (case side2 => exact Kd.R_tight rfl HO_9.out); rintro e w65 ⟨rfl, hy0, hb, hkp⟩; refine ⟨_, rfl, ?_⟩; replace HO_6 := Aside0.mk (Kd.R_mono (ok' := fun k_ => no_ (.slice Ao64 t1868.length co64) k_) (Kd.R_keptB (HO_6.out) hkp (fun k_ hk_ hs_ => (hk_) hs_)) (fun k_ hk_ => hk_.1)); replace HO_9 := Aside0.mk (Kd.R_reok rfl hy0 (fun k_ e_ => HO_9.out.1 k_ e_)); replace HB := Aside0.mk (hb); clear hb) | ((with_reducible refine gate_callee (f := 23) rfl ?_); refine goesL_ (some 71) rfl rfl Try.func23 (by kernel_rfl) rfl #[.slice Ao64 t1881.length co64, .int .i64 1] rfl (by (try simp only [List.map_toArray, List.map_cons, List.map_nil]); first | done | (rw [show t1881.length = t1868.length from (Kd.R_reads' HO_9.out).1.symm] <;> rfl) | rfl | (simp only [List.length_drop, List.length_take]; rfl)) ?_; (with_reducible refine (laws_heldIntS.calls kj26 _ _ t1881 1 t1882 _ ?side1 ?side2 A41.out).mono ?_); (case side1 => exact ca (Kd.R_reads' HO_9.out).2.2); (case side2 => rw [show t1881.length = t1868.length from (Kd.R_reads' HO_9.out).1.symm]; exact (Kd.R_reads' HO_9.out).2.1); rintro e w' ⟨rfl, ⟨nd, rfl⟩⟩; refine ⟨_, rfl, ?_⟩))
      go_ret
      exact ⟨by first | rfl | (simp [errW_none, errW_some] <;> rfl) | (simp [*, errW_none, errW_some] <;> rfl), by repeat (first | (with_reducible first | exact HB.out | apply below_alloc | apply pw_below_drewN | apply below_drew1) | exact HB.out)⟩
     rw [if_pos c45] at H
     have c45b0 : (t1882 == t1880) = true := beq_iff_eq.mpr c45
     have c45b1 : (t1882 != t1880) = false := bne_eq_false_iff_eq.mpr c45
     clear c45
     replace H := Option.bind_eq_some_iff.mp H
     obtain ⟨t1883, A460, H⟩ := H
     replace H : ((impl_ReachedBy.f kj26 t1883 a1).bind fun bt1886 => ((laws_eqIntS.f kj26 bt1886.1 t1861).bind fun t1890 => (if t1890 = true then (laws_FnExactReachedBy.j2 kj26 t1881 t1880 (bt1886.2 != t1862)) else (laws_FnExactReachedBy.j2 kj26 t1881 t1880 true)))) = some r := H
     have A46 := Aside0.mk A460
     clear A460
     replace H := Option.bind_eq_some_iff.mp H
     obtain ⟨⟨t1886, t1887⟩, A470, H⟩ := H
     replace H : ((laws_eqIntS.f kj26 t1886 t1861).bind fun t1890 => (if t1890 = true then (laws_FnExactReachedBy.j2 kj26 t1881 t1880 (t1887 != t1862)) else (laws_FnExactReachedBy.j2 kj26 t1881 t1880 true))) = some r := H
     have A47 := Aside0.mk A470
     clear A470
     have HC48 := Aside0.mk H
     clear H
     obtain ⟨Ao49, co49, eo49⟩ := Kd.R_slice HO_9.out
     subst eo49
     go_upto_region 25 with (first | ((with_reducible refine gate_callee (f := 22) rfl ?_); refine goesL_ (some 68) rfl rfl Try.func22 (by kernel_rfl) rfl #[.slice Ao49 t1868.length co49, .int .i64 1] rfl tm_ ?_; (with_reducible refine (laws_markIntS.calls kj26 (fun k_ => some k_ = (.slice Ao49 t1868.length co49 : Value).ownBlock) (.slice Ao49 t1868.length co49) t1868 1 t1880 t1881 w _ ?side1 ?side2 A40.out).mono ?_); (case side1 => repeat (first | (with_reducible first | exact HB.out | apply below_alloc | apply pw_below_drewN | apply below_drew1) | exact HB.out)); (case side2 => exact Kd.R_tight rfl HO_9.out); rintro e w50 ⟨rfl, hy0, hb, hkp⟩; refine ⟨_, rfl, ?_⟩; replace HO_6 := Aside0.mk (Kd.R_mono (ok' := fun k_ => no_ (.slice Ao49 t1868.length co49) k_) (Kd.R_keptB (HO_6.out) hkp (fun k_ hk_ hs_ => (hk_) hs_)) (fun k_ hk_ => hk_.1)); replace HO_9 := Aside0.mk (Kd.R_reok rfl hy0 (fun k_ e_ => HO_9.out.1 k_ e_)); replace HB := Aside0.mk (hb); clear hb) | ((with_reducible refine gate_callee (f := 23) rfl ?_); refine goesL_ (some 71) rfl rfl Try.func23 (by kernel_rfl) rfl #[.slice Ao49 t1881.length co49, .int .i64 1] rfl (by (try simp only [List.map_toArray, List.map_cons, List.map_nil]); first | done | (rw [show t1881.length = t1868.length from (Kd.R_reads' HO_9.out).1.symm] <;> rfl) | rfl | (simp only [List.length_drop, List.length_take]; rfl)) ?_; (with_reducible refine (laws_heldIntS.calls kj26 _ _ t1881 1 t1882 _ ?side1 ?side2 A41.out).mono ?_); (case side1 => exact ca (Kd.R_reads' HO_9.out).2.2); (case side2 => rw [show t1881.length = t1868.length from (Kd.R_reads' HO_9.out).1.symm]; exact (Kd.R_reads' HO_9.out).2.1); rintro e w' ⟨rfl, ⟨nd, rfl⟩⟩; refine ⟨_, rfl, ?_⟩) | ((with_reducible refine gate_callee (f := 66) rfl ?_); refine goesL_ (some 79) rfl rfl Try.func66 (by kernel_rfl) rfl #[.slice A0 l0.length c0] rfl tm_ ?_; (with_reducible refine (laws_toHopS.calls kj26 _ _ l0 t1883 _ ?side1 ?side2 A46.out).mono ?_); (case side1 => exact ca (Kd.C_below HR0.out (hB HB))); (case side2 => exact HC0.out); rintro e w51 ⟨v1884, rfl, ho0, hb⟩; refine ⟨_, rfl, ?_⟩; have HO1885 := Aside0.mk (Kd.R_lower ho0 (below_size (hB HB))); replace HO_6 := rb_ HO_6 hb; replace HO_9 := rb_ HO_9 hb; replace HB := bst_ HB hb; clear hb ho0; obtain ⟨Ao52, co52, eo52⟩ := Kd.R_slice HO1885.out; subst eo52) | ((with_reducible refine gate_callee (f := 67) rfl ?_); refine goesL_ (some 81) rfl rfl Try.func67 (by kernel_rfl) rfl #[.slice Ao52 t1883.length co52, .int .i64 a1] rfl tm_ ?_; (with_reducible refine (impl_ReachedBy.calls kj26 _ _ t1883 a1 t1886 t1887 _ ?side1 ?side2 A47.out).mono ?_); (case side1 => exact ca (Kd.R_reads' HO1885.out).2.2); (case side2 => exact (Kd.R_reads' HO1885.out).2.1); rintro e w53 ⟨v1888, rfl, ho0, hb⟩; refine ⟨_, rfl, ?_⟩; have HO1889 := Aside0.mk (Kd.R_lower (Kd.R_new' (Kd.R_new' ho0 (rl_ HO_6)) (rl_ HO_9)) (below_size (hB HB))); replace HO_6 := re_ HO_6 ho0 hb; replace HO_9 := re_ HO_9 ho0 hb; replace HO1885 := rb_ HO1885 hb; replace HB := bst_ HB hb; clear hb ho0))
     (try simp only [Act.put, List.setIfInBounds_toArray, List.set_cons_zero, List.set_cons_succ])
     go_cut [92] (fun v92 wc => ∃ (kq : Nat) (x92_47 : Bool), v92 = .bool x92_47 ∧ Aside0 (laws_FnExactReachedBy.j2 kq t1881 t1880 x92_47 = some r) ∧ Aside0 (kq ≤ kj26) ∧ Aside0 (Kd.R (Kd.int .i64) 3 wc w.heap.size (fun _ => True) (.slice Ao49 t1868.length co49) t1881) ∧ Aside0 (Below w.heap.size w wc))
     case first =>
      have H := HC48.out
      clear HC48
      replace H := Option.bind_eq_some_iff.mp H
      obtain ⟨t1890, A540, H⟩ := H
      replace H : (if t1890 = true then (laws_FnExactReachedBy.j2 kj26 t1881 t1880 (t1887 != t1862)) else (laws_FnExactReachedBy.j2 kj26 t1881 t1880 true)) = some r := H
      have A54 := Aside0.mk A540
      clear A540
      by_cases c55 : t1890 = true
      ·subst c55
       rw [if_pos rfl] at H
       have H' := Aside0.mk H
       clear H
       obtain ⟨Ao56, co56, eo56⟩ := Kd.R_slice HO1889.out
       subst eo56
       obtain ⟨Ao57, co57, eo57⟩ := Kd.R_slice HO_6.out
       subst eo57
       go_wp2_with (first | ((with_reducible refine gate_callee (f := 19) rfl ?_); refine goesL_ (some 86) rfl rfl Try.func19 (by kernel_rfl) rfl #[.slice Ao56 t1886.length co56, .slice Ao57 t1861.length co57] rfl tm_ ?_; (with_reducible refine (laws_eqIntS.calls kj26 _ _ t1886 _ _ t1861 true _ ?side1 ?side2 ?side3 ?side4 A54.out).mono ?_); (case side1 => exact ca (Kd.R_reads' HO1889.out).2.2); (case side2 => exact (Kd.R_reads' HO1889.out).2.1); (case side3 => exact ca (Kd.R_reads' HO_6.out).2.2); (case side4 => exact (Kd.R_reads' HO_6.out).2.1); rintro e w' ⟨rfl, ⟨nd, rfl⟩⟩; refine ⟨_, rfl, ?_⟩))
       go_meet
       case rel => exact ⟨_, ((t1887 != t1862)), (by first | rfl | (simp; done) | (simp [*]; done)), H', ⟨by have := HJ8.out; have := HJ26.out; first | omega | exact Nat.le_refl _⟩, rm_ HO_9 (fun _ hk => trivial), ⟨hB HB⟩⟩
      replace c55 := Bool.eq_false_iff.mpr c55
      subst c55
      rw [if_neg (show ¬ (false = true) by decide)] at H
      have H' := Aside0.mk H
      clear H
      obtain ⟨Ao58, co58, eo58⟩ := Kd.R_slice HO1889.out
      subst eo58
      obtain ⟨Ao59, co59, eo59⟩ := Kd.R_slice HO_6.out
      subst eo59
      go_wp2_with (first | ((with_reducible refine gate_callee (f := 19) rfl ?_); refine goesL_ (some 86) rfl rfl Try.func19 (by kernel_rfl) rfl #[.slice Ao58 t1886.length co58, .slice Ao59 t1861.length co59] rfl tm_ ?_; (with_reducible refine (laws_eqIntS.calls kj26 _ _ t1886 _ _ t1861 false _ ?side1 ?side2 ?side3 ?side4 A54.out).mono ?_); (case side1 => exact ca (Kd.R_reads' HO1889.out).2.2); (case side2 => exact (Kd.R_reads' HO1889.out).2.1); (case side3 => exact ca (Kd.R_reads' HO_6.out).2.2); (case side4 => exact (Kd.R_reads' HO_6.out).2.1); rintro e w' ⟨rfl, ⟨nd, rfl⟩⟩; refine ⟨_, rfl, ?_⟩))
      go_meet
      case rel => exact ⟨_, (true), (by first | rfl | (simp; done) | (simp [*]; done)), H', ⟨by have := HJ8.out; have := HJ26.out; first | omega | exact Nat.le_refl _⟩, rm_ HO_9 (fun _ hk => trivial), ⟨hB HB⟩⟩
     case rest =>
      clear HC48
      try clear c4
      try clear c4b0
      try clear c22
      try clear c25
      try clear c39
      try clear c42
      try clear c42b0
      try clear c45
      try clear c45b0
      try clear c45b1
      obtain ⟨kq, x92_47, rfl, HA, HJ47, HO_9, HB⟩ := hcut
      have hl9_47 := (Kd.R_reads' HO_9.out).1
      rw [hl9_47] at HO_9
      (try simp only [hl9_47])
      cases kq with
      | zero => exact absurd HA.out (by simp [laws_FnExactReachedBy.j2])
      | succ kj47 =>
       have H := HA.out
       clear HA
       simp only [laws_FnExactReachedBy.j2] at H
       by_cases c60 : x92_47 = true
       ·subst c60
        rw [if_pos rfl] at H
        obtain rfl := Option.some.inj H
        go_wp2
        go_ret
        exact ⟨by first | rfl | (simp [errW_none, errW_some] <;> rfl) | (simp [*, errW_none, errW_some] <;> rfl), by repeat (first | (with_reducible first | exact HB.out | apply below_alloc | apply pw_below_drewN | apply below_drew1) | exact HB.out)⟩
       replace c60 := Bool.eq_false_iff.mpr c60
       subst c60
       rw [if_neg (show ¬ (false = true) by decide)] at H
       replace H := Option.bind_eq_some_iff.mp H
       obtain ⟨t1891, A610, H⟩ := H
       replace H : (if t1891 < 0 then (some false) else (if t1891 = t1880 then (some true) else (some false))) = some r := H
       have A61 := Aside0.mk A610
       clear A610
       by_cases c62 : t1891 < 0
       ·rw [if_pos c62] at H
        have c62b0 : decide (t1891 < 0) = true := decide_eq_true c62
        clear c62
        obtain rfl := Option.some.inj H
        go_wp2_with (first | ((with_reducible refine gate_callee (f := 23) rfl ?_); refine goesL_ (some 95) rfl rfl Try.func23 (by kernel_rfl) rfl #[.slice Ao49 t1881.length co49, .int .i64 1] rfl tm_ ?_; (with_reducible refine (laws_heldIntS.calls kj47 _ _ t1881 1 t1891 _ ?side1 ?side2 A61.out).mono ?_); (case side1 => exact ca (Kd.R_reads' HO_9.out).2.2); (case side2 => exact (Kd.R_reads' HO_9.out).2.1); rintro e w' ⟨rfl, ⟨nd, rfl⟩⟩; refine ⟨_, rfl, ?_⟩))
        go_ret
        exact ⟨by first | rfl | (simp [errW_none, errW_some] <;> rfl) | (simp [*, errW_none, errW_some] <;> rfl), by repeat (first | (with_reducible first | exact HB.out | apply below_alloc | apply pw_below_drewN | apply below_drew1) | exact HB.out)⟩
       rw [if_neg c62] at H
       have c62b0 : decide (t1891 < 0) = false := decide_eq_false c62
       clear c62
       by_cases c63 : t1891 = t1880
       rotate_left
       ·rw [if_neg c63] at H
        have c63b0 : (t1891 == t1880) = false := beq_eq_false_iff_ne.mpr c63
        have c63b1 : (t1891 != t1880) = true := bne_iff_ne.mpr c63
        obtain rfl := Option.some.inj H
        go_wp2_with (first | ((with_reducible refine gate_callee (f := 23) rfl ?_); refine goesL_ (some 95) rfl rfl Try.func23 (by kernel_rfl) rfl #[.slice Ao49 t1881.length co49, .int .i64 1] rfl tm_ ?_; (with_reducible refine (laws_heldIntS.calls kj47 _ _ t1881 1 t1891 _ ?side1 ?side2 A61.out).mono ?_); (case side1 => exact ca (Kd.R_reads' HO_9.out).2.2); (case side2 => exact (Kd.R_reads' HO_9.out).2.1); rintro e w' ⟨rfl, ⟨nd, rfl⟩⟩; refine ⟨_, rfl, ?_⟩))
        go_ret
        exact ⟨by first | rfl | (simp [errW_none, errW_some] <;> rfl) | (simp [*, errW_none, errW_some] <;> rfl), by repeat (first | (with_reducible first | exact HB.out | apply below_alloc | apply pw_below_drewN | apply below_drew1) | exact HB.out)⟩
       rw [if_pos c63] at H
       have c63b0 : (t1891 == t1880) = true := beq_iff_eq.mpr c63
       have c63b1 : (t1891 != t1880) = false := bne_eq_false_iff_eq.mpr c63
       clear c63
       obtain rfl := Option.some.inj H
       go_wp2_with (first | ((with_reducible refine gate_callee (f := 23) rfl ?_); refine goesL_ (some 95) rfl rfl Try.func23 (by kernel_rfl) rfl #[.slice Ao49 t1881.length co49, .int .i64 1] rfl tm_ ?_; (with_reducible refine (laws_heldIntS.calls kj47 _ _ t1881 1 t1891 _ ?side1 ?side2 A61.out).mono ?_); (case side1 => exact ca (Kd.R_reads' HO_9.out).2.2); (case side2 => exact (Kd.R_reads' HO_9.out).2.1); rintro e w' ⟨rfl, ⟨nd, rfl⟩⟩; refine ⟨_, rfl, ?_⟩))
       go_ret
       exact ⟨by first | rfl | (simp [errW_none, errW_some] <;> rfl) | (simp [*, errW_none, errW_some] <;> rfl), by repeat (first | (with_reducible first | exact HB.out | apply below_alloc | apply pw_below_drewN | apply below_drew1) | exact HB.out)⟩

end Go.Proofs.Ytolncjkfcmbieaa.P
