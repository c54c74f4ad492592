import Derived.Lib.LazyBuf
import Derived.Test.YtnoklicihomfoaaF0
namespace Go.Proofs.Ytnoklicihomfoaa.P
open Go.RowKit Go.Proofs.YtnoklicihomfoaaW.PrintWords Go.Proofs.YtnoklicihomfoaaW.PrintLast Go.Proofs.YtnoklicihomfoaaW.PrintMore
attribute [local go_sem] max2_int min2_int max_two min_two max_three min_three max_four min_four   -- for this text's walks alone
set_option linter.unusedVariables false
set_option linter.unusedSimpArgs false

def impl_cost.l0 : Nat → Int → Int → List (S84) → Int → Int → Option (Int)
 | 0, _, _, _, _, _ => none
 | k + 1, x1, x2, x9, x10, x11 => if x11 < x10 then (if 0 ≤ x11 then (if x11 < (x9.length : Int) then (if ((rd_T84 x9 x11).f0) = (mn x1 x2) then (if ((rd_T84 x9 x11).f1) = (mx x1 x2) then (some ((rd_T84 x9 x11).f2)) else (impl_cost.l0 k x1 x2 x9 x10 (wrap64 (x11 + 1)))) else (impl_cost.l0 k x1 x2 x9 x10 (wrap64 (x11 + 1)))) else (none)) else (none)) else (some 0)
def impl_cost.f (k : Nat) (l0 : List (S84)) (a1 : Int) (a2 : Int) : Option (Int) := impl_cost.l0 k a1 a2 l0 (l0.length : Int) 0
theorem impl_cost.mono_l : ∀ k, (∀ y0 y1 y2 y3 y4, LeO (impl_cost.l0 k y0 y1 y2 y3 y4) (impl_cost.l0 (k + 1) y0 y1 y2 y3 y4))
 | 0 => fun _ _ _ _ _ r h => by simp [impl_cost.l0] at h
 | k + 1 => by
  have ih0 := impl_cost.mono_l k
  ·intro y0 y1 y2 y3 y4
   unfold impl_cost.l0
   repeat' first
   | (with_reducible exact ih0 _ _ _ _ _)
   | (with_reducible exact LeO.refl _)
   | (with_reducible exact LeO.none _)
   | (with_reducible refine LeO.ite ?_ ?_)
   | (with_reducible refine LeO.bind ?_ (fun _ => ?_))
   | exact ih0 _ _ _ _ _
   | exact LeO.none _
   | refine LeO.ite ?_ ?_
   | refine LeO.bind ?_ (fun _ => ?_)
theorem impl_cost.mono : ∀ a0 a1 a2 k, LeO (impl_cost.f k a0 a1 a2) (impl_cost.f (k + 1) a0 a1 a2) := by
 intro a0 a1 a2 k
 have ih0 := impl_cost.mono_l k
 unfold impl_cost.f
 repeat' first
   | (with_reducible exact ih0 _ _ _ _ _)
   | (with_reducible exact LeO.refl _)
   | (with_reducible exact LeO.none _)
   | (with_reducible refine LeO.ite ?_ ?_)
   | (with_reducible refine LeO.bind ?_ (fun _ => ?_))
   | exact ih0 _ _ _ _ _
   | exact LeO.none _
   | refine LeO.ite ?_ ?_
   | refine LeO.bind ?_ (fun _ => ?_)
set_option maxHeartbeats 8000000 in
set_option maxRecDepth 100000 in
theorem impl_cost.calls (k : Nat) (A0 : Option Addr) (c0 : Nat) (l0 : List (S84)) (a1 : Int) (a2 : Int) (r : Int) (w : World) (hr0 : Kd.C k84 w A0 l0.length l0) (hc0 : l0.length ≤ c0) (h : impl_cost.f k l0 a1 a2 = some r) :
  Calls Try.prog 111 #[.slice A0 l0.length c0, .int .i64 a1, .int .i64 a2] w fun e w' => e = .returned (.int .i64 r) ∧ Below w.heap.size w w' := by
 have hu84 := Try.underlying84
 have HR0 := Aside0.mk hr0
 have HC0 := Aside0.mk hc0
 clear hr0 hc0
 have HB := Aside0.mk (Below.refl w.heap.size w)
 have H : (impl_cost.l0 k a1 a2 l0 (l0.length : Int) 0) = some r := h
 clear h
 have H' := Aside0.mk H
 clear H
 go_enter Try.func111, Try.ntmps111
 go_wp2
 go_loopg [11] k (fun kq v11 w' => ∃ (x11_1 : Int), v11 = .int .i64 x11_1 ∧ Aside0 (impl_cost.l0 kq a1 a2 l0 (l0.length : Int) x11_1 = some r) ∧ Aside0 (kq ≤ k) ∧ Aside0 (Below w.heap.size w w'))
 case atStart => exact ⟨(0), (by first | rfl | (simp; done) | (simp [*]; done)), H', ⟨Nat.le_refl _⟩, ⟨by repeat (first | (with_reducible first | exact HB.out | apply below_alloc | apply pw_below_drewN | apply below_drew1) | exact HB.out)⟩⟩
 case round =>
  clear H'
  try clear c1
  try clear p2
  obtain ⟨x11_1, rfl, HA, HK1, HB⟩ := hrel
  cases gk with
  | zero => exact absurd HA.out (by simp [impl_cost.l0])
  | succ k1 =>
   have H := HA.out
   clear HA
   simp only [impl_cost.l0] at H
   by_cases c4 : x11_1 < (l0.length : Int)
   ·rw [if_pos c4] at H
    have c4b0 : decide (x11_1 < (l0.length : Int)) = true := decide_eq_true c4
    clear c4
    by_cases c5 : 0 ≤ x11_1
    ·rw [if_pos c5] at H
     have c5b0 : decide (0 ≤ x11_1) = true := decide_eq_true c5
     clear c5
     by_cases c6 : x11_1 < (l0.length : Int)
     ·rw [if_pos c6] at H
      have c6b0 : decide (x11_1 < (l0.length : Int)) = true := decide_eq_true c6
      clear c6
      obtain ⟨ji7, hji7⟩ : ∃ j_ : Int, (mn a1 a2) = j_ := ⟨_, rfl⟩
      replace H : (if ((rd_T84 l0 x11_1).f0) = (ji7) then (if ((rd_T84 l0 x11_1).f1) = (mx a1 a2) then (some ((rd_T84 l0 x11_1).f2)) else (impl_cost.l0 k1 a1 a2 l0 (l0.length : Int) (wrap64 (x11_1 + 1)))) else (impl_cost.l0 k1 a1 a2 l0 (l0.length : Int) (wrap64 (x11_1 + 1)))) = some r := by first | (rw [hji7] at H; exact H) | (simp only [hji7] at H ⊢; exact H)
      have hji7_ : (if a2 < a1 then a2 else a1) = ji7 := hji7
      by_cases c8 : ((rd_T84 l0 x11_1).f0) = (ji7)
      ·rw [if_pos c8] at H
       have c8b0 : (((rd_T84 l0 x11_1).f0) == (ji7)) = true := beq_iff_eq.mpr c8
       have c8b1 : (((rd_T84 l0 x11_1).f0) != (ji7)) = false := bne_eq_false_iff_eq.mpr c8
       clear c8
       obtain ⟨ji9, hji9⟩ : ∃ j_ : Int, (mx a1 a2) = j_ := ⟨_, rfl⟩
       replace H : (if ((rd_T84 l0 x11_1).f1) = (ji9) then (some ((rd_T84 l0 x11_1).f2)) else (impl_cost.l0 k1 a1 a2 l0 (l0.length : Int) (wrap64 (x11_1 + 1)))) = some r := by first | (rw [hji9] at H; exact H) | (simp only [hji9] at H ⊢; exact H)
       have hji9_ : (if a1 < a2 then a2 else a1) = ji9 := hji9
       by_cases c10 : ((rd_T84 l0 x11_1).f1) = (ji9)
       ·rw [if_pos c10] at H
        have c10b0 : (((rd_T84 l0 x11_1).f1) == (ji9)) = true := beq_iff_eq.mpr c10
        have c10b1 : (((rd_T84 l0 x11_1).f1) != (ji9)) = false := bne_eq_false_iff_eq.mpr c10
        clear c10
        obtain rfl := Option.some.inj H
        have p415 : 0 ≤ (x11_1 : Int) := of_decide_eq_true (by first | (with_reducible assumption) | assumption)
        have q415 : x11_1 < (l0.length : Int) := of_decide_eq_true (by first | (with_reducible assumption) | assumption)
        obtain ⟨ad415, e415, hx415_0, hx415_1, hx415_2⟩ := at_T84 HR0.out x11_1 p415 q415
        cases e415
        replace hx415_0 := (HB.out.cell (World.block_lt_of_cell? w _ hx415_0)).trans hx415_0
        replace hx415_1 := (HB.out.cell (World.block_lt_of_cell? w _ hx415_1)).trans hx415_1
        replace hx415_2 := (HB.out.cell (World.block_lt_of_cell? w _ hx415_2)).trans hx415_2
        replace p415 := eq_true p415
        replace q415 := eq_true q415
        go_wp2_with (first | ((with_reducible refine gate_dst (N := 8) rfl ?_); (try (refine gate_guard (by rfl) ?_; dsimp only)); refine box_event ?hg (N := 8) ?hd (cs := #[.int .i64 0, .int .i64 0, .int .i64 0]) (t := 84) ?hr ?_; (case hd => rfl); (case hg => rfl); (case hr => first | (go_simp; done) | (go_simp; rfl)); intro gb416 hg w11 hbox hb; have n0_ := Aside0.mk (below_step (by repeat (first | (with_reducible first | exact HB.out | apply below_alloc | apply pw_below_drewN | apply below_drew1) | exact HB.out)) hb); have n1_ := Aside0.mk (hbox); have n2_ := Aside0.mk ((by rw [hg]; exact (below_size (by repeat (first | (with_reducible first | exact HB.out | apply below_alloc | apply pw_below_drewN | apply below_drew1) | exact HB.out))) : w.heap.size ≤ gb416)); have n3_ := Aside0.mk ((by rw [hg]; exact (below_size (by repeat (first | (with_reducible first | exact HB.out | apply below_alloc | apply pw_below_drewN | apply below_drew1) | exact HB.out))) : w.heap.size ≤ gb416)); clear HB; have HB := n0_; have BK416 := n1_; have GW416 := n2_; have GE416 := n3_; clear n0_ n1_ n2_ n3_; clear hb hbox hg; have hcz12_0 : w11.cell? ⟨gb416, 0, none⟩ = some (.int .i64 0) := (blk_cell BK416.out 0).trans rfl; have hcz12_1 : w11.cell? ⟨gb416, 1, none⟩ = some (.int .i64 0) := (blk_cell BK416.out 1).trans rfl; have hcz12_2 : w11.cell? ⟨gb416, 2, none⟩ = some (.int .i64 0) := (blk_cell BK416.out 2).trans rfl; have hfz12_0 := blk_frozen BK416.out 0; have hfz12_1 := blk_frozen BK416.out 1; have hfz12_2 := blk_frozen BK416.out 2))
        go_ret
        exact ⟨by first | rfl | (simp [errW_none, errW_some] <;> rfl) | (simp only [← hji7, ← hji9]; first | rfl | (simp [errW_none, errW_some] <;> rfl)) | (simp [*, errW_none, errW_some] <;> rfl), by repeat (first | (with_reducible first | exact HB.out | apply below_alloc | apply pw_below_drewN | apply below_drew1 | refine below_set ?_ GE416.out) | exact HB.out)⟩
       ·rw [if_neg c10] at H
        have c10b0 : (((rd_T84 l0 x11_1).f1) == (ji9)) = false := beq_eq_false_iff_ne.mpr c10
        have c10b1 : (((rd_T84 l0 x11_1).f1) != (ji9)) = true := bne_iff_ne.mpr c10
        have H' := Aside0.mk H
        clear H
        have p415 : 0 ≤ (x11_1 : Int) := of_decide_eq_true (by first | (with_reducible assumption) | assumption)
        have q415 : x11_1 < (l0.length : Int) := of_decide_eq_true (by first | (with_reducible assumption) | assumption)
        obtain ⟨ad415, e415, hx415_0, hx415_1, hx415_2⟩ := at_T84 HR0.out x11_1 p415 q415
        cases e415
        replace hx415_0 := (HB.out.cell (World.block_lt_of_cell? w _ hx415_0)).trans hx415_0
        replace hx415_1 := (HB.out.cell (World.block_lt_of_cell? w _ hx415_1)).trans hx415_1
        replace hx415_2 := (HB.out.cell (World.block_lt_of_cell? w _ hx415_2)).trans hx415_2
        replace p415 := eq_true p415
        replace q415 := eq_true q415
        go_wp2_with (first | ((with_reducible refine gate_dst (N := 8) rfl ?_); (try (refine gate_guard (by rfl) ?_; dsimp only)); refine box_event ?hg (N := 8) ?hd (cs := #[.int .i64 0, .int .i64 0, .int .i64 0]) (t := 84) ?hr ?_; (case hd => rfl); (case hg => rfl); (case hr => first | (go_simp; done) | (go_simp; rfl)); intro gb416 hg w13 hbox hb; have n0_ := Aside0.mk (below_step (by repeat (first | (with_reducible first | exact HB.out | apply below_alloc | apply pw_below_drewN | apply below_drew1) | exact HB.out)) hb); have n1_ := Aside0.mk (hbox); have n2_ := Aside0.mk ((by rw [hg]; exact (below_size (by repeat (first | (with_reducible first | exact HB.out | apply below_alloc | apply pw_below_drewN | apply below_drew1) | exact HB.out))) : w.heap.size ≤ gb416)); have n3_ := Aside0.mk ((by rw [hg]; exact (below_size (by repeat (first | (with_reducible first | exact HB.out | apply below_alloc | apply pw_below_drewN | apply below_drew1) | exact HB.out))) : w.heap.size ≤ gb416)); clear HB; have HB := n0_; have BK416 := n1_; have GW416 := n2_; have GE416 := n3_; clear n0_ n1_ n2_ n3_; clear hb hbox hg; have hcz14_0 : w13.cell? ⟨gb416, 0, none⟩ = some (.int .i64 0) := (blk_cell BK416.out 0).trans rfl; have hcz14_1 : w13.cell? ⟨gb416, 1, none⟩ = some (.int .i64 0) := (blk_cell BK416.out 1).trans rfl; have hcz14_2 : w13.cell? ⟨gb416, 2, none⟩ = some (.int .i64 0) := (blk_cell BK416.out 2).trans rfl; have hfz14_0 := blk_frozen BK416.out 0; have hfz14_1 := blk_frozen BK416.out 1; have hfz14_2 := blk_frozen BK416.out 2))
        go_roundg k1
        case measure => have := HK1.out; omega
        case rel => exact ⟨(wrap64 (x11_1 + 1)), (by first | rfl | (simp; done) | (simp [*]; done)), H', ⟨by have := HK1.out; omega⟩, ⟨by repeat (first | (with_reducible first | exact HB.out | apply below_alloc | apply pw_below_drewN | apply below_drew1 | refine below_set ?_ GE416.out) | exact HB.out)⟩⟩
      ·rw [if_neg c8] at H
       have c8b0 : (((rd_T84 l0 x11_1).f0) == (ji7)) = false := beq_eq_false_iff_ne.mpr c8
       have c8b1 : (((rd_T84 l0 x11_1).f0) != (ji7)) = true := bne_iff_ne.mpr c8
       have H' := Aside0.mk H
       clear H
       have p415 : 0 ≤ (x11_1 : Int) := of_decide_eq_true (by first | (with_reducible assumption) | assumption)
       have q415 : x11_1 < (l0.length : Int) := of_decide_eq_true (by first | (with_reducible assumption) | assumption)
       obtain ⟨ad415, e415, hx415_0, hx415_1, hx415_2⟩ := at_T84 HR0.out x11_1 p415 q415
       cases e415
       replace hx415_0 := (HB.out.cell (World.block_lt_of_cell? w _ hx415_0)).trans hx415_0
       replace hx415_1 := (HB.out.cell (World.block_lt_of_cell? w _ hx415_1)).trans hx415_1
       replace hx415_2 := (HB.out.cell (World.block_lt_of_cell? w _ hx415_2)).trans hx415_2
       replace p415 := eq_true p415
       replace q415 := eq_true q415
       go_wp2_with (first | ((with_reducible refine gate_dst (N := 8) rfl ?_); (try (refine gate_guard (by rfl) ?_; dsimp only)); refine box_event ?hg (N := 8) ?hd (cs := #[.int .i64 0, .int .i64 0, .int .i64 0]) (t := 84) ?hr ?_; (case hd => rfl); (case hg => rfl); (case hr => first | (go_simp; done) | (go_simp; rfl)); intro gb416 hg w15 hbox hb; have n0_ := Aside0.mk (below_step (by repeat (first | (with_reducible first | exact HB.out | apply below_alloc | apply pw_below_drewN | apply below_drew1) | exact HB.out)) hb); have n1_ := Aside0.mk (hbox); have n2_ := Aside0.mk ((by rw [hg]; exact (below_size (by repeat (first | (with_reducible first | exact HB.out | apply below_alloc | apply pw_below_drewN | apply below_drew1) | exact HB.out))) : w.heap.size ≤ gb416)); have n3_ := Aside0.mk ((by rw [hg]; exact (below_size (by repeat (first | (with_reducible first | exact HB.out | apply below_alloc | apply pw_below_drewN | apply below_drew1) | exact HB.out))) : w.heap.size ≤ gb416)); clear HB; have HB := n0_; have BK416 := n1_; have GW416 := n2_; have GE416 := n3_; clear n0_ n1_ n2_ n3_; clear hb hbox hg; have hcz16_0 : w15.cell? ⟨gb416, 0, none⟩ = some (.int .i64 0) := (blk_cell BK416.out 0).trans rfl; have hcz16_1 : w15.cell? ⟨gb416, 1, none⟩ = some (.int .i64 0) := (blk_cell BK416.out 1).trans rfl; have hcz16_2 : w15.cell? ⟨gb416, 2, none⟩ = some (.int .i64 0) := (blk_cell BK416.out 2).trans rfl; have hfz16_0 := blk_frozen BK416.out 0; have hfz16_1 := blk_frozen BK416.out 1; have hfz16_2 := blk_frozen BK416.out 2))
       go_roundg k1
       case measure => have := HK1.out; omega
       case rel => exact ⟨(wrap64 (x11_1 + 1)), (by first | rfl | (simp; done) | (simp [*]; done)), H', ⟨by have := HK1.out; omega⟩, ⟨by repeat (first | (with_reducible first | exact HB.out | apply below_alloc | apply pw_below_drewN | apply below_drew1 | refine below_set ?_ GE416.out) | exact HB.out)⟩⟩
     ·rw [if_neg c6] at H
      exact absurd H (by simp)
    ·rw [if_neg c5] at H
     exact absurd H (by simp)
   ·rw [if_neg c4] at H
    have c4b0 : decide (x11_1 < (l0.length : Int)) = false := decide_eq_false c4
    clear c4
    obtain rfl := Option.some.inj H
    go_wp2
    go_ret
    exact ⟨by first | rfl | (simp [errW_none, errW_some] <;> rfl) | (simp [*, errW_none, errW_some] <;> rfl), by repeat (first | (with_reducible first | exact HB.out | apply below_alloc | apply pw_below_drewN | apply below_drew1) | exact HB.out)⟩

def impl_Edge.f (l0 : List (S84)) : Option ((List (S84))) := (some (([] : List (S84)) : List (S84))).bind fun y767 => (if y767.length + l0.length < 5864062014805 then (some (y767 ++ l0)) else (none))
set_option maxHeartbeats 8000000 in
set_option maxRecDepth 100000 in
theorem impl_Edge.calls (A0 : Option Addr) (c0 : Nat) (l0 : List (S84)) (r : List (S84)) (w : World) (hr0 : Kd.C k84 w A0 l0.length l0) (hc0 : l0.length ≤ c0) (h : impl_Edge.f l0 = some r) :
  Calls Try.prog 113 #[.slice A0 l0.length c0] w fun e w' => ∃ v0_ : Value, e = .returned (v0_) ∧ Kd.R k84 84 w' w.heap.size (fun _ => True) v0_ r ∧ Below w.heap.size w w' := by
 have hq_ : ∀ (w : World) (a : Option Addr) (l c : Nat), (binOp .eql 25 (.slice a l c) (.slice none 0 0)).run Try.prog w = .ok (.bool a.isNone) w := fun w a l c => Go.run_eql_slice_nil w 25 _ a l c Try.underlying25
 rcases A0 with _ | A0
 ·have hl0 : l0 = [] := by
   cases l0 with
   | nil => rfl
   | cons x t => exact absurd (hr0.2.2 (by simp)) (by simp)
  subst hl0
  obtain rfl : r = [] := by
   have := Option.some.inj ((show some ([] : List _) = some r from by simpa [impl_Edge.f] using h))
   exact this.symm
  go_enter Try.func113, Try.ntmps113
  go_wp2
  go_ret
  exact ⟨_, rfl, Kd.R_nil _ _ _ _ _, Below.refl _ _⟩
 have HR0 := Aside0.mk hr0
 have HC0 := Aside0.mk hc0
 clear hr0 hc0
 have HB := Aside0.mk (Below.refl w.heap.size w)
 have H : ((some (([] : List (S84)) : List (S84))).bind fun y767 => (if y767.length + l0.length < 5864062014805 then (some (y767 ++ l0)) else (none))) = some r := h
 clear h
 obtain ⟨y767, hy767⟩ : ∃ y_ : List (S84), y_ = (([] : List (S84))) := ⟨_, rfl⟩
 replace H : (if y767.length + l0.length < 5864062014805 then (some (y767 ++ l0)) else (none)) = some r := by first | (rw [hy767]; with_reducible exact H) | (have H2_ := (Option.bind_some _ _).symm.trans H; rw [hy767]; with_reducible exact H2_) | (have H2_ := (Option.bind_some _ _).symm.trans H; with_reducible exact H2_) | with_reducible exact H | (rw [hy767]; exact H) | exact H
 have Ny767 := Aside0.mk hy767
 clear hy767
 by_cases c2 : y767.length + l0.length < 5864062014805
 ·rw [if_pos c2] at H
  have LMc2 := Aside0.mk c2
  clear c2
  obtain ⟨y770, hy770⟩ : ∃ y_ : List (S84), y_ = (y767 ++ l0) := ⟨_, rfl⟩
  replace H : (some y770) = some r := by first | (rw [hy770]; with_reducible exact H) | (have H2_ := (Option.bind_some _ _).symm.trans H; rw [hy770]; with_reducible exact H2_) | (have H2_ := (Option.bind_some _ _).symm.trans H; with_reducible exact H2_) | with_reducible exact H | (rw [hy770]; exact H) | exact H
  have Ny770 := Aside0.mk hy770
  clear hy770
  obtain rfl := Option.some.inj H
  go_enter Try.func113, Try.ntmps113
  go_wp2_with (first | ((with_reducible refine gate_dst (N := 5) rfl ?_); refine Kd.R_lit k84 _ 84 ?hg (N := 5) ?hd (xs := ([] : List (S84))) (inner := []) (ok := fun _ => True) (okp := fun _ => True) ?hr ?hp (fun _ hk => hk) trivial (Below.refl _ _) (Nat.le_refl _) (by simp) ?_; (case hd => rfl); (case hg => rfl); (case hr => first | (go_simp; done) | (go_simp; rfl)); (case hp => exact (Reps.none _ _)); intro v768 w3 ho4 hb hg_ hnew_; clear hg_ hnew_; (first | rw [← Ny767.out] at ho4 | (simp only [Int.reduceToNat] at ho4; rw [← Ny767.out] at ho4)); have n0_ := Aside0.mk (Kd.R_lower ho4 (below_size (by repeat (first | (with_reducible first | exact HB.out | apply below_alloc | apply pw_below_drewN | apply below_drew1) | exact HB.out)))); have n1_ := Aside0.mk (below_step (by repeat (first | (with_reducible first | exact HB.out | apply below_alloc | apply pw_below_drewN | apply below_drew1) | exact HB.out)) hb); clear HB; have HO769 := n0_; have HB := n1_; clear n0_ n1_; clear hb ho4) | ((with_reducible refine gate_builtin (b := .append) (xs := #[.tmp 5, .tmp 6]) rfl ?_); at_builtin; refine Kd.R_append_rows k84 (w0 := w) w.heap.size rfl (.tmp 5) (.tmp 6) 25 84 (.agg #[(.int .i64 0), (.int .i64 0), (.int .i64 0)]) 24 rfl Try.underlying25 info84 rfl (by decide) (by omega) v768 y767 l0 _ _ _ (fun _ => True) (fun _ => False) rfl rfl ?aO ?aR (fun _ _ h => h) (fun _ h => h.elim) ?aF ?aB ?aS ?aL ?_; (case aR => repeat (first | exact (Kd.C_below HR0.out HB.out) | (with_reducible refine Kd.C_alloc ?_ _) | (with_reducible refine Kd.C_drewN ?_ _) | (with_reducible refine Kd.C_drew ?_))); (case aB => exact (by repeat (first | (with_reducible first | exact HB.out | apply below_alloc | apply pw_below_drewN | apply below_drew1) | exact HB.out))); (case aF => exact (fun _ _ => trivial)); (case aO => exact (by (with_reducible repeat (first | apply Kd.R_alloc | apply Kd.R_drewN | apply Kd.R_drew)); exact HO769.out)); (case aS => exact (below_size (by repeat (first | (with_reducible first | exact HB.out | apply below_alloc | apply pw_below_drewN | apply below_drew1) | exact HB.out)))); (case aL => have := LMc2.out; omega); intro v771 w5 ho hb hg hat; rw [← Ny770.out] at ho; have n0_ := Aside0.mk (hb); have n1_ := Aside0.mk (ho); clear HB; clear HO769; have HB := n0_; have HO772 := n1_; clear n0_ n1_; clear ho hb hg hat))
  go_ret
  exact ⟨_, by first | rfl | (simp [errW_none, errW_some] <;> rfl) | (simp [*, errW_none, errW_some] <;> rfl), by (with_reducible repeat (first | apply Kd.R_alloc | apply Kd.R_drewN | apply Kd.R_drew)); exact HO772.out, by repeat (first | (with_reducible first | exact HB.out | apply below_alloc | apply pw_below_drewN | apply below_drew1) | exact HB.out)⟩
 ·rw [if_neg c2] at H
  exact absurd H (by simp)

def spec_l9Edge.l0 : Nat → Int → Int → List (S84) → Int → Int → Option (Int)
 | 0, _, _, _, _, _ => none
 | k + 1, x1, x2, x9, x10, x11 => if x11 < x10 then (if 0 ≤ x11 then (if x11 < (x9.length : Int) then (if ((rd_T84 x9 x11).f0) = x1 then (if ((rd_T84 x9 x11).f1) = x2 then (some ((rd_T84 x9 x11).f2)) else (if ((rd_T84 x9 x11).f0) = x2 then (if ((rd_T84 x9 x11).f1) = x1 then (some ((rd_T84 x9 x11).f2)) else (spec_l9Edge.l0 k x1 x2 x9 x10 (wrap64 (x11 + 1)))) else (spec_l9Edge.l0 k x1 x2 x9 x10 (wrap64 (x11 + 1))))) else (if ((rd_T84 x9 x11).f0) = x2 then (if ((rd_T84 x9 x11).f1) = x1 then (some ((rd_T84 x9 x11).f2)) else (spec_l9Edge.l0 k x1 x2 x9 x10 (wrap64 (x11 + 1)))) else (spec_l9Edge.l0 k x1 x2 x9 x10 (wrap64 (x11 + 1))))) else (none)) else (none)) else (some 0)
def spec_l9Edge.f (k : Nat) (l0 : List (S84)) (a1 : Int) (a2 : Int) : Option (Int) := spec_l9Edge.l0 k a1 a2 l0 (l0.length : Int) 0
theorem spec_l9Edge.mono_l : ∀ k, (∀ y0 y1 y2 y3 y4, LeO (spec_l9Edge.l0 k y0 y1 y2 y3 y4) (spec_l9Edge.l0 (k + 1) y0 y1 y2 y3 y4))
 | 0 => fun _ _ _ _ _ r h => by simp [spec_l9Edge.l0] at h
 | k + 1 => by
  have ih0 := spec_l9Edge.mono_l k
  ·intro y0 y1 y2 y3 y4
   unfold spec_l9Edge.l0
   repeat' first
   | (with_reducible exact ih0 _ _ _ _ _)
   | (with_reducible exact LeO.refl _)
   | (with_reducible exact LeO.none _)
   | (with_reducible refine LeO.ite ?_ ?_)
   | (with_reducible refine LeO.bind ?_ (fun _ => ?_))
   | exact ih0 _ _ _ _ _
   | exact LeO.none _
   | refine LeO.ite ?_ ?_
   | refine LeO.bind ?_ (fun _ => ?_)
theorem spec_l9Edge.mono : ∀ a0 a1 a2 k, LeO (spec_l9Edge.f k a0 a1 a2) (spec_l9Edge.f (k + 1) a0 a1 a2) := by
 intro a0 a1 a2 k
 have ih0 := spec_l9Edge.mono_l k
 unfold spec_l9Edge.f
 repeat' first
   | (with_reducible exact ih0 _ _ _ _ _)
   | (with_reducible exact LeO.refl _)
   | (with_reducible exact LeO.none _)
   | (with_reducible refine LeO.ite ?_ ?_)
   | (with_reducible refine LeO.bind ?_ (fun _ => ?_))
   | exact ih0 _ _ _ _ _
   | exact LeO.none _
   | refine LeO.ite ?_ ?_
   | refine LeO.bind ?_ (fun _ => ?_)
set_option maxHeartbeats 8000000 in
set_option maxRecDepth 100000 in
theorem spec_l9Edge.calls (k : Nat) (A0 : Option Addr) (c0 : Nat) (l0 : List (S84)) (a1 : Int) (a2 : Int) (r : Int) (w : World) (hr0 : Kd.C k84 w A0 l0.length l0) (hc0 : l0.length ≤ c0) (h : spec_l9Edge.f k l0 a1 a2 = some r) :
  Calls Try.prog 107 #[.slice A0 l0.length c0, .int .i64 a1, .int .i64 a2] w fun e w' => e = .returned (.int .i64 r) ∧ Below w.heap.size w w' := by
 have hu84 := Try.underlying84
 have HR0 := Aside0.mk hr0
 have HC0 := Aside0.mk hc0
 clear hr0 hc0
 have HB := Aside0.mk (Below.refl w.heap.size w)
 have H : (spec_l9Edge.l0 k a1 a2 l0 (l0.length : Int) 0) = some r := h
 clear h
 have H' := Aside0.mk H
 clear H
 go_enter Try.func107, Try.ntmps107
 go_wp2
 go_loopg [11] k (fun kq v11 w' => ∃ (x11_1 : Int), v11 = .int .i64 x11_1 ∧ Aside0 (spec_l9Edge.l0 kq a1 a2 l0 (l0.length : Int) x11_1 = some r) ∧ Aside0 (kq ≤ k) ∧ Aside0 (Below w.heap.size w w'))
 case atStart => exact ⟨(0), (by first | rfl | (simp; done) | (simp [*]; done)), H', ⟨Nat.le_refl _⟩, ⟨by repeat (first | (with_reducible first | exact HB.out | apply below_alloc | apply pw_below_drewN | apply below_drew1) | exact HB.out)⟩⟩
 case round =>
  clear H'
  try clear c1
  try clear p2
  obtain ⟨x11_1, rfl, HA, HK1, HB⟩ := hrel
  cases gk with
  | zero => exact absurd HA.out (by simp [spec_l9Edge.l0])
  | succ k1 =>
   have H := HA.out
   clear HA
   simp only [spec_l9Edge.l0] at H
   by_cases c4 : x11_1 < (l0.length : Int)
   ·rw [if_pos c4] at H
    have c4b0 : decide (x11_1 < (l0.length : Int)) = true := decide_eq_true c4
    clear c4
    by_cases c5 : 0 ≤ x11_1
    ·rw [if_pos c5] at H
     have c5b0 : decide (0 ≤ x11_1) = true := decide_eq_true c5
     clear c5
     by_cases c6 : x11_1 < (l0.length : Int)
     ·rw [if_pos c6] at H
      have c6b0 : decide (x11_1 < (l0.length : Int)) = true := decide_eq_true c6
      clear c6
      by_cases c7 : ((rd_T84 l0 x11_1).f0) = a1
      ·rw [if_pos c7] at H
       have c7b0 : (((rd_T84 l0 x11_1).f0) == a1) = true := beq_iff_eq.mpr c7
       have c7b1 : (((rd_T84 l0 x11_1).f0) != a1) = false := bne_eq_false_iff_eq.mpr c7
       clear c7
       by_cases c8 : ((rd_T84 l0 x11_1).f1) = a2
       ·rw [if_pos c8] at H
        have c8b0 : (((rd_T84 l0 x11_1).f1) == a2) = true := beq_iff_eq.mpr c8
        have c8b1 : (((rd_T84 l0 x11_1).f1) != a2) = false := bne_eq_false_iff_eq.mpr c8
        clear c8
        obtain rfl := Option.some.inj H
        have p1081 : 0 ≤ (x11_1 : Int) := of_decide_eq_true (by first | (with_reducible assumption) | assumption)
        have q1081 : x11_1 < (l0.length : Int) := of_decide_eq_true (by first | (with_reducible assumption) | assumption)
        obtain ⟨ad1081, e1081, hx1081_0, hx1081_1, hx1081_2⟩ := at_T84 HR0.out x11_1 p1081 q1081
        cases e1081
        replace hx1081_0 := (HB.out.cell (World.block_lt_of_cell? w _ hx1081_0)).trans hx1081_0
        replace hx1081_1 := (HB.out.cell (World.block_lt_of_cell? w _ hx1081_1)).trans hx1081_1
        replace hx1081_2 := (HB.out.cell (World.block_lt_of_cell? w _ hx1081_2)).trans hx1081_2
        replace p1081 := eq_true p1081
        replace q1081 := eq_true q1081
        go_wp2_with (first | ((with_reducible refine gate_dst (N := 8) rfl ?_); refine box_event ?hg (N := 8) ?hd (cs := #[.int .i64 0, .int .i64 0, .int .i64 0]) (t := 84) ?hr ?_; (case hd => rfl); (case hg => rfl); (case hr => first | (go_simp; done) | (go_simp; rfl)); intro gb1082 hg w9 hbox hb; have n0_ := Aside0.mk (below_step (by repeat (first | (with_reducible first | exact HB.out | apply below_alloc | apply pw_below_drewN | apply below_drew1) | exact HB.out)) hb); have n1_ := Aside0.mk (hbox); have n2_ := Aside0.mk ((by rw [hg]; exact (below_size (by repeat (first | (with_reducible first | exact HB.out | apply below_alloc | apply pw_below_drewN | apply below_drew1) | exact HB.out))) : w.heap.size ≤ gb1082)); have n3_ := Aside0.mk ((by rw [hg]; exact (below_size (by repeat (first | (with_reducible first | exact HB.out | apply below_alloc | apply pw_below_drewN | apply below_drew1) | exact HB.out))) : w.heap.size ≤ gb1082)); clear HB; have HB := n0_; have BK1082 := n1_; have GW1082 := n2_; have GE1082 := n3_; clear n0_ n1_ n2_ n3_; clear hb hbox hg; have hcz10_0 : w9.cell? ⟨gb1082, 0, none⟩ = some (.int .i64 0) := (blk_cell BK1082.out 0).trans rfl; have hcz10_1 : w9.cell? ⟨gb1082, 1, none⟩ = some (.int .i64 0) := (blk_cell BK1082.out 1).trans rfl; have hcz10_2 : w9.cell? ⟨gb1082, 2, none⟩ = some (.int .i64 0) := (blk_cell BK1082.out 2).trans rfl; have hfz10_0 := blk_frozen BK1082.out 0; have hfz10_1 := blk_frozen BK1082.out 1; have hfz10_2 := blk_frozen BK1082.out 2))
        go_ret
        exact ⟨by first | rfl | (simp [errW_none, errW_some] <;> rfl) | (simp [*, errW_none, errW_some] <;> rfl), by repeat (first | (with_reducible first | exact HB.out | apply below_alloc | apply pw_below_drewN | apply below_drew1 | refine below_set ?_ GE1082.out) | exact HB.out)⟩
       ·rw [if_neg c8] at H
        have c8b0 : (((rd_T84 l0 x11_1).f1) == a2) = false := beq_eq_false_iff_ne.mpr c8
        have c8b1 : (((rd_T84 l0 x11_1).f1) != a2) = true := bne_iff_ne.mpr c8
        by_cases c11 : ((rd_T84 l0 x11_1).f0) = a2
        ·rw [if_pos c11] at H
         have c11b0 : (((rd_T84 l0 x11_1).f0) == a2) = true := beq_iff_eq.mpr c11
         have c11b1 : (((rd_T84 l0 x11_1).f0) != a2) = false := bne_eq_false_iff_eq.mpr c11
         clear c11
         by_cases c12 : ((rd_T84 l0 x11_1).f1) = a1
         ·rw [if_pos c12] at H
          have c12b0 : (((rd_T84 l0 x11_1).f1) == a1) = true := beq_iff_eq.mpr c12
          have c12b1 : (((rd_T84 l0 x11_1).f1) != a1) = false := bne_eq_false_iff_eq.mpr c12
          clear c12
          obtain rfl := Option.some.inj H
          have p1081 : 0 ≤ (x11_1 : Int) := of_decide_eq_true (by first | (with_reducible assumption) | assumption)
          have q1081 : x11_1 < (l0.length : Int) := of_decide_eq_true (by first | (with_reducible assumption) | assumption)
          obtain ⟨ad1081, e1081, hx1081_0, hx1081_1, hx1081_2⟩ := at_T84 HR0.out x11_1 p1081 q1081
          cases e1081
          replace hx1081_0 := (HB.out.cell (World.block_lt_of_cell? w _ hx1081_0)).trans hx1081_0
          replace hx1081_1 := (HB.out.cell (World.block_lt_of_cell? w _ hx1081_1)).trans hx1081_1
          replace hx1081_2 := (HB.out.cell (World.block_lt_of_cell? w _ hx1081_2)).trans hx1081_2
          replace p1081 := eq_true p1081
          replace q1081 := eq_true q1081
          go_wp2_with (first | ((with_reducible refine gate_dst (N := 8) rfl ?_); refine box_event ?hg (N := 8) ?hd (cs := #[.int .i64 0, .int .i64 0, .int .i64 0]) (t := 84) ?hr ?_; (case hd => rfl); (case hg => rfl); (case hr => first | (go_simp; done) | (go_simp; rfl)); intro gb1082 hg w13 hbox hb; have n0_ := Aside0.mk (below_step (by repeat (first | (with_reducible first | exact HB.out | apply below_alloc | apply pw_below_drewN | apply below_drew1) | exact HB.out)) hb); have n1_ := Aside0.mk (hbox); have n2_ := Aside0.mk ((by rw [hg]; exact (below_size (by repeat (first | (with_reducible first | exact HB.out | apply below_alloc | apply pw_below_drewN | apply below_drew1) | exact HB.out))) : w.heap.size ≤ gb1082)); have n3_ := Aside0.mk ((by rw [hg]; exact (below_size (by repeat (first | (with_reducible first | exact HB.out | apply below_alloc | apply pw_below_drewN | apply below_drew1) | exact HB.out))) : w.heap.size ≤ gb1082)); clear HB; have HB := n0_; have BK1082 := n1_; have GW1082 := n2_; have GE1082 := n3_; clear n0_ n1_ n2_ n3_; clear hb hbox hg; have hcz14_0 : w13.cell? ⟨gb1082, 0, none⟩ = some (.int .i64 0) := (blk_cell BK1082.out 0).trans rfl; have hcz14_1 : w13.cell? ⟨gb1082, 1, none⟩ = some (.int .i64 0) := (blk_cell BK1082.out 1).trans rfl; have hcz14_2 : w13.cell? ⟨gb1082, 2, none⟩ = some (.int .i64 0) := (blk_cell BK1082.out 2).trans rfl; have hfz14_0 := blk_frozen BK1082.out 0; have hfz14_1 := blk_frozen BK1082.out 1; have hfz14_2 := blk_frozen BK1082.out 2))
          go_ret
          exact ⟨by first | rfl | (simp [errW_none, errW_some] <;> rfl) | (simp [*, errW_none, errW_some] <;> rfl), by repeat (first | (with_reducible first | exact HB.out | apply below_alloc | apply pw_below_drewN | apply below_drew1 | refine below_set ?_ GE1082.out) | exact HB.out)⟩
         ·rw [if_neg c12] at H
          have c12b0 : (((rd_T84 l0 x11_1).f1) == a1) = false := beq_eq_false_iff_ne.mpr c12
          have c12b1 : (((rd_T84 l0 x11_1).f1) != a1) = true := bne_iff_ne.mpr c12
          have H' := Aside0.mk H
          clear H
          have p1081 : 0 ≤ (x11_1 : Int) := of_decide_eq_true (by first | (with_reducible assumption) | assumption)
          have q1081 : x11_1 < (l0.length : Int) := of_decide_eq_true (by first | (with_reducible assumption) | assumption)
          obtain ⟨ad1081, e1081, hx1081_0, hx1081_1, hx1081_2⟩ := at_T84 HR0.out x11_1 p1081 q1081
          cases e1081
          replace hx1081_0 := (HB.out.cell (World.block_lt_of_cell? w _ hx1081_0)).trans hx1081_0
          replace hx1081_1 := (HB.out.cell (World.block_lt_of_cell? w _ hx1081_1)).trans hx1081_1
          replace hx1081_2 := (HB.out.cell (World.block_lt_of_cell? w _ hx1081_2)).trans hx1081_2
          replace p1081 := eq_true p1081
          replace q1081 := eq_true q1081
          go_wp2_with (first | ((with_reducible refine gate_dst (N := 8) rfl ?_); refine box_event ?hg (N := 8) ?hd (cs := #[.int .i64 0, .int .i64 0, .int .i64 0]) (t := 84) ?hr ?_; (case hd => rfl); (case hg => rfl); (case hr => first | (go_simp; done) | (go_simp; rfl)); intro gb1082 hg w15 hbox hb; have n0_ := Aside0.mk (below_step (by repeat (first | (with_reducible first | exact HB.out | apply below_alloc | apply pw_below_drewN | apply below_drew1) | exact HB.out)) hb); have n1_ := Aside0.mk (hbox); have n2_ := Aside0.mk ((by rw [hg]; exact (below_size (by repeat (first | (with_reducible first | exact HB.out | apply below_alloc | apply pw_below_drewN | apply below_drew1) | exact HB.out))) : w.heap.size ≤ gb1082)); have n3_ := Aside0.mk ((by rw [hg]; exact (below_size (by repeat (first | (with_reducible first | exact HB.out | apply below_alloc | apply pw_below_drewN | apply below_drew1) | exact HB.out))) : w.heap.size ≤ gb1082)); clear HB; have HB := n0_; have BK1082 := n1_; have GW1082 := n2_; have GE1082 := n3_; clear n0_ n1_ n2_ n3_; clear hb hbox hg; have hcz16_0 : w15.cell? ⟨gb1082, 0, none⟩ = some (.int .i64 0) := (blk_cell BK1082.out 0).trans rfl; have hcz16_1 : w15.cell? ⟨gb1082, 1, none⟩ = some (.int .i64 0) := (blk_cell BK1082.out 1).trans rfl; have hcz16_2 : w15.cell? ⟨gb1082, 2, none⟩ = some (.int .i64 0) := (blk_cell BK1082.out 2).trans rfl; have hfz16_0 := blk_frozen BK1082.out 0; have hfz16_1 := blk_frozen BK1082.out 1; have hfz16_2 := blk_frozen BK1082.out 2))
          go_roundg k1
          case measure => have := HK1.out; omega
          case rel => exact ⟨(wrap64 (x11_1 + 1)), (by first | rfl | (simp; done) | (simp [*]; done)), H', ⟨by have := HK1.out; omega⟩, ⟨by repeat (first | (with_reducible first | exact HB.out | apply below_alloc | apply pw_below_drewN | apply below_drew1 | refine below_set ?_ GE1082.out) | exact HB.out)⟩⟩
        ·rw [if_neg c11] at H
         have c11b0 : (((rd_T84 l0 x11_1).f0) == a2) = false := beq_eq_false_iff_ne.mpr c11
         have c11b1 : (((rd_T84 l0 x11_1).f0) != a2) = true := bne_iff_ne.mpr c11
         have H' := Aside0.mk H
         clear H
         have p1081 : 0 ≤ (x11_1 : Int) := of_decide_eq_true (by first | (with_reducible assumption) | assumption)
         have q1081 : x11_1 < (l0.length : Int) := of_decide_eq_true (by first | (with_reducible assumption) | assumption)
         obtain ⟨ad1081, e1081, hx1081_0, hx1081_1, hx1081_2⟩ := at_T84 HR0.out x11_1 p1081 q1081
         cases e1081
         replace hx1081_0 := (HB.out.cell (World.block_lt_of_cell? w _ hx1081_0)).trans hx1081_0
         replace hx1081_1 := (HB.out.cell (World.block_lt_of_cell? w _ hx1081_1)).trans hx1081_1
         replace hx1081_2 := (HB.out.cell (World.block_lt_of_cell? w _ hx1081_2)).trans hx1081_2
         replace p1081 := eq_true p1081
         replace q1081 := eq_true q1081
         go_wp2_with (first | ((with_reducible refine gate_dst (N := 8) rfl ?_); refine box_event ?hg (N := 8) ?hd (cs := #[.int .i64 0, .int .i64 0, .int .i64 0]) (t := 84) ?hr ?_; (case hd => rfl); (case hg => rfl); (case hr => first | (go_simp; done) | (go_simp; rfl)); intro gb1082 hg w17 hbox hb; have n0_ := Aside0.mk (below_step (by repeat (first | (with_reducible first | exact HB.out | apply below_alloc | apply pw_below_drewN | apply below_drew1) | exact HB.out)) hb); have n1_ := Aside0.mk (hbox); have n2_ := Aside0.mk ((by rw [hg]; exact (below_size (by repeat (first | (with_reducible first | exact HB.out | apply below_alloc | apply pw_below_drewN | apply below_drew1) | exact HB.out))) : w.heap.size ≤ gb1082)); have n3_ := Aside0.mk ((by rw [hg]; exact (below_size (by repeat (first | (with_reducible first | exact HB.out | apply below_alloc | apply pw_below_drewN | apply below_drew1) | exact HB.out))) : w.heap.size ≤ gb1082)); clear HB; have HB := n0_; have BK1082 := n1_; have GW1082 := n2_; have GE1082 := n3_; clear n0_ n1_ n2_ n3_; clear hb hbox hg; have hcz18_0 : w17.cell? ⟨gb1082, 0, none⟩ = some (.int .i64 0) := (blk_cell BK1082.out 0).trans rfl; have hcz18_1 : w17.cell? ⟨gb1082, 1, none⟩ = some (.int .i64 0) := (blk_cell BK1082.out 1).trans rfl; have hcz18_2 : w17.cell? ⟨gb1082, 2, none⟩ = some (.int .i64 0) := (blk_cell BK1082.out 2).trans rfl; have hfz18_0 := blk_frozen BK1082.out 0; have hfz18_1 := blk_frozen BK1082.out 1; have hfz18_2 := blk_frozen BK1082.out 2))
         go_roundg k1
         case measure => have := HK1.out; omega
         case rel => exact ⟨(wrap64 (x11_1 + 1)), (by first | rfl | (simp; done) | (simp [*]; done)), H', ⟨by have := HK1.out; omega⟩, ⟨by repeat (first | (with_reducible first | exact HB.out | apply below_alloc | apply pw_below_drewN | apply below_drew1 | refine below_set ?_ GE1082.out) | exact HB.out)⟩⟩
      ·rw [if_neg c7] at H
       have c7b0 : (((rd_T84 l0 x11_1).f0) == a1) = false := beq_eq_false_iff_ne.mpr c7
       have c7b1 : (((rd_T84 l0 x11_1).f0) != a1) = true := bne_iff_ne.mpr c7
       by_cases c19 : ((rd_T84 l0 x11_1).f0) = a2
       ·rw [if_pos c19] at H
        have c19b0 : (((rd_T84 l0 x11_1).f0) == a2) = true := beq_iff_eq.mpr c19
        have c19b1 : (((rd_T84 l0 x11_1).f0) != a2) = false := bne_eq_false_iff_eq.mpr c19
        clear c19
        by_cases c20 : ((rd_T84 l0 x11_1).f1) = a1
        ·rw [if_pos c20] at H
         have c20b0 : (((rd_T84 l0 x11_1).f1) == a1) = true := beq_iff_eq.mpr c20
         have c20b1 : (((rd_T84 l0 x11_1).f1) != a1) = false := bne_eq_false_iff_eq.mpr c20
         clear c20
         obtain rfl := Option.some.inj H
         have p1081 : 0 ≤ (x11_1 : Int) := of_decide_eq_true (by first | (with_reducible assumption) | assumption)
         have q1081 : x11_1 < (l0.length : Int) := of_decide_eq_true (by first | (with_reducible assumption) | assumption)
         obtain ⟨ad1081, e1081, hx1081_0, hx1081_1, hx1081_2⟩ := at_T84 HR0.out x11_1 p1081 q1081
         cases e1081
         replace hx1081_0 := (HB.out.cell (World.block_lt_of_cell? w _ hx1081_0)).trans hx1081_0
         replace hx1081_1 := (HB.out.cell (World.block_lt_of_cell? w _ hx1081_1)).trans hx1081_1
         replace hx1081_2 := (HB.out.cell (World.block_lt_of_cell? w _ hx1081_2)).trans hx1081_2
         replace p1081 := eq_true p1081
         replace q1081 := eq_true q1081
         go_wp2_with (first | ((with_reducible refine gate_dst (N := 8) rfl ?_); refine box_event ?hg (N := 8) ?hd (cs := #[.int .i64 0, .int .i64 0, .int .i64 0]) (t := 84) ?hr ?_; (case hd => rfl); (case hg => rfl); (case hr => first | (go_simp; done) | (go_simp; rfl)); intro gb1082 hg w21 hbox hb; have n0_ := Aside0.mk (below_step (by repeat (first | (with_reducible first | exact HB.out | apply below_alloc | apply pw_below_drewN | apply below_drew1) | exact HB.out)) hb); have n1_ := Aside0.mk (hbox); have n2_ := Aside0.mk ((by rw [hg]; exact (below_size (by repeat (first | (with_reducible first | exact HB.out | apply below_alloc | apply pw_below_drewN | apply below_drew1) | exact HB.out))) : w.heap.size ≤ gb1082)); have n3_ := Aside0.mk ((by rw [hg]; exact (below_size (by repeat (first | (with_reducible first | exact HB.out | apply below_alloc | apply pw_below_drewN | apply below_drew1) | exact HB.out))) : w.heap.size ≤ gb1082)); clear HB; have HB := n0_; have BK1082 := n1_; have GW1082 := n2_; have GE1082 := n3_; clear n0_ n1_ n2_ n3_; clear hb hbox hg; have hcz22_0 : w21.cell? ⟨gb1082, 0, none⟩ = some (.int .i64 0) := (blk_cell BK1082.out 0).trans rfl; have hcz22_1 : w21.cell? ⟨gb1082, 1, none⟩ = some (.int .i64 0) := (blk_cell BK1082.out 1).trans rfl; have hcz22_2 : w21.cell? ⟨gb1082, 2, none⟩ = some (.int .i64 0) := (blk_cell BK1082.out 2).trans rfl; have hfz22_0 := blk_frozen BK1082.out 0; have hfz22_1 := blk_frozen BK1082.out 1; have hfz22_2 := blk_frozen BK1082.out 2))
         go_ret
         exact ⟨by first | rfl | (simp [errW_none, errW_some] <;> rfl) | (simp [*, errW_none, errW_some] <;> rfl), by repeat (first | (with_reducible first | exact HB.out | apply below_alloc | apply pw_below_drewN | apply below_drew1 | refine below_set ?_ GE1082.out) | exact HB.out)⟩
        ·rw [if_neg c20] at H
         have c20b0 : (((rd_T84 l0 x11_1).f1) == a1) = false := beq_eq_false_iff_ne.mpr c20
         have c20b1 : (((rd_T84 l0 x11_1).f1) != a1) = true := bne_iff_ne.mpr c20
         have H' := Aside0.mk H
         clear H
         have p1081 : 0 ≤ (x11_1 : Int) := of_decide_eq_true (by first | (with_reducible assumption) | assumption)
         have q1081 : x11_1 < (l0.length : Int) := of_decide_eq_true (by first | (with_reducible assumption) | assumption)
         obtain ⟨ad1081, e1081, hx1081_0, hx1081_1, hx1081_2⟩ := at_T84 HR0.out x11_1 p1081 q1081
         cases e1081
         replace hx1081_0 := (HB.out.cell (World.block_lt_of_cell? w _ hx1081_0)).trans hx1081_0
         replace hx1081_1 := (HB.out.cell (World.block_lt_of_cell? w _ hx1081_1)).trans hx1081_1
         replace hx1081_2 := (HB.out.cell (World.block_lt_of_cell? w _ hx1081_2)).trans hx1081_2
         replace p1081 := eq_true p1081
         replace q1081 := eq_true q1081
         go_wp2_with (first | ((with_reducible refine gate_dst (N := 8) rfl ?_); refine box_event ?hg (N := 8) ?hd (cs := #[.int .i64 0, .int .i64 0, .int .i64 0]) (t := 84) ?hr ?_; (case hd => rfl); (case hg => rfl); (case hr => first | (go_simp; done) | (go_simp; rfl)); intro gb1082 hg w23 hbox hb; have n0_ := Aside0.mk (below_step (by repeat (first | (with_reducible first | exact HB.out | apply below_alloc | apply pw_below_drewN | apply below_drew1) | exact HB.out)) hb); have n1_ := Aside0.mk (hbox); have n2_ := Aside0.mk ((by rw [hg]; exact (below_size (by repeat (first | (with_reducible first | exact HB.out | apply below_alloc | apply pw_below_drewN | apply below_drew1) | exact HB.out))) : w.heap.size ≤ gb1082)); have n3_ := Aside0.mk ((by rw [hg]; exact (below_size (by repeat (first | (with_reducible first | exact HB.out | apply below_alloc | apply pw_below_drewN | apply below_drew1) | exact HB.out))) : w.heap.size ≤ gb1082)); clear HB; have HB := n0_; have BK1082 := n1_; have GW1082 := n2_; have GE1082 := n3_; clear n0_ n1_ n2_ n3_; clear hb hbox hg; have hcz24_0 : w23.cell? ⟨gb1082, 0, none⟩ = some (.int .i64 0) := (blk_cell BK1082.out 0).trans rfl; have hcz24_1 : w23.cell? ⟨gb1082, 1, none⟩ = some (.int .i64 0) := (blk_cell BK1082.out 1).trans rfl; have hcz24_2 : w23.cell? ⟨gb1082, 2, none⟩ = some (.int .i64 0) := (blk_cell BK1082.out 2).trans rfl; have hfz24_0 := blk_frozen BK1082.out 0; have hfz24_1 := blk_frozen BK1082.out 1; have hfz24_2 := blk_frozen BK1082.out 2))
         go_roundg k1
         case measure => have := HK1.out; omega
         case rel => exact ⟨(wrap64 (x11_1 + 1)), (by first | rfl | (simp; done) | (simp [*]; done)), H', ⟨by have := HK1.out; omega⟩, ⟨by repeat (first | (with_reducible first | exact HB.out | apply below_alloc | apply pw_below_drewN | apply below_drew1 | refine below_set ?_ GE1082.out) | exact HB.out)⟩⟩
       ·rw [if_neg c19] at H
        have c19b0 : (((rd_T84 l0 x11_1).f0) == a2) = false := beq_eq_false_iff_ne.mpr c19
        have c19b1 : (((rd_T84 l0 x11_1).f0) != a2) = true := bne_iff_ne.mpr c19
        have H' := Aside0.mk H
        clear H
        have p1081 : 0 ≤ (x11_1 : Int) := of_decide_eq_true (by first | (with_reducible assumption) | assumption)
        have q1081 : x11_1 < (l0.length : Int) := of_decide_eq_true (by first | (with_reducible assumption) | assumption)
        obtain ⟨ad1081, e1081, hx1081_0, hx1081_1, hx1081_2⟩ := at_T84 HR0.out x11_1 p1081 q1081
        cases e1081
        replace hx1081_0 := (HB.out.cell (World.block_lt_of_cell? w _ hx1081_0)).trans hx1081_0
        replace hx1081_1 := (HB.out.cell (World.block_lt_of_cell? w _ hx1081_1)).trans hx1081_1
        replace hx1081_2 := (HB.out.cell (World.block_lt_of_cell? w _ hx1081_2)).trans hx1081_2
        replace p1081 := eq_true p1081
        replace q1081 := eq_true q1081
        go_wp2_with (first | ((with_reducible refine gate_dst (N := 8) rfl ?_); refine box_event ?hg (N := 8) ?hd (cs := #[.int .i64 0, .int .i64 0, .int .i64 0]) (t := 84) ?hr ?_; (case hd => rfl); (case hg => rfl); (case hr => first | (go_simp; done) | (go_simp; rfl)); intro gb1082 hg w25 hbox hb; have n0_ := Aside0.mk (below_step (by repeat (first | (with_reducible first | exact HB.out | apply below_alloc | apply pw_below_drewN | apply below_drew1) | exact HB.out)) hb); have n1_ := Aside0.mk (hbox); have n2_ := Aside0.mk ((by rw [hg]; exact (below_size (by repeat (first | (with_reducible first | exact HB.out | apply below_alloc | apply pw_below_drewN | apply below_drew1) | exact HB.out))) : w.heap.size ≤ gb1082)); have n3_ := Aside0.mk ((by rw [hg]; exact (below_size (by repeat (first | (with_reducible first | exact HB.out | apply below_alloc | apply pw_below_drewN | apply below_drew1) | exact HB.out))) : w.heap.size ≤ gb1082)); clear HB; have HB := n0_; have BK1082 := n1_; have GW1082 := n2_; have GE1082 := n3_; clear n0_ n1_ n2_ n3_; clear hb hbox hg; have hcz26_0 : w25.cell? ⟨gb1082, 0, none⟩ = some (.int .i64 0) := (blk_cell BK1082.out 0).trans rfl; have hcz26_1 : w25.cell? ⟨gb1082, 1, none⟩ = some (.int .i64 0) := (blk_cell BK1082.out 1).trans rfl; have hcz26_2 : w25.cell? ⟨gb1082, 2, none⟩ = some (.int .i64 0) := (blk_cell BK1082.out 2).trans rfl; have hfz26_0 := blk_frozen BK1082.out 0; have hfz26_1 := blk_frozen BK1082.out 1; have hfz26_2 := blk_frozen BK1082.out 2))
        go_roundg k1
        case measure => have := HK1.out; omega
        case rel => exact ⟨(wrap64 (x11_1 + 1)), (by first | rfl | (simp; done) | (simp [*]; done)), H', ⟨by have := HK1.out; omega⟩, ⟨by repeat (first | (with_reducible first | exact HB.out | apply below_alloc | apply pw_below_drewN | apply below_drew1 | refine below_set ?_ GE1082.out) | exact HB.out)⟩⟩
     ·rw [if_neg c6] at H
      exact absurd H (by simp)
    ·rw [if_neg c5] at H
     exact absurd H (by simp)
   ·rw [if_neg c4] at H
    have c4b0 : decide (x11_1 < (l0.length : Int)) = false := decide_eq_false c4
    clear c4
    obtain rfl := Option.some.inj H
    go_wp2
    go_ret
    exact ⟨by first | rfl | (simp [errW_none, errW_some] <;> rfl) | (simp [*, errW_none, errW_some] <;> rfl), by repeat (first | (with_reducible first | exact HB.out | apply below_alloc | apply pw_below_drewN | apply below_drew1) | exact HB.out)⟩

def spec_l16Add.l0 : Nat → List (S84) → Int → Int → Int → Option ((List (S84)))
 | 0, _, _, _, _ => none
 | k + 1, x0, x1, x2, x7 => if x7 < (x0.length : Int) then (if 0 ≤ x7 then (if ((rd_T84 x0 x7).f0) < x1 then (spec_l16Add.l0 k x0 x1 x2 (wrap64 (x7 + 1))) else (if ((rd_T84 x0 x7).f0) = x1 then (if ((rd_T84 x0 x7).f1) < x2 then (spec_l16Add.l0 k x0 x1 x2 (wrap64 (x7 + 1))) else ((some (([] : List (S84)) : List (S84))).bind fun y1086 => (if x7 ≤ (x0.length : Int) then ((some (x0.take (x7 : Int).toNat : List (S84))).bind fun y1089 => (if y1086.length + y1089.length < 5864062014805 then ((some (y1086 ++ y1089 : List (S84))).bind fun y1093 => (if y1093.length < 5864062014805 then ((some (y1093 ++ [(⟨x1, x2, 1⟩ : S84)] : List (S84))).bind fun y1096 => ((some (x0.drop (x7 : Int).toNat : List (S84))).bind fun y1099 => (if y1096.length + y1099.length < 5864062014805 then (some (y1096 ++ y1099)) else (none)))) else (none))) else (none))) else (none)))) else ((some (([] : List (S84)) : List (S84))).bind fun y1106 => (if x7 ≤ (x0.length : Int) then ((some (x0.take (x7 : Int).toNat : List (S84))).bind fun y1109 => (if y1106.length + y1109.length < 5864062014805 then ((some (y1106 ++ y1109 : List (S84))).bind fun y1113 => (if y1113.length < 5864062014805 then ((some (y1113 ++ [(⟨x1, x2, 1⟩ : S84)] : List (S84))).bind fun y1116 => ((some (x0.drop (x7 : Int).toNat : List (S84))).bind fun y1119 => (if y1116.length + y1119.length < 5864062014805 then (some (y1116 ++ y1119)) else (none)))) else (none))) else (none))) else (none))))) else (none)) else ((some (([] : List (S84)) : List (S84))).bind fun y1126 => (if 0 ≤ x7 then (if x7 ≤ (x0.length : Int) then ((some (x0.take (x7 : Int).toNat : List (S84))).bind fun y1129 => (if y1126.length + y1129.length < 5864062014805 then ((some (y1126 ++ y1129 : List (S84))).bind fun y1133 => (if y1133.length < 5864062014805 then ((some (y1133 ++ [(⟨x1, x2, 1⟩ : S84)] : List (S84))).bind fun y1136 => ((some (x0.drop (x7 : Int).toNat : List (S84))).bind fun y1139 => (if y1136.length + y1139.length < 5864062014805 then (some (y1136 ++ y1139)) else (none)))) else (none))) else (none))) else (none)) else (none)))
def spec_l16Add.f (k : Nat) (l0 : List (S84)) (a1 : Int) (a2 : Int) : Option ((List (S84))) := spec_l16Add.l0 k l0 a1 a2 0
theorem spec_l16Add.mono_l : ∀ k, (∀ y0 y1 y2 y3, LeO (spec_l16Add.l0 k y0 y1 y2 y3) (spec_l16Add.l0 (k + 1) y0 y1 y2 y3))
 | 0 => fun _ _ _ _ r h => by simp [spec_l16Add.l0] at h
 | k + 1 => by
  have ih0 := spec_l16Add.mono_l k
  ·intro y0 y1 y2 y3
   unfold spec_l16Add.l0
   repeat' first
   | (with_reducible exact ih0 _ _ _ _)
   | (with_reducible exact LeO.refl _)
   | (with_reducible exact LeO.none _)
   | (with_reducible refine LeO.ite ?_ ?_)
   | (with_reducible refine LeO.bind ?_ (fun _ => ?_))
   | exact ih0 _ _ _ _
   | exact LeO.none _
   | refine LeO.ite ?_ ?_
   | refine LeO.bind ?_ (fun _ => ?_)
theorem spec_l16Add.mono : ∀ a0 a1 a2 k, LeO (spec_l16Add.f k a0 a1 a2) (spec_l16Add.f (k + 1) a0 a1 a2) := by
 intro a0 a1 a2 k
 have ih0 := spec_l16Add.mono_l k
 unfold spec_l16Add.f
 repeat' first
   | (with_reducible exact ih0 _ _ _ _)
   | (with_reducible exact LeO.refl _)
   | (with_reducible exact LeO.none _)
   | (with_reducible refine LeO.ite ?_ ?_)
   | (with_reducible refine LeO.bind ?_ (fun _ => ?_))
   | exact ih0 _ _ _ _
   | exact LeO.none _
   | refine LeO.ite ?_ ?_
   | refine LeO.bind ?_ (fun _ => ?_)
set_option maxHeartbeats 8000000 in
set_option maxRecDepth 100000 in
theorem spec_l16Add.calls (k : Nat) (A0 : Option Addr) (c0 : Nat) (l0 : List (S84)) (a1 : Int) (a2 : Int) (r : List (S84)) (w : World) (hr0 : Kd.C k84 w A0 l0.length l0) (hc0 : l0.length ≤ c0) (h : spec_l16Add.f k l0 a1 a2 = some r) :
  Calls Try.prog 108 #[.slice A0 l0.length c0, .int .i64 a1, .int .i64 a2] w fun e w' => ∃ v0_ : Value, e = .returned (v0_) ∧ Kd.R k84 84 w' w.heap.size (fun _ => True) v0_ r ∧ Below w.heap.size w w' := by
 have hu84 := Try.underlying84
 have HR0 := Aside0.mk hr0
 have HC0 := Aside0.mk hc0
 clear hr0 hc0
 have HB := Aside0.mk (Below.refl w.heap.size w)
 have H : (spec_l16Add.l0 k l0 a1 a2 0) = some r := h
 clear h
 have H' := Aside0.mk H
 clear H
 go_enter Try.func108, Try.ntmps108
 go_wp2
 go_loopg [7] k (fun kq v7 w' => ∃ (x7_1 : Int), v7 = .int .i64 x7_1 ∧ Aside0 (spec_l16Add.l0 kq l0 a1 a2 x7_1 = some r) ∧ Aside0 (kq ≤ k) ∧ Aside0 (Below w.heap.size w w'))
 case atStart => exact ⟨(0), (by first | rfl | (simp; done) | (simp [*]; done)), H', ⟨Nat.le_refl _⟩, ⟨by repeat (first | (with_reducible first | exact HB.out | apply below_alloc | apply pw_below_drewN | apply below_drew1) | exact HB.out)⟩⟩
 case round =>
  clear H'
  try clear c1
  try clear p2
  obtain ⟨x7_1, rfl, HA, HK1, HB⟩ := hrel
  cases gk with
  | zero => exact absurd HA.out (by simp [spec_l16Add.l0])
  | succ k1 =>
   have H := HA.out
   clear HA
   simp only [spec_l16Add.l0] at H
   by_cases c4 : x7_1 < (l0.length : Int)
   ·rw [if_pos c4] at H
    have c4b0 : decide (x7_1 < (l0.length : Int)) = true := decide_eq_true c4
    clear c4
    by_cases c5 : 0 ≤ x7_1
    ·rw [if_pos c5] at H
     have c5b0 : decide (0 ≤ x7_1) = true := decide_eq_true c5
     clear c5
     by_cases c6 : ((rd_T84 l0 x7_1).f0) < a1
     ·rw [if_pos c6] at H
      have c6b0 : decide (((rd_T84 l0 x7_1).f0) < a1) = true := decide_eq_true c6
      clear c6
      have H' := Aside0.mk H
      clear H
      have p1083 : 0 ≤ (x7_1 : Int) := of_decide_eq_true (by first | (with_reducible assumption) | assumption)
      have q1083 : x7_1 < (l0.length : Int) := of_decide_eq_true (by first | (with_reducible assumption) | assumption)
      obtain ⟨ad1083, e1083, hx1083_0, hx1083_1, hx1083_2⟩ := at_T84 HR0.out x7_1 p1083 q1083
      cases e1083
      replace hx1083_0 := (HB.out.cell (World.block_lt_of_cell? w _ hx1083_0)).trans hx1083_0
      replace hx1083_1 := (HB.out.cell (World.block_lt_of_cell? w _ hx1083_1)).trans hx1083_1
      replace hx1083_2 := (HB.out.cell (World.block_lt_of_cell? w _ hx1083_2)).trans hx1083_2
      replace p1083 := eq_true p1083
      replace q1083 := eq_true q1083
      go_wp2
      go_roundg k1
      case measure => have := HK1.out; omega
      case rel => exact ⟨(wrap64 (x7_1 + 1)), (by first | rfl | (simp; done) | (simp [*]; done)), H', ⟨by have := HK1.out; omega⟩, ⟨by repeat (first | (with_reducible first | exact HB.out | apply below_alloc | apply pw_below_drewN | apply below_drew1) | exact HB.out)⟩⟩
     ·rw [if_neg c6] at H
      have c6b0 : decide (((rd_T84 l0 x7_1).f0) < a1) = false := decide_eq_false c6
      clear c6
      by_cases c7 : ((rd_T84 l0 x7_1).f0) = a1
      ·rw [if_pos c7] at H
       have c7b0 : (((rd_T84 l0 x7_1).f0) == a1) = true := beq_iff_eq.mpr c7
       have c7b1 : (((rd_T84 l0 x7_1).f0) != a1) = false := bne_eq_false_iff_eq.mpr c7
       clear c7
       by_cases c8 : ((rd_T84 l0 x7_1).f1) < a2
       ·rw [if_pos c8] at H
        have c8b0 : decide (((rd_T84 l0 x7_1).f1) < a2) = true := decide_eq_true c8
        clear c8
        have H' := Aside0.mk H
        clear H
        have p1083 : 0 ≤ (x7_1 : Int) := of_decide_eq_true (by first | (with_reducible assumption) | assumption)
        have q1083 : x7_1 < (l0.length : Int) := of_decide_eq_true (by first | (with_reducible assumption) | assumption)
        obtain ⟨ad1083, e1083, hx1083_0, hx1083_1, hx1083_2⟩ := at_T84 HR0.out x7_1 p1083 q1083
        cases e1083
        replace hx1083_0 := (HB.out.cell (World.block_lt_of_cell? w _ hx1083_0)).trans hx1083_0
        replace hx1083_1 := (HB.out.cell (World.block_lt_of_cell? w _ hx1083_1)).trans hx1083_1
        replace hx1083_2 := (HB.out.cell (World.block_lt_of_cell? w _ hx1083_2)).trans hx1083_2
        replace p1083 := eq_true p1083
        replace q1083 := eq_true q1083
        have p1084 : 0 ≤ (x7_1 : Int) := of_decide_eq_true (by first | (with_reducible assumption) | assumption)
        have q1084 : x7_1 < (l0.length : Int) := of_decide_eq_true (by first | (with_reducible assumption) | assumption)
        obtain ⟨ad1084, e1084, hx1084_0, hx1084_1, hx1084_2⟩ := at_T84 HR0.out x7_1 p1084 q1084
        obtain rfl : ad1083 = ad1084 := (by injection e1084)
        replace hx1084_0 := (HB.out.cell (World.block_lt_of_cell? w _ hx1084_0)).trans hx1084_0
        replace hx1084_1 := (HB.out.cell (World.block_lt_of_cell? w _ hx1084_1)).trans hx1084_1
        replace hx1084_2 := (HB.out.cell (World.block_lt_of_cell? w _ hx1084_2)).trans hx1084_2
        replace p1084 := eq_true p1084
        replace q1084 := eq_true q1084
        have p1085 : 0 ≤ (x7_1 : Int) := of_decide_eq_true (by first | (with_reducible assumption) | assumption)
        have q1085 : x7_1 < (l0.length : Int) := of_decide_eq_true (by first | (with_reducible assumption) | assumption)
        obtain ⟨ad1085, e1085, hx1085_0, hx1085_1, hx1085_2⟩ := at_T84 HR0.out x7_1 p1085 q1085
        obtain rfl : ad1083 = ad1085 := (by injection e1085)
        replace hx1085_0 := (HB.out.cell (World.block_lt_of_cell? w _ hx1085_0)).trans hx1085_0
        replace hx1085_1 := (HB.out.cell (World.block_lt_of_cell? w _ hx1085_1)).trans hx1085_1
        replace hx1085_2 := (HB.out.cell (World.block_lt_of_cell? w _ hx1085_2)).trans hx1085_2
        replace p1085 := eq_true p1085
        replace q1085 := eq_true q1085
        go_wp2
        go_roundg k1
        case measure => have := HK1.out; omega
        case rel => exact ⟨(wrap64 (x7_1 + 1)), (by first | rfl | (simp; done) | (simp [*]; done)), H', ⟨by have := HK1.out; omega⟩, ⟨by repeat (first | (with_reducible first | exact HB.out | apply below_alloc | apply pw_below_drewN | apply below_drew1) | exact HB.out)⟩⟩
       ·rw [if_neg c8] at H
        have c8b0 : decide (((rd_T84 l0 x7_1).f1) < a2) = false := decide_eq_false c8
        clear c8
        obtain ⟨y1086, hy1086⟩ : ∃ y_ : List (S84), y_ = (([] : List (S84))) := ⟨_, rfl⟩
        replace H : (if x7_1 ≤ (l0.length : Int) then ((some (l0.take (x7_1 : Int).toNat : List (S84))).bind fun y1089 => (if y1086.length + y1089.length < 5864062014805 then ((some (y1086 ++ y1089 : List (S84))).bind fun y1093 => (if y1093.length < 5864062014805 then ((some (y1093 ++ [(⟨a1, a2, 1⟩ : S84)] : List (S84))).bind fun y1096 => ((some (l0.drop (x7_1 : Int).toNat : List (S84))).bind fun y1099 => (if y1096.length + y1099.length < 5864062014805 then (some (y1096 ++ y1099)) else (none)))) else (none))) else (none))) else (none)) = some r := by first | (rw [hy1086]; with_reducible exact H) | (have H2_ := (Option.bind_some _ _).symm.trans H; rw [hy1086]; with_reducible exact H2_) | (have H2_ := (Option.bind_some _ _).symm.trans H; with_reducible exact H2_) | with_reducible exact H | (rw [hy1086]; exact H) | exact H
        have Ny1086 := Aside0.mk hy1086
        clear hy1086
        have c9b0 := eq_true (of_decide_eq_true (by first | (with_reducible assumption) | assumption) : 0 ≤ x7_1)
        by_cases c10 : x7_1 ≤ (l0.length : Int)
        ·rw [if_pos c10] at H
         have c10b0 := eq_true c10
         have c10b1 : decide (x7_1 ≤ (l0.length : Int)) = true := decide_eq_true c10
         clear c10
         obtain ⟨y1089, hy1089⟩ : ∃ y_ : List (S84), y_ = (l0.take (x7_1 : Int).toNat) := ⟨_, rfl⟩
         replace H : (if y1086.length + y1089.length < 5864062014805 then ((some (y1086 ++ y1089 : List (S84))).bind fun y1093 => (if y1093.length < 5864062014805 then ((some (y1093 ++ [(⟨a1, a2, 1⟩ : S84)] : List (S84))).bind fun y1096 => ((some (l0.drop (x7_1 : Int).toNat : List (S84))).bind fun y1099 => (if y1096.length + y1099.length < 5864062014805 then (some (y1096 ++ y1099)) else (none)))) else (none))) else (none)) = some r := by first | (rw [hy1089]; with_reducible exact H) | (have H2_ := (Option.bind_some _ _).symm.trans H; rw [hy1089]; with_reducible exact H2_) | (have H2_ := (Option.bind_some _ _).symm.trans H; with_reducible exact H2_) | with_reducible exact H | (rw [hy1089]; exact H) | exact H
         have Ny1089 := Aside0.mk hy1089
         clear hy1089
         by_cases c11 : y1086.length + y1089.length < 5864062014805
         ·rw [if_pos c11] at H
          have LMc11 := Aside0.mk c11
          clear c11
          obtain ⟨y1093, hy1093⟩ : ∃ y_ : List (S84), y_ = (y1086 ++ y1089) := ⟨_, rfl⟩
          replace H : (if y1093.length < 5864062014805 then ((some (y1093 ++ [(⟨a1, a2, 1⟩ : S84)] : List (S84))).bind fun y1096 => ((some (l0.drop (x7_1 : Int).toNat : List (S84))).bind fun y1099 => (if y1096.length + y1099.length < 5864062014805 then (some (y1096 ++ y1099)) else (none)))) else (none)) = some r := by first | (rw [hy1093]; with_reducible exact H) | (have H2_ := (Option.bind_some _ _).symm.trans H; rw [hy1093]; with_reducible exact H2_) | (have H2_ := (Option.bind_some _ _).symm.trans H; with_reducible exact H2_) | with_reducible exact H | (rw [hy1093]; exact H) | exact H
          have Ny1093 := Aside0.mk hy1093
          clear hy1093
          by_cases c12 : y1093.length < 5864062014805
          ·rw [if_pos c12] at H
           have LMc12 := Aside0.mk c12
           clear c12
           obtain ⟨y1096, hy1096⟩ : ∃ y_ : List (S84), y_ = (y1093 ++ [(⟨a1, a2, 1⟩ : S84)]) := ⟨_, rfl⟩
           replace H : ((some (l0.drop (x7_1 : Int).toNat : List (S84))).bind fun y1099 => (if y1096.length + y1099.length < 5864062014805 then (some (y1096 ++ y1099)) else (none))) = some r := by first | (rw [hy1096]; with_reducible exact H) | (have H2_ := (Option.bind_some _ _).symm.trans H; rw [hy1096]; with_reducible exact H2_) | (have H2_ := (Option.bind_some _ _).symm.trans H; with_reducible exact H2_) | with_reducible exact H | (rw [hy1096]; exact H) | exact H
           have Ny1096 := Aside0.mk hy1096
           clear hy1096
           have c13b0 := eq_true (of_decide_eq_true (by first | (with_reducible assumption) | assumption) : 0 ≤ x7_1)
           have c14b0 := eq_true (of_decide_eq_true (by first | (with_reducible assumption) | assumption) : x7_1 ≤ (l0.length : Int))
           obtain ⟨y1099, hy1099⟩ : ∃ y_ : List (S84), y_ = (l0.drop (x7_1 : Int).toNat) := ⟨_, rfl⟩
           replace H : (if y1096.length + y1099.length < 5864062014805 then (some (y1096 ++ y1099)) else (none)) = some r := by first | (rw [hy1099]; with_reducible exact H) | (have H2_ := (Option.bind_some _ _).symm.trans H; rw [hy1099]; with_reducible exact H2_) | (have H2_ := (Option.bind_some _ _).symm.trans H; with_reducible exact H2_) | with_reducible exact H | (rw [hy1099]; exact H) | exact H
           have Ny1099 := Aside0.mk hy1099
           clear hy1099
           by_cases c15 : y1096.length + y1099.length < 5864062014805
           ·rw [if_pos c15] at H
            have LMc15 := Aside0.mk c15
            clear c15
            obtain ⟨y1103, hy1103⟩ : ∃ y_ : List (S84), y_ = (y1096 ++ y1099) := ⟨_, rfl⟩
            replace H : (some y1103) = some r := by first | (rw [hy1103]; with_reducible exact H) | (have H2_ := (Option.bind_some _ _).symm.trans H; rw [hy1103]; with_reducible exact H2_) | (have H2_ := (Option.bind_some _ _).symm.trans H; with_reducible exact H2_) | with_reducible exact H | (rw [hy1103]; exact H) | exact H
            have Ny1103 := Aside0.mk hy1103
            clear hy1103
            obtain rfl := Option.some.inj H
            have p1083 : 0 ≤ (x7_1 : Int) := of_decide_eq_true (by first | (with_reducible assumption) | assumption)
            have q1083 : x7_1 < (l0.length : Int) := of_decide_eq_true (by first | (with_reducible assumption) | assumption)
            obtain ⟨ad1083, e1083, hx1083_0, hx1083_1, hx1083_2⟩ := at_T84 HR0.out x7_1 p1083 q1083
            cases e1083
            replace hx1083_0 := (HB.out.cell (World.block_lt_of_cell? w _ hx1083_0)).trans hx1083_0
            replace hx1083_1 := (HB.out.cell (World.block_lt_of_cell? w _ hx1083_1)).trans hx1083_1
            replace hx1083_2 := (HB.out.cell (World.block_lt_of_cell? w _ hx1083_2)).trans hx1083_2
            replace p1083 := eq_true p1083
            replace q1083 := eq_true q1083
            have p1084 : 0 ≤ (x7_1 : Int) := of_decide_eq_true (by first | (with_reducible assumption) | assumption)
            have q1084 : x7_1 < (l0.length : Int) := of_decide_eq_true (by first | (with_reducible assumption) | assumption)
            obtain ⟨ad1084, e1084, hx1084_0, hx1084_1, hx1084_2⟩ := at_T84 HR0.out x7_1 p1084 q1084
            obtain rfl : ad1083 = ad1084 := (by injection e1084)
            replace hx1084_0 := (HB.out.cell (World.block_lt_of_cell? w _ hx1084_0)).trans hx1084_0
            replace hx1084_1 := (HB.out.cell (World.block_lt_of_cell? w _ hx1084_1)).trans hx1084_1
            replace hx1084_2 := (HB.out.cell (World.block_lt_of_cell? w _ hx1084_2)).trans hx1084_2
            replace p1084 := eq_true p1084
            replace q1084 := eq_true q1084
            have p1085 : 0 ≤ (x7_1 : Int) := of_decide_eq_true (by first | (with_reducible assumption) | assumption)
            have q1085 : x7_1 < (l0.length : Int) := of_decide_eq_true (by first | (with_reducible assumption) | assumption)
            obtain ⟨ad1085, e1085, hx1085_0, hx1085_1, hx1085_2⟩ := at_T84 HR0.out x7_1 p1085 q1085
            obtain rfl : ad1083 = ad1085 := (by injection e1085)
            replace hx1085_0 := (HB.out.cell (World.block_lt_of_cell? w _ hx1085_0)).trans hx1085_0
            replace hx1085_1 := (HB.out.cell (World.block_lt_of_cell? w _ hx1085_1)).trans hx1085_1
            replace hx1085_2 := (HB.out.cell (World.block_lt_of_cell? w _ hx1085_2)).trans hx1085_2
            replace p1085 := eq_true p1085
            replace q1085 := eq_true q1085
            go_wp2_with (first | ((with_reducible refine gate_dst (N := 42) rfl ?_); refine Kd.R_lit k84 _ 84 ?hg (N := 42) ?hd (xs := ([] : List (S84))) (inner := []) (ok := fun _ => True) (okp := fun _ => True) ?hr ?hp (fun _ hk => hk) trivial (Below.refl _ _) (Nat.le_refl _) (by simp) ?_; (case hd => rfl); (case hg => rfl); (case hr => first | (go_simp; done) | (go_simp; rfl)); (case hp => exact (Reps.none _ _)); intro v1087 w16 ho17 hb hg_ hnew_; clear hg_ hnew_; (first | rw [← Ny1086.out] at ho17 | (simp only [Int.reduceToNat] at ho17; rw [← Ny1086.out] at ho17)); have n0_ := Aside0.mk (Kd.R_lower ho17 (below_size (by repeat (first | (with_reducible first | exact HB.out | apply below_alloc | apply pw_below_drewN | apply below_drew1) | exact HB.out)))); have n1_ := Aside0.mk (below_step (by repeat (first | (with_reducible first | exact HB.out | apply below_alloc | apply pw_below_drewN | apply below_drew1) | exact HB.out)) hb); clear HB; have HO1088 := n0_; have HB := n1_; clear n0_ n1_; clear hb ho17; have q18 : (x7_1 : Int) ≤ ((l0.length : Int) : Int) := of_decide_eq_true (by first | (with_reducible assumption) | assumption); obtain ⟨i018, hi018, _, hsz18, _⟩ := info_parts info84; have hroom18 : l0.length ≤ c0 := HC0.out; have hC18 : Kd.C k84 _ (some ad1083) l0.length l0 := HR0.out; have hcut18 := cut_to (P := Try.prog) 25 84 .i64 Try.underlying25 hi018 (some ad1083) l0.length c0 x7_1 (of_decide_eq_true (by first | (with_reducible assumption) | assumption)) q18 hroom18; have hr18 := Kd.C_take (m := (x7_1 : Int).toNat) hC18 (by omega); have hy18 : y1089.length = (x7_1 : Int).toNat := (by rw [Ny1089.out, List.length_take]; omega); rw [← Ny1089.out] at hr18; rw [← hy18] at hcut18; have HR1092 := Aside0.mk hr18; have HC1092 := Aside0.mk (show y1089.length ≤ c0 from by omega); clear hr18 hC18 hroom18 hi018 hsz18; have KY18 := Aside0.mk hy18; clear hy18; replace q18 := eq_true q18) | ((with_reducible refine gate_builtin (b := .append) (xs := #[.tmp 42, .tmp 45]) rfl ?_); at_builtin; refine Kd.R_append_rows k84 (w0 := w) w.heap.size rfl (.tmp 42) (.tmp 45) 25 84 (.agg #[(.int .i64 0), (.int .i64 0), (.int .i64 0)]) 24 rfl Try.underlying25 info84 rfl (by decide) (by omega) v1087 y1086 y1089 _ _ _ (fun _ => True) (fun _ => False) rfl rfl ?aO ?aR (fun _ _ h => h) (fun _ h => h.elim) ?aF ?aB ?aS ?aL ?_; (case aR => repeat (first | exact (Kd.C_below HR1092.out HB.out) | (with_reducible refine Kd.C_alloc ?_ _) | (with_reducible refine Kd.C_drewN ?_ _) | (with_reducible refine Kd.C_drew ?_))); (case aB => exact (by repeat (first | (with_reducible first | exact HB.out | apply below_alloc | apply pw_below_drewN | apply below_drew1) | exact HB.out))); (case aF => exact (fun _ _ => trivial)); (case aO => exact (by (with_reducible repeat (first | apply Kd.R_alloc | apply Kd.R_drewN | apply Kd.R_drew)); exact HO1088.out)); (case aS => exact (below_size (by repeat (first | (with_reducible first | exact HB.out | apply below_alloc | apply pw_below_drewN | apply below_drew1) | exact HB.out)))); (case aL => have := LMc11.out; omega); intro v1094 w19 ho hb hg hat; rw [← Ny1093.out] at ho; have n0_ := Aside0.mk (hb); have n1_ := Aside0.mk (ho); clear HB; clear HO1088; have HB := n0_; have HO1095 := n1_; clear n0_ n1_; clear ho hb hg hat) | ((with_reducible refine gate_builtin (b := .append) (xs := #[.tmp 47, .tmp 51]) rfl ?_); at_builtin; refine Kd.R_append k84 (w0 := w) w.heap.size rfl (.tmp 47) (.tmp 51) 25 84 (.agg #[(.int .i64 0), (.int .i64 0), (.int .i64 0)]) 24 rfl Try.underlying25 info84 rfl (by decide) (by omega) v1094 y1093 (⟨a1, a2, 1⟩ : S84) [.int .i64 a1, .int .i64 a2, .int .i64 1] (fun _ => True) (fun _ => False) rfl rfl ?aP (fun _ hk => hk.elim) ?aF ?aO ?aB ?aS ?aL ?_; (case aP => exact k84_mkM _ _ _ (⟨a1, a2, 1⟩ : S84)); (case aB => exact (by repeat (first | (with_reducible first | exact HB.out | apply below_alloc | apply pw_below_drewN | apply below_drew1) | exact HB.out))); (case aF => exact (fun _ _ => trivial)); (case aO => exact (by (with_reducible repeat (first | apply Kd.R_alloc | apply Kd.R_drewN | apply Kd.R_drew)); exact HO1095.out)); (case aS => exact (below_size (by repeat (first | (with_reducible first | exact HB.out | apply below_alloc | apply pw_below_drewN | apply below_drew1) | exact HB.out)))); (case aL => have := LMc12.out; omega); intro v1097 w20 ho hb hg hat; rw [← Ny1096.out] at ho; have n0_ := Aside0.mk (hb); have n1_ := Aside0.mk (ho); clear HB; clear HO1095; have HB := n0_; have HO1098 := n1_; clear n0_ n1_; clear ho hb hg hat; have q21 : (x7_1 : Int) ≤ ((l0.length : Int) : Int) := of_decide_eq_true (by first | (with_reducible assumption) | assumption); obtain ⟨i021, hi021, _, hsz21, _⟩ := info_parts info84; have hroom21 : l0.length ≤ c0 := HC0.out; have hC21 : Kd.C k84 _ (some ad1083) l0.length l0 := HR0.out; have q021 : (0 : Int) ≤ (x7_1 : Int) := of_decide_eq_true (by first | (with_reducible assumption) | assumption); have hcut21 := cut_from (P := Try.prog) 25 84 .i64 Try.underlying25 hi021 3 hsz21 (some ad1083) l0.length c0 x7_1 q021 q21; have hr21 := Kd.C_drop (m := (x7_1 : Int).toNat) (c := c0) hC21 (by omega) hroom21; obtain ⟨A21, hA21⟩ : ∃ A1, A1 = (if c0 = (x7_1 : Int).toNat then (some ad1083) else ((some ad1083) : Option Addr).map (·.add ((x7_1 : Int).toNat * 3))) := ⟨_, rfl⟩; obtain ⟨c21, hc21⟩ : ∃ c1, c1 = c0 - (x7_1 : Int).toNat := ⟨_, rfl⟩; have hy21 : y1099.length = l0.length - (x7_1 : Int).toNat := (by rw [Ny1099.out, List.length_drop] <;> omega); rw [show (l0).drop (x7_1 : Int).toNat = y1099 from Ny1099.out.symm] at hr21; replace hr21 : Kd.C k84 _ A21 y1099.length y1099 := (by rw [hA21]; exact hr21); rw [← hy21, ← hA21, ← hc21] at hcut21; have HR1102 := Aside0.mk hr21; have HC1102 := Aside0.mk (show y1099.length ≤ c21 from by rw [hy21, hc21]; exact Nat.sub_le_sub_right hroom21 _); clear hr21 hC21 hroom21 hi021 hsz21 hc21; have KY21 := Aside0.mk hy21; have KA21 := Aside0.mk hA21; clear hy21 hA21; replace q21 := eq_true q21) | ((with_reducible refine gate_builtin (b := .append) (xs := #[.tmp 53, .tmp 56]) rfl ?_); at_builtin; refine Kd.R_append_rows k84 (w0 := w) w.heap.size rfl (.tmp 53) (.tmp 56) 25 84 (.agg #[(.int .i64 0), (.int .i64 0), (.int .i64 0)]) 24 rfl Try.underlying25 info84 rfl (by decide) (by omega) v1097 y1096 y1099 _ _ _ (fun _ => True) (fun _ => False) rfl rfl ?aO ?aR (fun _ _ h => h) (fun _ h => h.elim) ?aF ?aB ?aS ?aL ?_; (case aR => repeat (first | exact (Kd.C_below HR1102.out HB.out) | (with_reducible refine Kd.C_alloc ?_ _) | (with_reducible refine Kd.C_drewN ?_ _) | (with_reducible refine Kd.C_drew ?_))); (case aB => exact (by repeat (first | (with_reducible first | exact HB.out | apply below_alloc | apply pw_below_drewN | apply below_drew1) | exact HB.out))); (case aF => exact (fun _ _ => trivial)); (case aO => exact (by (with_reducible repeat (first | apply Kd.R_alloc | apply Kd.R_drewN | apply Kd.R_drew)); exact HO1098.out)); (case aS => exact (below_size (by repeat (first | (with_reducible first | exact HB.out | apply below_alloc | apply pw_below_drewN | apply below_drew1) | exact HB.out)))); (case aL => have := LMc15.out; omega); intro v1104 w22 ho hb hg hat; rw [← Ny1103.out] at ho; have n0_ := Aside0.mk (hb); have n1_ := Aside0.mk (ho); clear HB; clear HO1098; have HB := n0_; have HO1105 := n1_; clear n0_ n1_; clear ho hb hg hat))
            go_ret
            exact ⟨_, by first | rfl | (simp [errW_none, errW_some] <;> rfl) | (simp [*, errW_none, errW_some] <;> rfl), by (with_reducible repeat (first | apply Kd.R_alloc | apply Kd.R_drewN | apply Kd.R_drew)); exact HO1105.out, by repeat (first | (with_reducible first | exact HB.out | apply below_alloc | apply pw_below_drewN | apply below_drew1) | exact HB.out)⟩
           ·rw [if_neg c15] at H
            exact absurd H (by simp)
          ·rw [if_neg c12] at H
           exact absurd H (by simp)
         ·rw [if_neg c11] at H
          exact absurd H (by simp)
        ·rw [if_neg c10] at H
         exact absurd H (by simp)
      ·rw [if_neg c7] at H
       have c7b0 : (((rd_T84 l0 x7_1).f0) == a1) = false := beq_eq_false_iff_ne.mpr c7
       have c7b1 : (((rd_T84 l0 x7_1).f0) != a1) = true := bne_iff_ne.mpr c7
       obtain ⟨y1106, hy1106⟩ : ∃ y_ : List (S84), y_ = (([] : List (S84))) := ⟨_, rfl⟩
       replace H : (if x7_1 ≤ (l0.length : Int) then ((some (l0.take (x7_1 : Int).toNat : List (S84))).bind fun y1109 => (if y1106.length + y1109.length < 5864062014805 then ((some (y1106 ++ y1109 : List (S84))).bind fun y1113 => (if y1113.length < 5864062014805 then ((some (y1113 ++ [(⟨a1, a2, 1⟩ : S84)] : List (S84))).bind fun y1116 => ((some (l0.drop (x7_1 : Int).toNat : List (S84))).bind fun y1119 => (if y1116.length + y1119.length < 5864062014805 then (some (y1116 ++ y1119)) else (none)))) else (none))) else (none))) else (none)) = some r := by first | (rw [hy1106]; with_reducible exact H) | (have H2_ := (Option.bind_some _ _).symm.trans H; rw [hy1106]; with_reducible exact H2_) | (have H2_ := (Option.bind_some _ _).symm.trans H; with_reducible exact H2_) | with_reducible exact H | (rw [hy1106]; exact H) | exact H
       have Ny1106 := Aside0.mk hy1106
       clear hy1106
       have c23b0 := eq_true (of_decide_eq_true (by first | (with_reducible assumption) | assumption) : 0 ≤ x7_1)
       by_cases c24 : x7_1 ≤ (l0.length : Int)
       ·rw [if_pos c24] at H
        have c24b0 := eq_true c24
        have c24b1 : decide (x7_1 ≤ (l0.length : Int)) = true := decide_eq_true c24
        clear c24
        obtain ⟨y1109, hy1109⟩ : ∃ y_ : List (S84), y_ = (l0.take (x7_1 : Int).toNat) := ⟨_, rfl⟩
        replace H : (if y1106.length + y1109.length < 5864062014805 then ((some (y1106 ++ y1109 : List (S84))).bind fun y1113 => (if y1113.length < 5864062014805 then ((some (y1113 ++ [(⟨a1, a2, 1⟩ : S84)] : List (S84))).bind fun y1116 => ((some (l0.drop (x7_1 : Int).toNat : List (S84))).bind fun y1119 => (if y1116.length + y1119.length < 5864062014805 then (some (y1116 ++ y1119)) else (none)))) else (none))) else (none)) = some r := by first | (rw [hy1109]; with_reducible exact H) | (have H2_ := (Option.bind_some _ _).symm.trans H; rw [hy1109]; with_reducible exact H2_) | (have H2_ := (Option.bind_some _ _).symm.trans H; with_reducible exact H2_) | with_reducible exact H | (rw [hy1109]; exact H) | exact H
        have Ny1109 := Aside0.mk hy1109
        clear hy1109
        by_cases c25 : y1106.length + y1109.length < 5864062014805
        ·rw [if_pos c25] at H
         have LMc25 := Aside0.mk c25
         clear c25
         obtain ⟨y1113, hy1113⟩ : ∃ y_ : List (S84), y_ = (y1106 ++ y1109) := ⟨_, rfl⟩
         replace H : (if y1113.length < 5864062014805 then ((some (y1113 ++ [(⟨a1, a2, 1⟩ : S84)] : List (S84))).bind fun y1116 => ((some (l0.drop (x7_1 : Int).toNat : List (S84))).bind fun y1119 => (if y1116.length + y1119.length < 5864062014805 then (some (y1116 ++ y1119)) else (none)))) else (none)) = some r := by first | (rw [hy1113]; with_reducible exact H) | (have H2_ := (Option.bind_some _ _).symm.trans H; rw [hy1113]; with_reducible exact H2_) | (have H2_ := (Option.bind_some _ _).symm.trans H; with_reducible exact H2_) | with_reducible exact H | (rw [hy1113]; exact H) | exact H
         have Ny1113 := Aside0.mk hy1113
         clear hy1113
         by_cases c26 : y1113.length < 5864062014805
         ·rw [if_pos c26] at H
          have LMc26 := Aside0.mk c26
          clear c26
          obtain ⟨y1116, hy1116⟩ : ∃ y_ : List (S84), y_ = (y1113 ++ [(⟨a1, a2, 1⟩ : S84)]) := ⟨_, rfl⟩
          replace H : ((some (l0.drop (x7_1 : Int).toNat : List (S84))).bind fun y1119 => (if y1116.length + y1119.length < 5864062014805 then (some (y1116 ++ y1119)) else (none))) = some r := by first | (rw [hy1116]; with_reducible exact H) | (have H2_ := (Option.bind_some _ _).symm.trans H; rw [hy1116]; with_reducible exact H2_) | (have H2_ := (Option.bind_some _ _).symm.trans H; with_reducible exact H2_) | with_reducible exact H | (rw [hy1116]; exact H) | exact H
          have Ny1116 := Aside0.mk hy1116
          clear hy1116
          have c27b0 := eq_true (of_decide_eq_true (by first | (with_reducible assumption) | assumption) : 0 ≤ x7_1)
          have c28b0 := eq_true (of_decide_eq_true (by first | (with_reducible assumption) | assumption) : x7_1 ≤ (l0.length : Int))
          obtain ⟨y1119, hy1119⟩ : ∃ y_ : List (S84), y_ = (l0.drop (x7_1 : Int).toNat) := ⟨_, rfl⟩
          replace H : (if y1116.length + y1119.length < 5864062014805 then (some (y1116 ++ y1119)) else (none)) = some r := by first | (rw [hy1119]; with_reducible exact H) | (have H2_ := (Option.bind_some _ _).symm.trans H; rw [hy1119]; with_reducible exact H2_) | (have H2_ := (Option.bind_some _ _).symm.trans H; with_reducible exact H2_) | with_reducible exact H | (rw [hy1119]; exact H) | exact H
          have Ny1119 := Aside0.mk hy1119
          clear hy1119
          by_cases c29 : y1116.length + y1119.length < 5864062014805
          ·rw [if_pos c29] at H
           have LMc29 := Aside0.mk c29
           clear c29
           obtain ⟨y1123, hy1123⟩ : ∃ y_ : List (S84), y_ = (y1116 ++ y1119) := ⟨_, rfl⟩
           replace H : (some y1123) = some r := by first | (rw [hy1123]; with_reducible exact H) | (have H2_ := (Option.bind_some _ _).symm.trans H; rw [hy1123]; with_reducible exact H2_) | (have H2_ := (Option.bind_some _ _).symm.trans H; with_reducible exact H2_) | with_reducible exact H | (rw [hy1123]; exact H) | exact H
           have Ny1123 := Aside0.mk hy1123
           clear hy1123
           obtain rfl := Option.some.inj H
           have p1083 : 0 ≤ (x7_1 : Int) := of_decide_eq_true (by first | (with_reducible assumption) | assumption)
           have q1083 : x7_1 < (l0.length : Int) := of_decide_eq_true (by first | (with_reducible assumption) | assumption)
           obtain ⟨ad1083, e1083, hx1083_0, hx1083_1, hx1083_2⟩ := at_T84 HR0.out x7_1 p1083 q1083
           cases e1083
           replace hx1083_0 := (HB.out.cell (World.block_lt_of_cell? w _ hx1083_0)).trans hx1083_0
           replace hx1083_1 := (HB.out.cell (World.block_lt_of_cell? w _ hx1083_1)).trans hx1083_1
           replace hx1083_2 := (HB.out.cell (World.block_lt_of_cell? w _ hx1083_2)).trans hx1083_2
           replace p1083 := eq_true p1083
           replace q1083 := eq_true q1083
           have p1084 : 0 ≤ (x7_1 : Int) := of_decide_eq_true (by first | (with_reducible assumption) | assumption)
           have q1084 : x7_1 < (l0.length : Int) := of_decide_eq_true (by first | (with_reducible assumption) | assumption)
           obtain ⟨ad1084, e1084, hx1084_0, hx1084_1, hx1084_2⟩ := at_T84 HR0.out x7_1 p1084 q1084
           obtain rfl : ad1083 = ad1084 := (by injection e1084)
           replace hx1084_0 := (HB.out.cell (World.block_lt_of_cell? w _ hx1084_0)).trans hx1084_0
           replace hx1084_1 := (HB.out.cell (World.block_lt_of_cell? w _ hx1084_1)).trans hx1084_1
           replace hx1084_2 := (HB.out.cell (World.block_lt_of_cell? w _ hx1084_2)).trans hx1084_2
           replace p1084 := eq_true p1084
           replace q1084 := eq_true q1084
           go_wp2_with (first | ((with_reducible refine gate_dst (N := 42) rfl ?_); refine Kd.R_lit k84 _ 84 ?hg (N := 42) ?hd (xs := ([] : List (S84))) (inner := []) (ok := fun _ => True) (okp := fun _ => True) ?hr ?hp (fun _ hk => hk) trivial (Below.refl _ _) (Nat.le_refl _) (by simp) ?_; (case hd => rfl); (case hg => rfl); (case hr => first | (go_simp; done) | (go_simp; rfl)); (case hp => exact (Reps.none _ _)); intro v1107 w30 ho31 hb hg_ hnew_; clear hg_ hnew_; (first | rw [← Ny1106.out] at ho31 | (simp only [Int.reduceToNat] at ho31; rw [← Ny1106.out] at ho31)); have n0_ := Aside0.mk (Kd.R_lower ho31 (below_size (by repeat (first | (with_reducible first | exact HB.out | apply below_alloc | apply pw_below_drewN | apply below_drew1) | exact HB.out)))); have n1_ := Aside0.mk (below_step (by repeat (first | (with_reducible first | exact HB.out | apply below_alloc | apply pw_below_drewN | apply below_drew1) | exact HB.out)) hb); clear HB; have HO1108 := n0_; have HB := n1_; clear n0_ n1_; clear hb ho31; have q32 : (x7_1 : Int) ≤ ((l0.length : Int) : Int) := of_decide_eq_true (by first | (with_reducible assumption) | assumption); obtain ⟨i032, hi032, _, hsz32, _⟩ := info_parts info84; have hroom32 : l0.length ≤ c0 := HC0.out; have hC32 : Kd.C k84 _ (some ad1083) l0.length l0 := HR0.out; have hcut32 := cut_to (P := Try.prog) 25 84 .i64 Try.underlying25 hi032 (some ad1083) l0.length c0 x7_1 (of_decide_eq_true (by first | (with_reducible assumption) | assumption)) q32 hroom32; have hr32 := Kd.C_take (m := (x7_1 : Int).toNat) hC32 (by omega); have hy32 : y1109.length = (x7_1 : Int).toNat := (by rw [Ny1109.out, List.length_take]; omega); rw [← Ny1109.out] at hr32; rw [← hy32] at hcut32; have HR1112 := Aside0.mk hr32; have HC1112 := Aside0.mk (show y1109.length ≤ c0 from by omega); clear hr32 hC32 hroom32 hi032 hsz32; have KY32 := Aside0.mk hy32; clear hy32; replace q32 := eq_true q32) | ((with_reducible refine gate_builtin (b := .append) (xs := #[.tmp 42, .tmp 45]) rfl ?_); at_builtin; refine Kd.R_append_rows k84 (w0 := w) w.heap.size rfl (.tmp 42) (.tmp 45) 25 84 (.agg #[(.int .i64 0), (.int .i64 0), (.int .i64 0)]) 24 rfl Try.underlying25 info84 rfl (by decide) (by omega) v1107 y1106 y1109 _ _ _ (fun _ => True) (fun _ => False) rfl rfl ?aO ?aR (fun _ _ h => h) (fun _ h => h.elim) ?aF ?aB ?aS ?aL ?_; (case aR => repeat (first | exact (Kd.C_below HR1112.out HB.out) | (with_reducible refine Kd.C_alloc ?_ _) | (with_reducible refine Kd.C_drewN ?_ _) | (with_reducible refine Kd.C_drew ?_))); (case aB => exact (by repeat (first | (with_reducible first | exact HB.out | apply below_alloc | apply pw_below_drewN | apply below_drew1) | exact HB.out))); (case aF => exact (fun _ _ => trivial)); (case aO => exact (by (with_reducible repeat (first | apply Kd.R_alloc | apply Kd.R_drewN | apply Kd.R_drew)); exact HO1108.out)); (case aS => exact (below_size (by repeat (first | (with_reducible first | exact HB.out | apply below_alloc | apply pw_below_drewN | apply below_drew1) | exact HB.out)))); (case aL => have := LMc25.out; omega); intro v1114 w33 ho hb hg hat; rw [← Ny1113.out] at ho; have n0_ := Aside0.mk (hb); have n1_ := Aside0.mk (ho); clear HB; clear HO1108; have HB := n0_; have HO1115 := n1_; clear n0_ n1_; clear ho hb hg hat) | ((with_reducible refine gate_builtin (b := .append) (xs := #[.tmp 47, .tmp 51]) rfl ?_); at_builtin; refine Kd.R_append k84 (w0 := w) w.heap.size rfl (.tmp 47) (.tmp 51) 25 84 (.agg #[(.int .i64 0), (.int .i64 0), (.int .i64 0)]) 24 rfl Try.underlying25 info84 rfl (by decide) (by omega) v1114 y1113 (⟨a1, a2, 1⟩ : S84) [.int .i64 a1, .int .i64 a2, .int .i64 1] (fun _ => True) (fun _ => False) rfl rfl ?aP (fun _ hk => hk.elim) ?aF ?aO ?aB ?aS ?aL ?_; (case aP => exact k84_mkM _ _ _ (⟨a1, a2, 1⟩ : S84)); (case aB => exact (by repeat (first | (with_reducible first | exact HB.out | apply below_alloc | apply pw_below_drewN | apply below_drew1) | exact HB.out))); (case aF => exact (fun _ _ => trivial)); (case aO => exact (by (with_reducible repeat (first | apply Kd.R_alloc | apply Kd.R_drewN | apply Kd.R_drew)); exact HO1115.out)); (case aS => exact (below_size (by repeat (first | (with_reducible first | exact HB.out | apply below_alloc | apply pw_below_drewN | apply below_drew1) | exact HB.out)))); (case aL => have := LMc26.out; omega); intro v1117 w34 ho hb hg hat; rw [← Ny1116.out] at ho; have n0_ := Aside0.mk (hb); have n1_ := Aside0.mk (ho); clear HB; clear HO1115; have HB := n0_; have HO1118 := n1_; clear n0_ n1_; clear ho hb hg hat; have q35 : (x7_1 : Int) ≤ ((l0.length : Int) : Int) := of_decide_eq_true (by first | (with_reducible assumption) | assumption); obtain ⟨i035, hi035, _, hsz35, _⟩ := info_parts info84; have hroom35 : l0.length ≤ c0 := HC0.out; have hC35 : Kd.C k84 _ (some ad1083) l0.length l0 := HR0.out; have q035 : (0 : Int) ≤ (x7_1 : Int) := of_decide_eq_true (by first | (with_reducible assumption) | assumption); have hcut35 := cut_from (P := Try.prog) 25 84 .i64 Try.underlying25 hi035 3 hsz35 (some ad1083) l0.length c0 x7_1 q035 q35; have hr35 := Kd.C_drop (m := (x7_1 : Int).toNat) (c := c0) hC35 (by omega) hroom35; obtain ⟨A35, hA35⟩ : ∃ A1, A1 = (if c0 = (x7_1 : Int).toNat then (some ad1083) else ((some ad1083) : Option Addr).map (·.add ((x7_1 : Int).toNat * 3))) := ⟨_, rfl⟩; obtain ⟨c35, hc35⟩ : ∃ c1, c1 = c0 - (x7_1 : Int).toNat := ⟨_, rfl⟩; have hy35 : y1119.length = l0.length - (x7_1 : Int).toNat := (by rw [Ny1119.out, List.length_drop] <;> omega); rw [show (l0).drop (x7_1 : Int).toNat = y1119 from Ny1119.out.symm] at hr35; replace hr35 : Kd.C k84 _ A35 y1119.length y1119 := (by rw [hA35]; exact hr35); rw [← hy35, ← hA35, ← hc35] at hcut35; have HR1122 := Aside0.mk hr35; have HC1122 := Aside0.mk (show y1119.length ≤ c35 from by rw [hy35, hc35]; exact Nat.sub_le_sub_right hroom35 _); clear hr35 hC35 hroom35 hi035 hsz35 hc35; have KY35 := Aside0.mk hy35; have KA35 := Aside0.mk hA35; clear hy35 hA35; replace q35 := eq_true q35) | ((with_reducible refine gate_builtin (b := .append) (xs := #[.tmp 53, .tmp 56]) rfl ?_); at_builtin; refine Kd.R_append_rows k84 (w0 := w) w.heap.size rfl (.tmp 53) (.tmp 56) 25 84 (.agg #[(.int .i64 0), (.int .i64 0), (.int .i64 0)]) 24 rfl Try.underlying25 info84 rfl (by decide) (by omega) v1117 y1116 y1119 _ _ _ (fun _ => True) (fun _ => False) rfl rfl ?aO ?aR (fun _ _ h => h) (fun _ h => h.elim) ?aF ?aB ?aS ?aL ?_; (case aR => repeat (first | exact (Kd.C_below HR1122.out HB.out) | (with_reducible refine Kd.C_alloc ?_ _) | (with_reducible refine Kd.C_drewN ?_ _) | (with_reducible refine Kd.C_drew ?_))); (case aB => exact (by repeat (first | (with_reducible first | exact HB.out | apply below_alloc | apply pw_below_drewN | apply below_drew1) | exact HB.out))); (case aF => exact (fun _ _ => trivial)); (case aO => exact (by (with_reducible repeat (first | apply Kd.R_alloc | apply Kd.R_drewN | apply Kd.R_drew)); exact HO1118.out)); (case aS => exact (below_size (by repeat (first | (with_reducible first | exact HB.out | apply below_alloc | apply pw_below_drewN | apply below_drew1) | exact HB.out)))); (case aL => have := LMc29.out; omega); intro v1124 w36 ho hb hg hat; rw [← Ny1123.out] at ho; have n0_ := Aside0.mk (hb); have n1_ := Aside0.mk (ho); clear HB; clear HO1118; have HB := n0_; have HO1125 := n1_; clear n0_ n1_; clear ho hb hg hat))
           go_ret
           exact ⟨_, by first | rfl | (simp [errW_none, errW_some] <;> rfl) | (simp [*, errW_none, errW_some] <;> rfl), by (with_reducible repeat (first | apply Kd.R_alloc | apply Kd.R_drewN | apply Kd.R_drew)); exact HO1125.out, by repeat (first | (with_reducible first | exact HB.out | apply below_alloc | apply pw_below_drewN | apply below_drew1) | exact HB.out)⟩
          ·rw [if_neg c29] at H
           exact absurd H (by simp)
         ·rw [if_neg c26] at H
          exact absurd H (by simp)
        ·rw [if_neg c25] at H
         exact absurd H (by simp)
       ·rw [if_neg c24] at H
        exact absurd H (by simp)
    ·rw [if_neg c5] at H
     exact absurd H (by simp)
   ·rw [if_neg c4] at H
    have c4b0 : decide (x7_1 < (l0.length : Int)) = false := decide_eq_false c4
    clear c4
    obtain ⟨y1126, hy1126⟩ : ∃ y_ : List (S84), y_ = (([] : List (S84))) := ⟨_, rfl⟩
    replace H : (if 0 ≤ x7_1 then (if x7_1 ≤ (l0.length : Int) then ((some (l0.take (x7_1 : Int).toNat : List (S84))).bind fun y1129 => (if y1126.length + y1129.length < 5864062014805 then ((some (y1126 ++ y1129 : List (S84))).bind fun y1133 => (if y1133.length < 5864062014805 then ((some (y1133 ++ [(⟨a1, a2, 1⟩ : S84)] : List (S84))).bind fun y1136 => ((some (l0.drop (x7_1 : Int).toNat : List (S84))).bind fun y1139 => (if y1136.length + y1139.length < 5864062014805 then (some (y1136 ++ y1139)) else (none)))) else (none))) else (none))) else (none)) else (none)) = some r := by first | (rw [hy1126]; with_reducible exact H) | (have H2_ := (Option.bind_some _ _).symm.trans H; rw [hy1126]; with_reducible exact H2_) | (have H2_ := (Option.bind_some _ _).symm.trans H; with_reducible exact H2_) | with_reducible exact H | (rw [hy1126]; exact H) | exact H
    have Ny1126 := Aside0.mk hy1126
    clear hy1126
    by_cases c37 : 0 ≤ x7_1
    ·rw [if_pos c37] at H
     have c37b0 := eq_true c37
     have c37b1 : decide (0 ≤ x7_1) = true := decide_eq_true c37
     clear c37
     by_cases c38 : x7_1 ≤ (l0.length : Int)
     ·rw [if_pos c38] at H
      have c38b0 := eq_true c38
      have c38b1 : decide (x7_1 ≤ (l0.length : Int)) = true := decide_eq_true c38
      clear c38
      obtain ⟨y1129, hy1129⟩ : ∃ y_ : List (S84), y_ = (l0.take (x7_1 : Int).toNat) := ⟨_, rfl⟩
      replace H : (if y1126.length + y1129.length < 5864062014805 then ((some (y1126 ++ y1129 : List (S84))).bind fun y1133 => (if y1133.length < 5864062014805 then ((some (y1133 ++ [(⟨a1, a2, 1⟩ : S84)] : List (S84))).bind fun y1136 => ((some (l0.drop (x7_1 : Int).toNat : List (S84))).bind fun y1139 => (if y1136.length + y1139.length < 5864062014805 then (some (y1136 ++ y1139)) else (none)))) else (none))) else (none)) = some r := by first | (rw [hy1129]; with_reducible exact H) | (have H2_ := (Option.bind_some _ _).symm.trans H; rw [hy1129]; with_reducible exact H2_) | (have H2_ := (Option.bind_some _ _).symm.trans H; with_reducible exact H2_) | with_reducible exact H | (rw [hy1129]; exact H) | exact H
      have Ny1129 := Aside0.mk hy1129
      clear hy1129
      by_cases c39 : y1126.length + y1129.length < 5864062014805
      ·rw [if_pos c39] at H
       have LMc39 := Aside0.mk c39
       clear c39
       obtain ⟨y1133, hy1133⟩ : ∃ y_ : List (S84), y_ = (y1126 ++ y1129) := ⟨_, rfl⟩
       replace H : (if y1133.length < 5864062014805 then ((some (y1133 ++ [(⟨a1, a2, 1⟩ : S84)] : List (S84))).bind fun y1136 => ((some (l0.drop (x7_1 : Int).toNat : List (S84))).bind fun y1139 => (if y1136.length + y1139.length < 5864062014805 then (some (y1136 ++ y1139)) else (none)))) else (none)) = some r := by first | (rw [hy1133]; with_reducible exact H) | (have H2_ := (Option.bind_some _ _).symm.trans H; rw [hy1133]; with_reducible exact H2_) | (have H2_ := (Option.bind_some _ _).symm.trans H; with_reducible exact H2_) | with_reducible exact H | (rw [hy1133]; exact H) | exact H
       have Ny1133 := Aside0.mk hy1133
       clear hy1133
       by_cases c40 : y1133.length < 5864062014805
       ·rw [if_pos c40] at H
        have LMc40 := Aside0.mk c40
        clear c40
        obtain ⟨y1136, hy1136⟩ : ∃ y_ : List (S84), y_ = (y1133 ++ [(⟨a1, a2, 1⟩ : S84)]) := ⟨_, rfl⟩
        replace H : ((some (l0.drop (x7_1 : Int).toNat : List (S84))).bind fun y1139 => (if y1136.length + y1139.length < 5864062014805 then (some (y1136 ++ y1139)) else (none))) = some r := by first | (rw [hy1136]; with_reducible exact H) | (have H2_ := (Option.bind_some _ _).symm.trans H; rw [hy1136]; with_reducible exact H2_) | (have H2_ := (Option.bind_some _ _).symm.trans H; with_reducible exact H2_) | with_reducible exact H | (rw [hy1136]; exact H) | exact H
        have Ny1136 := Aside0.mk hy1136
        clear hy1136
        have c41b0 := eq_true (of_decide_eq_true (by first | (with_reducible assumption) | assumption) : 0 ≤ x7_1)
        have c42b0 := eq_true (of_decide_eq_true (by first | (with_reducible assumption) | assumption) : x7_1 ≤ (l0.length : Int))
        obtain ⟨y1139, hy1139⟩ : ∃ y_ : List (S84), y_ = (l0.drop (x7_1 : Int).toNat) := ⟨_, rfl⟩
        replace H : (if y1136.length + y1139.length < 5864062014805 then (some (y1136 ++ y1139)) else (none)) = some r := by first | (rw [hy1139]; with_reducible exact H) | (have H2_ := (Option.bind_some _ _).symm.trans H; rw [hy1139]; with_reducible exact H2_) | (have H2_ := (Option.bind_some _ _).symm.trans H; with_reducible exact H2_) | with_reducible exact H | (rw [hy1139]; exact H) | exact H
        have Ny1139 := Aside0.mk hy1139
        clear hy1139
        by_cases c43 : y1136.length + y1139.length < 5864062014805
        ·rw [if_pos c43] at H
         have LMc43 := Aside0.mk c43
         clear c43
         obtain ⟨y1143, hy1143⟩ : ∃ y_ : List (S84), y_ = (y1136 ++ y1139) := ⟨_, rfl⟩
         replace H : (some y1143) = some r := by first | (rw [hy1143]; with_reducible exact H) | (have H2_ := (Option.bind_some _ _).symm.trans H; rw [hy1143]; with_reducible exact H2_) | (have H2_ := (Option.bind_some _ _).symm.trans H; with_reducible exact H2_) | with_reducible exact H | (rw [hy1143]; exact H) | exact H
         have Ny1143 := Aside0.mk hy1143
         clear hy1143
         obtain rfl := Option.some.inj H
         go_wp2_with (first | ((with_reducible refine gate_dst (N := 42) rfl ?_); refine Kd.R_lit k84 _ 84 ?hg (N := 42) ?hd (xs := ([] : List (S84))) (inner := []) (ok := fun _ => True) (okp := fun _ => True) ?hr ?hp (fun _ hk => hk) trivial (Below.refl _ _) (Nat.le_refl _) (by simp) ?_; (case hd => rfl); (case hg => rfl); (case hr => first | (go_simp; done) | (go_simp; rfl)); (case hp => exact (Reps.none _ _)); intro v1127 w44 ho45 hb hg_ hnew_; clear hg_ hnew_; (first | rw [← Ny1126.out] at ho45 | (simp only [Int.reduceToNat] at ho45; rw [← Ny1126.out] at ho45)); have n0_ := Aside0.mk (Kd.R_lower ho45 (below_size (by repeat (first | (with_reducible first | exact HB.out | apply below_alloc | apply pw_below_drewN | apply below_drew1) | exact HB.out)))); have n1_ := Aside0.mk (below_step (by repeat (first | (with_reducible first | exact HB.out | apply below_alloc | apply pw_below_drewN | apply below_drew1) | exact HB.out)) hb); clear HB; have HO1128 := n0_; have HB := n1_; clear n0_ n1_; clear hb ho45; have q46 : (x7_1 : Int) ≤ ((l0.length : Int) : Int) := of_decide_eq_true (by first | (with_reducible assumption) | assumption); obtain ⟨i046, hi046, _, hsz46, _⟩ := info_parts info84; have hroom46 : l0.length ≤ c0 := HC0.out; have hC46 : Kd.C k84 _ A0 l0.length l0 := HR0.out; have hcut46 := cut_to (P := Try.prog) 25 84 .i64 Try.underlying25 hi046 A0 l0.length c0 x7_1 (of_decide_eq_true (by first | (with_reducible assumption) | assumption)) q46 hroom46; have hr46 := Kd.C_take (m := (x7_1 : Int).toNat) hC46 (by omega); have hy46 : y1129.length = (x7_1 : Int).toNat := (by rw [Ny1129.out, List.length_take]; omega); rw [← Ny1129.out] at hr46; rw [← hy46] at hcut46; have HR1132 := Aside0.mk hr46; have HC1132 := Aside0.mk (show y1129.length ≤ c0 from by omega); clear hr46 hC46 hroom46 hi046 hsz46; have KY46 := Aside0.mk hy46; clear hy46; replace q46 := eq_true q46) | ((with_reducible refine gate_builtin (b := .append) (xs := #[.tmp 42, .tmp 45]) rfl ?_); at_builtin; refine Kd.R_append_rows k84 (w0 := w) w.heap.size rfl (.tmp 42) (.tmp 45) 25 84 (.agg #[(.int .i64 0), (.int .i64 0), (.int .i64 0)]) 24 rfl Try.underlying25 info84 rfl (by decide) (by omega) v1127 y1126 y1129 _ _ _ (fun _ => True) (fun _ => False) rfl rfl ?aO ?aR (fun _ _ h => h) (fun _ h => h.elim) ?aF ?aB ?aS ?aL ?_; (case aR => repeat (first | exact (Kd.C_below HR1132.out HB.out) | (with_reducible refine Kd.C_alloc ?_ _) | (with_reducible refine Kd.C_drewN ?_ _) | (with_reducible refine Kd.C_drew ?_))); (case aB => exact (by repeat (first | (with_reducible first | exact HB.out | apply below_alloc | apply pw_below_drewN | apply below_drew1) | exact HB.out))); (case aF => exact (fun _ _ => trivial)); (case aO => exact (by (with_reducible repeat (first | apply Kd.R_alloc | apply Kd.R_drewN | apply Kd.R_drew)); exact HO1128.out)); (case aS => exact (below_size (by repeat (first | (with_reducible first | exact HB.out | apply below_alloc | apply pw_below_drewN | apply below_drew1) | exact HB.out)))); (case aL => have := LMc39.out; omega); intro v1134 w47 ho hb hg hat; rw [← Ny1133.out] at ho; have n0_ := Aside0.mk (hb); have n1_ := Aside0.mk (ho); clear HB; clear HO1128; have HB := n0_; have HO1135 := n1_; clear n0_ n1_; clear ho hb hg hat) | ((with_reducible refine gate_builtin (b := .append) (xs := #[.tmp 47, .tmp 51]) rfl ?_); at_builtin; refine Kd.R_append k84 (w0 := w) w.heap.size rfl (.tmp 47) (.tmp 51) 25 84 (.agg #[(.int .i64 0), (.int .i64 0), (.int .i64 0)]) 24 rfl Try.underlying25 info84 rfl (by decide) (by omega) v1134 y1133 (⟨a1, a2, 1⟩ : S84) [.int .i64 a1, .int .i64 a2, .int .i64 1] (fun _ => True) (fun _ => False) rfl rfl ?aP (fun _ hk => hk.elim) ?aF ?aO ?aB ?aS ?aL ?_; (case aP => exact k84_mkM _ _ _ (⟨a1, a2, 1⟩ : S84)); (case aB => exact (by repeat (first | (with_reducible first | exact HB.out | apply below_alloc | apply pw_below_drewN | apply below_drew1) | exact HB.out))); (case aF => exact (fun _ _ => trivial)); (case aO => exact (by (with_reducible repeat (first | apply Kd.R_alloc | apply Kd.R_drewN | apply Kd.R_drew)); exact HO1135.out)); (case aS => exact (below_size (by repeat (first | (with_reducible first | exact HB.out | apply below_alloc | apply pw_below_drewN | apply below_drew1) | exact HB.out)))); (case aL => have := LMc40.out; omega); intro v1137 w48 ho hb hg hat; rw [← Ny1136.out] at ho; have n0_ := Aside0.mk (hb); have n1_ := Aside0.mk (ho); clear HB; clear HO1135; have HB := n0_; have HO1138 := n1_; clear n0_ n1_; clear ho hb hg hat; have q49 : (x7_1 : Int) ≤ ((l0.length : Int) : Int) := of_decide_eq_true (by first | (with_reducible assumption) | assumption); obtain ⟨i049, hi049, _, hsz49, _⟩ := info_parts info84; have hroom49 : l0.length ≤ c0 := HC0.out; have hC49 : Kd.C k84 _ A0 l0.length l0 := HR0.out; have q049 : (0 : Int) ≤ (x7_1 : Int) := of_decide_eq_true (by first | (with_reducible assumption) | assumption); have hcut49 := cut_from (P := Try.prog) 25 84 .i64 Try.underlying25 hi049 3 hsz49 A0 l0.length c0 x7_1 q049 q49; have hr49 := Kd.C_drop (m := (x7_1 : Int).toNat) (c := c0) hC49 (by omega) hroom49; obtain ⟨A49, hA49⟩ : ∃ A1, A1 = (if c0 = (x7_1 : Int).toNat then A0 else (A0 : Option Addr).map (·.add ((x7_1 : Int).toNat * 3))) := ⟨_, rfl⟩; obtain ⟨c49, hc49⟩ : ∃ c1, c1 = c0 - (x7_1 : Int).toNat := ⟨_, rfl⟩; have hy49 : y1139.length = l0.length - (x7_1 : Int).toNat := (by rw [Ny1139.out, List.length_drop] <;> omega); rw [show (l0).drop (x7_1 : Int).toNat = y1139 from Ny1139.out.symm] at hr49; replace hr49 : Kd.C k84 _ A49 y1139.length y1139 := (by rw [hA49]; exact hr49); rw [← hy49, ← hA49, ← hc49] at hcut49; have HR1142 := Aside0.mk hr49; have HC1142 := Aside0.mk (show y1139.length ≤ c49 from by rw [hy49, hc49]; exact Nat.sub_le_sub_right hroom49 _); clear hr49 hC49 hroom49 hi049 hsz49 hc49; have KY49 := Aside0.mk hy49; have KA49 := Aside0.mk hA49; clear hy49 hA49; replace q49 := eq_true q49) | ((with_reducible refine gate_builtin (b := .append) (xs := #[.tmp 53, .tmp 56]) rfl ?_); at_builtin; refine Kd.R_append_rows k84 (w0 := w) w.heap.size rfl (.tmp 53) (.tmp 56) 25 84 (.agg #[(.int .i64 0), (.int .i64 0), (.int .i64 0)]) 24 rfl Try.underlying25 info84 rfl (by decide) (by omega) v1137 y1136 y1139 _ _ _ (fun _ => True) (fun _ => False) rfl rfl ?aO ?aR (fun _ _ h => h) (fun _ h => h.elim) ?aF ?aB ?aS ?aL ?_; (case aR => repeat (first | exact (Kd.C_below HR1142.out HB.out) | (with_reducible refine Kd.C_alloc ?_ _) | (with_reducible refine Kd.C_drewN ?_ _) | (with_reducible refine Kd.C_drew ?_))); (case aB => exact (by repeat (first | (with_reducible first | exact HB.out | apply below_alloc | apply pw_below_drewN | apply below_drew1) | exact HB.out))); (case aF => exact (fun _ _ => trivial)); (case aO => exact (by (with_reducible repeat (first | apply Kd.R_alloc | apply Kd.R_drewN | apply Kd.R_drew)); exact HO1138.out)); (case aS => exact (below_size (by repeat (first | (with_reducible first | exact HB.out | apply below_alloc | apply pw_below_drewN | apply below_drew1) | exact HB.out)))); (case aL => have := LMc43.out; omega); intro v1144 w50 ho hb hg hat; rw [← Ny1143.out] at ho; have n0_ := Aside0.mk (hb); have n1_ := Aside0.mk (ho); clear HB; clear HO1138; have HB := n0_; have HO1145 := n1_; clear n0_ n1_; clear ho hb hg hat))
         go_ret
         exact ⟨_, by first | rfl | (simp [errW_none, errW_some] <;> rfl) | (simp [*, errW_none, errW_some] <;> rfl), by (with_reducible repeat (first | apply Kd.R_alloc | apply Kd.R_drewN | apply Kd.R_drew)); exact HO1145.out, by repeat (first | (with_reducible first | exact HB.out | apply below_alloc | apply pw_below_drewN | apply below_drew1) | exact HB.out)⟩
        ·rw [if_neg c43] at H
         exact absurd H (by simp)
       ·rw [if_neg c40] at H
        exact absurd H (by simp)
      ·rw [if_neg c39] at H
       exact absurd H (by simp)
     ·rw [if_neg c38] at H
      exact absurd H (by simp)
    ·rw [if_neg c37] at H
     exact absurd H (by simp)

end Go.Proofs.Ytnoklicihomfoaa.P
