import Derived.Test.YtolncjkfcmbieaaF0
import Derived.Test.YtolncjkfcmbieaaF9
import Derived.Test.YtolncjkfcmbieaaF31
import Derived.Test.YtolncjkfcmbieaaF47
namespace Go.Proofs.Ytolncjkfcmbieaa.P
open Go.RowKit Go.Proofs.YtolncjkfcmbieaaW.PrintWords Go.Proofs.YtolncjkfcmbieaaW.PrintLast Go.Proofs.YtolncjkfcmbieaaW.PrintMore
attribute [local go_sem] max2_int min2_int max_two min_two max_three min_three max_four min_four   -- for this text's walks alone
set_option linter.unusedVariables false
set_option linter.unusedSimpArgs false

def laws_szHopS.f (l0 : List (S166)) (a1 : Int) : Option (Int) := if (wrap64 (a1 - (l0.length : Int))) < 0 then (some (-1)) else (some (wrap64 (a1 - (l0.length : Int))))
set_option maxHeartbeats 8000000 in
set_option maxRecDepth 100000 in
theorem laws_szHopS.calls (A0 : Option Addr) (c0 : Nat) (l0 : List (S166)) (a1 : Int) (r : Int) (w : World) (hr0 : Kd.C k166 w A0 l0.length l0) (hc0 : l0.length ≤ c0) (h : laws_szHopS.f l0 a1 = some r) :
  Calls Try.prog 64 #[.slice A0 l0.length c0, .int .i64 a1] w fun e w' => e = .returned (.int .i64 r) ∧ Drawn0 w w' := by
 have HR0 := Aside0.mk hr0
 have HC0 := Aside0.mk hc0
 clear hr0 hc0
 have H : (if (wrap64 (a1 - (l0.length : Int))) < 0 then (some (-1)) else (some (wrap64 (a1 - (l0.length : Int))))) = some r := h
 clear h
 by_cases c3 : (wrap64 (a1 - (l0.length : Int))) < 0
 ·rw [if_pos c3] at H
  have c3b0 : decide ((wrap64 (a1 - (l0.length : Int))) < 0) = true := decide_eq_true c3
  clear c3
  obtain rfl := Option.some.inj H
  go_enter Try.func64, Try.ntmps64
  go_wp2
  go_ret
  exact ⟨by first | rfl | (simp; done) | (simp [*]; done), by repeat (first | exact Drawn0.refl _ | apply Drawn0.step)⟩
 rw [if_neg c3] at H
 have c3b0 : decide ((wrap64 (a1 - (l0.length : Int))) < 0) = false := decide_eq_false c3
 clear c3
 obtain rfl := Option.some.inj H
 go_enter Try.func64, Try.ntmps64
 go_wp2
 go_ret
 exact ⟨by first | rfl | (simp; done) | (simp [*]; done), by repeat (first | exact Drawn0.refl _ | apply Drawn0.step)⟩

mutual
def spec_ReachedBy.l0 : Nat → List (S162) → Int → List (S162) → Int → Int → Option (List Int × Bool)
 | 0, _, _, _, _, _ => none
 | k + 1, x0, x1, x11, x12, x13 => if x13 < x12 then (if 0 ≤ x13 then (if x13 < (x11.length : Int) then ((spec_l1In.f ((rd_T162 x11 x13).f0) 0 11).bind fun t1688 => (if t1688 = true then ((spec_l1In.f ((rd_T162 x11 x13).f1) 0 11).bind fun t1689 => (if t1689 = true then (if ((rd_T162 x11 x13).f0) = ((rd_T162 x11 x13).f1) then (some (([] : List Int), false)) else (spec_ReachedBy.l0 k x0 x1 x11 x12 (wrap64 (x13 + 1)))) else (some (([] : List Int), false)))) else (some (([] : List Int), false)))) else (none)) else (none)) else (if (x0.length : Int) > 40 then (spec_ReachedBy.j1 k x0 x1 true) else ((spec_l1In.f x1 0 11).bind fun t1690 => (spec_ReachedBy.j1 k x0 x1 (!t1690))))
def spec_ReachedBy.j1 : Nat → List (S162) → Int → Bool → Option (List Int × Bool)
 | 0, _, _, _ => none
 | k + 1, x0, x1, x42 => if x42 = true then (some (([] : List Int), false)) else (spec_ReachedBy.l1 k (([x1] : List Int)) x0 (x0.length : Int) 0)
def spec_ReachedBy.l1 : Nat → List Int → List (S162) → Int → Int → Option (List Int × Bool)
 | 0, _, _, _, _ => none
 | k + 1, x8, x45, x46, x47 => if x47 < x46 then (if 0 ≤ x47 then (if x47 < (x45.length : Int) then ((spec_l1Has.f k x8 ((rd_T162 x45 x47).f0)).bind fun t1696 => (if t1696 = true then ((spec_l1Put.f k x8 ((rd_T162 x45 x47).f1)).bind fun t1697 => (spec_ReachedBy.l1 k t1697 x45 x46 (wrap64 (x47 + 1)))) else (spec_ReachedBy.l1 k x8 x45 x46 (wrap64 (x47 + 1))))) else (none)) else (none)) else (some (x8, true))
end
def spec_ReachedBy.f (k : Nat) (l0 : List (S162)) (a1 : Int) : Option (List Int × Bool) := spec_ReachedBy.l0 k l0 a1 l0 (l0.length : Int) 0
theorem spec_ReachedBy.mono_l : ∀ k, (∀ y0 y1 y2 y3 y4, LeO (spec_ReachedBy.l0 k y0 y1 y2 y3 y4) (spec_ReachedBy.l0 (k + 1) y0 y1 y2 y3 y4)) ∧ (∀ y0 y1 y2, LeO (spec_ReachedBy.j1 k y0 y1 y2) (spec_ReachedBy.j1 (k + 1) y0 y1 y2)) ∧ (∀ y0 y1 y2 y3, LeO (spec_ReachedBy.l1 k y0 y1 y2 y3) (spec_ReachedBy.l1 (k + 1) y0 y1 y2 y3))
 | 0 => ⟨fun _ _ _ _ _ r h => by simp [spec_ReachedBy.l0] at h, fun _ _ _ r h => by simp [spec_ReachedBy.j1] at h, fun _ _ _ _ r h => by simp [spec_ReachedBy.l1] at h⟩
 | k + 1 => by
  obtain ⟨ih0, ih1, ih2⟩ := spec_ReachedBy.mono_l k
  refine ⟨?_, ?_, ?_⟩
  ·intro y0 y1 y2 y3 y4
   unfold spec_ReachedBy.l0
   repeat' first
   | (with_reducible exact ih0 _ _ _ _ _)
   | (with_reducible exact ih1 _ _ _)
   | (with_reducible exact ih2 _ _ _ _)
   | (with_reducible exact spec_l1Has.mono _ _ _)
   | (with_reducible exact spec_l1Put.mono _ _ _)
   | (with_reducible exact LeO.refl _)
   | (with_reducible exact LeO.none _)
   | (with_reducible refine LeO.ite ?_ ?_)
   | (with_reducible refine LeO.bind ?_ (fun _ => ?_))
  ·intro y0 y1 y2
   unfold spec_ReachedBy.j1
   repeat' first
   | (with_reducible exact ih0 _ _ _ _ _)
   | (with_reducible exact ih1 _ _ _)
   | (with_reducible exact ih2 _ _ _ _)
   | (with_reducible exact spec_l1Has.mono _ _ _)
   | (with_reducible exact spec_l1Put.mono _ _ _)
   | (with_reducible exact LeO.refl _)
   | (with_reducible exact LeO.none _)
   | (with_reducible refine LeO.ite ?_ ?_)
   | (with_reducible refine LeO.bind ?_ (fun _ => ?_))
  ·intro y0 y1 y2 y3
   unfold spec_ReachedBy.l1
   repeat' first
   | (with_reducible exact ih0 _ _ _ _ _)
   | (with_reducible exact ih1 _ _ _)
   | (with_reducible exact ih2 _ _ _ _)
   | (with_reducible exact spec_l1Has.mono _ _ _)
   | (with_reducible exact spec_l1Put.mono _ _ _)
   | (with_reducible exact LeO.refl _)
   | (with_reducible exact LeO.none _)
   | (with_reducible refine LeO.ite ?_ ?_)
   | (with_reducible refine LeO.bind ?_ (fun _ => ?_))
theorem spec_ReachedBy.mono : ∀ a0 a1 k, LeO (spec_ReachedBy.f k a0 a1) (spec_ReachedBy.f (k + 1) a0 a1) := by
 intro a0 a1 k
 obtain ⟨ih0, ih1, ih2⟩ := spec_ReachedBy.mono_l k
 unfold spec_ReachedBy.f
 repeat' first
   | (with_reducible exact ih0 _ _ _ _ _)
   | (with_reducible exact ih1 _ _ _)
   | (with_reducible exact ih2 _ _ _ _)
   | (with_reducible exact spec_l1Has.mono _ _ _)
   | (with_reducible exact spec_l1Put.mono _ _ _)
   | (with_reducible exact LeO.refl _)
   | (with_reducible exact LeO.none _)
   | (with_reducible refine LeO.ite ?_ ?_)
   | (with_reducible refine LeO.bind ?_ (fun _ => ?_))
set_option maxHeartbeats 8000000 in
set_option maxRecDepth 100000 in
theorem spec_ReachedBy.calls (k : Nat) (A0 : Option Addr) (c0 : Nat) (l0 : List (S162)) (a1 : Int) (r1 : List Int) (r2 : Bool) (w : World) (hr0 : Kd.C k162 w A0 l0.length l0) (hc0 : l0.length ≤ c0) (h : spec_ReachedBy.f k l0 a1 = some (r1, r2)) :
  Calls Try.prog 65 #[.slice A0 l0.length c0, .int .i64 a1] w fun e w' => ∃ v0_ : Value, e = .returned (.tuple #[v0_, .bool r2]) ∧ Kd.R (Kd.int .i64) 3 w' w.heap.size (fun _ => True) v0_ r1 ∧ Below w.heap.size w w' := by
 have hu162 := Try.underlying162
 have HR0 := Aside0.mk hr0
 have HC0 := Aside0.mk hc0
 clear hr0 hc0
 have HB := Aside0.mk (Below.refl w.heap.size w)
 have H : (spec_ReachedBy.l0 k l0 a1 l0 (l0.length : Int) 0) = some (r1, r2) := h
 clear h
 have H' := Aside0.mk H
 clear H
 go_enter Try.func65, Try.ntmps65
 go_wp2
 go_loopg [13] k (fun kq v13 w' => ∃ (x13_1 : Int), v13 = .int .i64 x13_1 ∧ Aside0 (spec_ReachedBy.l0 kq l0 a1 l0 (l0.length : Int) x13_1 = some (r1, r2)) ∧ Aside0 (kq ≤ k) ∧ Aside0 (Below w.heap.size w w'))
 case atStart => exact ⟨(0), (by first | rfl | (simp; done) | (simp [*]; done)), H', ⟨Nat.le_refl _⟩, ⟨hB HB⟩⟩
 case round =>
  clear H'
  obtain ⟨x13_1, rfl, HA, HK1, HB⟩ := hrel
  cases gk with
  | zero => exact absurd HA.out (by simp [spec_ReachedBy.l0])
  | succ k1 =>
   have H := HA.out
   clear HA
   simp only [spec_ReachedBy.l0] at H
   by_cases c3 : x13_1 < (l0.length : Int)
   ·rw [if_pos c3] at H
    have c3b0 : decide (x13_1 < (l0.length : Int)) = true := decide_eq_true c3
    clear c3
    by_cases c4 : 0 ≤ x13_1
    rotate_left
    ·rw [if_neg c4] at H
     exact absurd H (by simp)
    rw [if_pos c4] at H
    have c4b0 : decide (0 ≤ x13_1) = true := decide_eq_true c4
    clear c4
    by_cases c5 : x13_1 < (l0.length : Int)
    rotate_left
    ·rw [if_neg c5] at H
     exact absurd H (by simp)
    rw [if_pos c5] at H
    have c5b0 : decide (x13_1 < (l0.length : Int)) = true := decide_eq_true c5
    clear c5
    replace H := Option.bind_eq_some_iff.mp H
    obtain ⟨t1688, A60, H⟩ := H
    replace H : (if t1688 = true then ((spec_l1In.f ((rd_T162 l0 x13_1).f1) 0 11).bind fun t1689 => (if t1689 = true then (if ((rd_T162 l0 x13_1).f0) = ((rd_T162 l0 x13_1).f1) then (some (([] : List Int), false)) else (spec_ReachedBy.l0 k1 l0 a1 l0 (l0.length : Int) (wrap64 (x13_1 + 1)))) else (some (([] : List Int), false)))) else (some (([] : List Int), false))) = some (r1, r2) := H
    have A6 := Aside0.mk A60
    clear A60
    by_cases c7 : t1688 = true
    rotate_left
    ·replace c7 := Bool.eq_false_iff.mpr c7
     subst c7
     rw [if_neg (show ¬ (false = true) by decide)] at H
     simp only [Option.some.injEq, Prod.mk.injEq] at H
     obtain ⟨rfl, rfl⟩ := H
     have p1686 : 0 ≤ (x13_1 : Int) := of_decide_eq_true (by first | (with_reducible assumption) | assumption)
     have q1686 : x13_1 < (l0.length : Int) := of_decide_eq_true (by first | (with_reducible assumption) | assumption)
     obtain ⟨ad1686, e1686, hx1686_0, hx1686_1⟩ := at_T162 HR0.out x13_1 p1686 q1686
     cases e1686
     replace hx1686_0 := (HB.out.cell (World.block_lt_of_cell? w _ hx1686_0)).trans hx1686_0
     replace hx1686_1 := (HB.out.cell (World.block_lt_of_cell? w _ hx1686_1)).trans hx1686_1
     replace p1686 := eq_true p1686
     replace q1686 := eq_true q1686
     go_wp2_with (first | ((with_reducible refine gate_dst (N := 7) rfl ?_); refine box_event ?hg (N := 7) ?hd (cs := #[.int .i64 0, .int .i64 0]) (t := 162) ?hr ?_; (case hd => rfl); (case hg => rfl); (case hr => first | (go_simp; done) | (go_simp; rfl)); intro gb1687 hg w17 hbox hb; have BK1687 := Aside0.mk (hbox); have GW1687 := gw_ hg HB; have GE1687 := gw_ hg HB; replace HB := bst_ HB hb; clear hb hbox hg; have hcz18_0 : w17.cell? ⟨gb1687, 0, none⟩ = some (.int .i64 0) := bc_ BK1687 0; have hcz18_1 : w17.cell? ⟨gb1687, 1, none⟩ = some (.int .i64 0) := bc_ BK1687 1; have hfz18_0 := blk_frozen BK1687.out 0; have hfz18_1 := blk_frozen BK1687.out 1) | ((with_reducible refine gate_callee (f := 108) rfl ?_); refine goesL_ (some 19) rfl rfl Try.func108 (by kernel_rfl) rfl #[.int .i64 ((rd_T162 l0 x13_1).f0), .int .i64 0, .int .i64 11] rfl tm_ ?_; (with_reducible refine (spec_l1In.calls ((rd_T162 l0 x13_1).f0) 0 11 false _ A6.out).mono ?_); rintro e w' ⟨rfl, ⟨nd, rfl⟩⟩; refine ⟨_, rfl, ?_⟩))
     go_ret2
     exact ⟨_, by first | rfl | (simp [errW_none, errW_some] <;> rfl) | (simp [*, errW_none, errW_some] <;> rfl), by first | exact Kd.R_nil _ _ _ _ _ | exact Kd.N_nil _ _ _ _ _ | exact Kd.V_nil _ _ _ _ _ | exact Kd.Q_nil _ _ _ _ _ | exact Kd.S_nil _ _ _ _ _, by repeat (first | (with_reducible first | exact HB.out | apply below_alloc | apply pw_below_drewN | apply below_drew1 | refine below_set ?_ GE1687.out) | exact HB.out)⟩
    subst c7
    rw [if_pos rfl] at H
    replace H := Option.bind_eq_some_iff.mp H
    obtain ⟨t1689, A80, H⟩ := H
    replace H : (if t1689 = true then (if ((rd_T162 l0 x13_1).f0) = ((rd_T162 l0 x13_1).f1) then (some (([] : List Int), false)) else (spec_ReachedBy.l0 k1 l0 a1 l0 (l0.length : Int) (wrap64 (x13_1 + 1)))) else (some (([] : List Int), false))) = some (r1, r2) := H
    have A8 := Aside0.mk A80
    clear A80
    by_cases c9 : t1689 = true
    rotate_left
    ·replace c9 := Bool.eq_false_iff.mpr c9
     subst c9
     rw [if_neg (show ¬ (false = true) by decide)] at H
     simp only [Option.some.injEq, Prod.mk.injEq] at H
     obtain ⟨rfl, rfl⟩ := H
     have p1686 : 0 ≤ (x13_1 : Int) := of_decide_eq_true (by first | (with_reducible assumption) | assumption)
     have q1686 : x13_1 < (l0.length : Int) := of_decide_eq_true (by first | (with_reducible assumption) | assumption)
     obtain ⟨ad1686, e1686, hx1686_0, hx1686_1⟩ := at_T162 HR0.out x13_1 p1686 q1686
     cases e1686
     replace hx1686_0 := (HB.out.cell (World.block_lt_of_cell? w _ hx1686_0)).trans hx1686_0
     replace hx1686_1 := (HB.out.cell (World.block_lt_of_cell? w _ hx1686_1)).trans hx1686_1
     replace p1686 := eq_true p1686
     replace q1686 := eq_true q1686
     go_wp2_with (first | ((with_reducible refine gate_dst (N := 7) rfl ?_); refine box_event ?hg (N := 7) ?hd (cs := #[.int .i64 0, .int .i64 0]) (t := 162) ?hr ?_; (case hd => rfl); (case hg => rfl); (case hr => first | (go_simp; done) | (go_simp; rfl)); intro gb1687 hg w15 hbox hb; have BK1687 := Aside0.mk (hbox); have GW1687 := gw_ hg HB; have GE1687 := gw_ hg HB; replace HB := bst_ HB hb; clear hb hbox hg; have hcz16_0 : w15.cell? ⟨gb1687, 0, none⟩ = some (.int .i64 0) := bc_ BK1687 0; have hcz16_1 : w15.cell? ⟨gb1687, 1, none⟩ = some (.int .i64 0) := bc_ BK1687 1; have hfz16_0 := blk_frozen BK1687.out 0; have hfz16_1 := blk_frozen BK1687.out 1) | ((with_reducible refine gate_callee (f := 108) rfl ?_); refine goesL_ (some 19) rfl rfl Try.func108 (by kernel_rfl) rfl #[.int .i64 ((rd_T162 l0 x13_1).f0), .int .i64 0, .int .i64 11] rfl tm_ ?_; (with_reducible refine (spec_l1In.calls ((rd_T162 l0 x13_1).f0) 0 11 true _ A6.out).mono ?_); rintro e w' ⟨rfl, ⟨nd, rfl⟩⟩; refine ⟨_, rfl, ?_⟩) | (go_at_call 108; (with_reducible refine (spec_l1In.calls ((rd_T162 l0 x13_1).f1) 0 11 false _ A8.out).mono ?_); rintro e w' ⟨rfl, ⟨nd, rfl⟩⟩))
     go_ret2
     exact ⟨_, by first | rfl | (simp [errW_none, errW_some] <;> rfl) | (simp [*, errW_none, errW_some] <;> rfl), by first | exact Kd.R_nil _ _ _ _ _ | exact Kd.N_nil _ _ _ _ _ | exact Kd.V_nil _ _ _ _ _ | exact Kd.Q_nil _ _ _ _ _ | exact Kd.S_nil _ _ _ _ _, by repeat (first | (with_reducible first | exact HB.out | apply below_alloc | apply pw_below_drewN | apply below_drew1 | refine below_set ?_ GE1687.out) | exact HB.out)⟩
    subst c9
    rw [if_pos rfl] at H
    by_cases c10 : ((rd_T162 l0 x13_1).f0) = ((rd_T162 l0 x13_1).f1)
    rotate_left
    ·rw [if_neg c10] at H
     have c10b0 : (((rd_T162 l0 x13_1).f0) == ((rd_T162 l0 x13_1).f1)) = false := beq_eq_false_iff_ne.mpr c10
     have c10b1 : (((rd_T162 l0 x13_1).f0) != ((rd_T162 l0 x13_1).f1)) = true := bne_iff_ne.mpr c10
     have H' := Aside0.mk H
     clear H
     have p1686 : 0 ≤ (x13_1 : Int) := of_decide_eq_true (by first | (with_reducible assumption) | assumption)
     have q1686 : x13_1 < (l0.length : Int) := of_decide_eq_true (by first | (with_reducible assumption) | assumption)
     obtain ⟨ad1686, e1686, hx1686_0, hx1686_1⟩ := at_T162 HR0.out x13_1 p1686 q1686
     cases e1686
     replace hx1686_0 := (HB.out.cell (World.block_lt_of_cell? w _ hx1686_0)).trans hx1686_0
     replace hx1686_1 := (HB.out.cell (World.block_lt_of_cell? w _ hx1686_1)).trans hx1686_1
     replace p1686 := eq_true p1686
     replace q1686 := eq_true q1686
     go_wp2_with (first | ((with_reducible refine gate_dst (N := 7) rfl ?_); refine box_event ?hg (N := 7) ?hd (cs := #[.int .i64 0, .int .i64 0]) (t := 162) ?hr ?_; (case hd => rfl); (case hg => rfl); (case hr => first | (go_simp; done) | (go_simp; rfl)); intro gb1687 hg w13 hbox hb; have BK1687 := Aside0.mk (hbox); have GW1687 := gw_ hg HB; have GE1687 := gw_ hg HB; replace HB := bst_ HB hb; clear hb hbox hg; have hcz14_0 : w13.cell? ⟨gb1687, 0, none⟩ = some (.int .i64 0) := bc_ BK1687 0; have hcz14_1 : w13.cell? ⟨gb1687, 1, none⟩ = some (.int .i64 0) := bc_ BK1687 1; have hfz14_0 := blk_frozen BK1687.out 0; have hfz14_1 := blk_frozen BK1687.out 1) | ((with_reducible refine gate_callee (f := 108) rfl ?_); refine goesL_ (some 19) rfl rfl Try.func108 (by kernel_rfl) rfl #[.int .i64 ((rd_T162 l0 x13_1).f0), .int .i64 0, .int .i64 11] rfl tm_ ?_; (with_reducible refine (spec_l1In.calls ((rd_T162 l0 x13_1).f0) 0 11 true _ A6.out).mono ?_); rintro e w' ⟨rfl, ⟨nd, rfl⟩⟩; refine ⟨_, rfl, ?_⟩) | (go_at_call 108; (with_reducible refine (spec_l1In.calls ((rd_T162 l0 x13_1).f1) 0 11 true _ A8.out).mono ?_); rintro e w' ⟨rfl, ⟨nd, rfl⟩⟩))
     go_roundg k1
     case measure => have := HK1.out; omega
     case rel => exact ⟨(wrap64 (x13_1 + 1)), (by first | rfl | (simp; done) | (simp [*]; done)), H', ⟨by have := HK1.out; omega⟩, ⟨hB HB⟩⟩
    rw [if_pos c10] at H
    have c10b0 : (((rd_T162 l0 x13_1).f0) == ((rd_T162 l0 x13_1).f1)) = true := beq_iff_eq.mpr c10
    have c10b1 : (((rd_T162 l0 x13_1).f0) != ((rd_T162 l0 x13_1).f1)) = false := bne_eq_false_iff_eq.mpr c10
    clear c10
    simp only [Option.some.injEq, Prod.mk.injEq] at H
    obtain ⟨rfl, rfl⟩ := H
    have p1686 : 0 ≤ (x13_1 : Int) := of_decide_eq_true (by first | (with_reducible assumption) | assumption)
    have q1686 : x13_1 < (l0.length : Int) := of_decide_eq_true (by first | (with_reducible assumption) | assumption)
    obtain ⟨ad1686, e1686, hx1686_0, hx1686_1⟩ := at_T162 HR0.out x13_1 p1686 q1686
    cases e1686
    replace hx1686_0 := (HB.out.cell (World.block_lt_of_cell? w _ hx1686_0)).trans hx1686_0
    replace hx1686_1 := (HB.out.cell (World.block_lt_of_cell? w _ hx1686_1)).trans hx1686_1
    replace p1686 := eq_true p1686
    replace q1686 := eq_true q1686
    go_wp2_with (first | ((with_reducible refine gate_dst (N := 7) rfl ?_); refine box_event ?hg (N := 7) ?hd (cs := #[.int .i64 0, .int .i64 0]) (t := 162) ?hr ?_; (case hd => rfl); (case hg => rfl); (case hr => first | (go_simp; done) | (go_simp; rfl)); intro gb1687 hg w11 hbox hb; have BK1687 := Aside0.mk (hbox); have GW1687 := gw_ hg HB; have GE1687 := gw_ hg HB; replace HB := bst_ HB hb; clear hb hbox hg; have hcz12_0 : w11.cell? ⟨gb1687, 0, none⟩ = some (.int .i64 0) := bc_ BK1687 0; have hcz12_1 : w11.cell? ⟨gb1687, 1, none⟩ = some (.int .i64 0) := bc_ BK1687 1; have hfz12_0 := blk_frozen BK1687.out 0; have hfz12_1 := blk_frozen BK1687.out 1) | ((with_reducible refine gate_callee (f := 108) rfl ?_); refine goesL_ (some 19) rfl rfl Try.func108 (by kernel_rfl) rfl #[.int .i64 ((rd_T162 l0 x13_1).f0), .int .i64 0, .int .i64 11] rfl tm_ ?_; (with_reducible refine (spec_l1In.calls ((rd_T162 l0 x13_1).f0) 0 11 true _ A6.out).mono ?_); rintro e w' ⟨rfl, ⟨nd, rfl⟩⟩; refine ⟨_, rfl, ?_⟩) | (go_at_call 108; (with_reducible refine (spec_l1In.calls ((rd_T162 l0 x13_1).f1) 0 11 true _ A8.out).mono ?_); rintro e w' ⟨rfl, ⟨nd, rfl⟩⟩))
    go_ret2
    exact ⟨_, by first | rfl | (simp [errW_none, errW_some] <;> rfl) | (simp [*, errW_none, errW_some] <;> rfl), by first | exact Kd.R_nil _ _ _ _ _ | exact Kd.N_nil _ _ _ _ _ | exact Kd.V_nil _ _ _ _ _ | exact Kd.Q_nil _ _ _ _ _ | exact Kd.S_nil _ _ _ _ _, by repeat (first | (with_reducible first | exact HB.out | apply below_alloc | apply pw_below_drewN | apply below_drew1 | refine below_set ?_ GE1687.out) | exact HB.out)⟩
   rw [if_neg c3] at H
   have c3b0 : decide (x13_1 < (l0.length : Int)) = false := decide_eq_false c3
   clear c3
   have HC19 := Aside0.mk H
   clear H
   go_upto_region 7 with (fail)
   go_cut [42] (fun v42 wc => ∃ (kq : Nat) (x42_18 : Bool), v42 = .bool x42_18 ∧ Aside0 (spec_ReachedBy.j1 kq l0 a1 x42_18 = some (r1, r2)) ∧ Aside0 (kq ≤ k1) ∧ Aside0 (Below w.heap.size w wc))
   case first =>
    have H := HC19.out
    clear HC19
    by_cases c20 : (l0.length : Int) > 40
    ·rw [if_pos c20] at H
     have c20b0 : decide (40 < (l0.length : Int)) = true := decide_eq_true c20
     have c20b1 : decide (40 < l0.length) = true := decide_eq_true (by omega)
     clear c20
     (first | rw [c20b0] | (simp only [i64_w, i32_w]; rw [c20b0]) | skip)
     have H' := Aside0.mk H
     clear H
     go_wp2
     go_meet
     case rel => exact ⟨_, (true), (by first | rfl | (simp; done) | (simp [*]; done)), H', ⟨by have := HK1.out; first | omega | exact Nat.le_refl _⟩, ⟨hB HB⟩⟩
    rw [if_neg c20] at H
    have c20b0 : decide (40 < (l0.length : Int)) = false := decide_eq_false c20
    have c20b1 : decide (40 < l0.length) = false := decide_eq_false (by omega)
    clear c20
    (first | rw [c20b0] | (simp only [i64_w, i32_w]; rw [c20b0]) | skip)
    replace H := Option.bind_eq_some_iff.mp H
    obtain ⟨t1690, A210, H⟩ := H
    replace H : (spec_ReachedBy.j1 k1 l0 a1 (!t1690)) = some (r1, r2) := H
    have A21 := Aside0.mk A210
    clear A210
    have H' := Aside0.mk H
    clear H
    go_wp2_with (first | (go_at_call 108; (with_reducible refine (spec_l1In.calls a1 0 11 t1690 _ A21.out).mono ?_); rintro e w' ⟨rfl, ⟨nd, rfl⟩⟩))
    go_meet
    case rel => exact ⟨_, (!t1690), (by first | rfl | (simp; done) | (simp [*]; done)), H', ⟨by have := HK1.out; first | omega | exact Nat.le_refl _⟩, ⟨hB HB⟩⟩
   case rest =>
    clear HC19
    try clear c3
    try clear c3b0
    obtain ⟨kq, x42_18, rfl, HA, HJ18, HB⟩ := hcut
    cases kq with
    | zero => exact absurd HA.out (by simp [spec_ReachedBy.j1])
    | succ kj18 =>
     have H := HA.out
     clear HA
     simp only [spec_ReachedBy.j1] at H
     by_cases c22 : x42_18 = true
     ·subst c22
      rw [if_pos rfl] at H
      simp only [Option.some.injEq, Prod.mk.injEq] at H
      obtain ⟨rfl, rfl⟩ := H
      go_wp2
      go_ret2
      exact ⟨_, by first | rfl | (simp [errW_none, errW_some] <;> rfl) | (simp [*, errW_none, errW_some] <;> rfl), by first | exact Kd.R_nil _ _ _ _ _ | exact Kd.N_nil _ _ _ _ _ | exact Kd.V_nil _ _ _ _ _ | exact Kd.Q_nil _ _ _ _ _ | exact Kd.S_nil _ _ _ _ _, by repeat (first | (with_reducible first | exact HB.out | apply below_alloc | apply pw_below_drewN | apply below_drew1) | exact HB.out)⟩
     replace c22 := Bool.eq_false_iff.mpr c22
     subst c22
     rw [if_neg (show ¬ (false = true) by decide)] at H
     obtain ⟨y1691, hy1691⟩ : ∃ y_ : List Int, y_ = (([a1] : List Int)) := ⟨_, rfl⟩
     replace H : (spec_ReachedBy.l1 kj18 y1691 l0 (l0.length : Int) 0) = some (r1, r2) := by first | (rw [hy1691]; with_reducible exact H) | (have H2_ := (Option.bind_some _ _).symm.trans H; rw [hy1691]; with_reducible exact H2_) | (have H2_ := (Option.bind_some _ _).symm.trans H; with_reducible exact H2_) | with_reducible exact H | (rw [hy1691]; exact H) | exact H
     have Ny1691 := Aside0.mk hy1691
     clear hy1691
     have H' := Aside0.mk H
     clear H
     go_wp2_with (first | ((with_reducible refine gate_dst (N := 44) rfl ?_); refine Kd.R_lit (Kd.int .i64) _ 3 ?hg (N := 44) ?hd (xs := ([a1] : List Int)) (inner := [.int .i64 a1]) (ok := fun _ => True) (okp := fun _ => True) ?hr ?hp (fun _ hk => hk) trivial (Below.refl _ _) (Nat.le_refl _) (by simp) ?_; (case hd => rfl); (case hg => rfl); (case hr => first | (go_simp; done) | (go_simp; rfl)); (case hp => exact (Reps.one (show Kd.M (Kd.int .i64) _ _ _ a1 [.int .i64 a1] from rfl) (Reps.none _ _))); intro v1692 w23 ho24 hb hg_ hnew_; clear hg_ hnew_; (first | rw [← Ny1691.out] at ho24 | (simp only [Int.reduceToNat] at ho24; rw [← Ny1691.out] at ho24)); have HO1693 := Aside0.mk (Kd.R_lower ho24 (below_size (hB HB))); replace HB := bst_ HB hb; clear hb ho24))
     go_loopg [8, 47] kj18 (fun kq v8 v47 w' => ∃ (x8_3 : List Int) (x47_3 : Int), v47 = .int .i64 x47_3 ∧ Aside0 (spec_ReachedBy.l1 kq x8_3 l0 (l0.length : Int) x47_3 = some (r1, r2)) ∧ Aside0 (kq ≤ kj18) ∧ Aside0 (Kd.R (Kd.int .i64) 3 w' w.heap.size (fun _ => True) v8 x8_3) ∧ Aside0 (Below w.heap.size w w'))
     case atStart => exact ⟨(y1691), (0), (by first | rfl | (simp; done) | (simp [*]; done)), H', ⟨Nat.le_refl _⟩, ⟨ra HO1693.out⟩, ⟨hB HB⟩⟩
     case round =>
      clear H'
      try clear c3
      try clear c3b0
      try clear c22
      obtain ⟨x8_3, x47_3, rfl, HA, HK3, HO_8, HB⟩ := hrel
      cases gk with
      | zero => exact absurd HA.out (by simp [spec_ReachedBy.l1])
      | succ k3 =>
       have H := HA.out
       clear HA
       simp only [spec_ReachedBy.l1] at H
       by_cases c25 : x47_3 < (l0.length : Int)
       rotate_left
       ·rw [if_neg c25] at H
        have c25b0 : decide (x47_3 < (l0.length : Int)) = false := decide_eq_false c25
        clear c25
        simp only [Option.some.injEq, Prod.mk.injEq] at H
        obtain ⟨rfl, rfl⟩ := H
        go_wp2
        go_ret2
        exact ⟨_, by first | rfl | (simp [errW_none, errW_some] <;> rfl) | (simp [*, errW_none, errW_some] <;> rfl), by (with_reducible repeat (first | apply Kd.R_alloc | apply Kd.R_drewN | apply Kd.R_drew)); exact HO_8.out, by repeat (first | (with_reducible first | exact HB.out | apply below_alloc | apply pw_below_drewN | apply below_drew1) | exact HB.out)⟩
       rw [if_pos c25] at H
       have c25b0 : decide (x47_3 < (l0.length : Int)) = true := decide_eq_true c25
       clear c25
       by_cases c26 : 0 ≤ x47_3
       rotate_left
       ·rw [if_neg c26] at H
        exact absurd H (by simp)
       rw [if_pos c26] at H
       have c26b0 : decide (0 ≤ x47_3) = true := decide_eq_true c26
       clear c26
       by_cases c27 : x47_3 < (l0.length : Int)
       rotate_left
       ·rw [if_neg c27] at H
        exact absurd H (by simp)
       rw [if_pos c27] at H
       have c27b0 : decide (x47_3 < (l0.length : Int)) = true := decide_eq_true c27
       clear c27
       replace H := Option.bind_eq_some_iff.mp H
       obtain ⟨t1696, A280, H⟩ := H
       replace H : (if t1696 = true then ((spec_l1Put.f k3 x8_3 ((rd_T162 l0 x47_3).f1)).bind fun t1697 => (spec_ReachedBy.l1 k3 t1697 l0 (l0.length : Int) (wrap64 (x47_3 + 1)))) else (spec_ReachedBy.l1 k3 x8_3 l0 (l0.length : Int) (wrap64 (x47_3 + 1)))) = some (r1, r2) := H
       have A28 := Aside0.mk A280
       clear A280
       by_cases c29 : t1696 = true
       rotate_left
       ·replace c29 := Bool.eq_false_iff.mpr c29
        subst c29
        rw [if_neg (show ¬ (false = true) by decide)] at H
        have H' := Aside0.mk H
        clear H
        have p1694 : 0 ≤ (x47_3 : Int) := of_decide_eq_true (by first | (with_reducible assumption) | assumption)
        have q1694 : x47_3 < (l0.length : Int) := of_decide_eq_true (by first | (with_reducible assumption) | assumption)
        obtain ⟨ad1694, e1694, hx1694_0, hx1694_1⟩ := at_T162 HR0.out x47_3 p1694 q1694
        cases e1694
        replace hx1694_0 := (HB.out.cell (World.block_lt_of_cell? w _ hx1694_0)).trans hx1694_0
        replace hx1694_1 := (HB.out.cell (World.block_lt_of_cell? w _ hx1694_1)).trans hx1694_1
        replace p1694 := eq_true p1694
        replace q1694 := eq_true q1694
        go_wp2_with (first | ((with_reducible refine gate_dst (N := 10) rfl ?_); refine box_event ?hg (N := 10) ?hd (cs := #[.int .i64 0, .int .i64 0]) (t := 162) ?hr ?_; (case hd => rfl); (case hg => rfl); (case hr => first | (go_simp; done) | (go_simp; rfl)); intro gb1695 hg w37 hbox hb; have BK1695 := Aside0.mk (hbox); have GW1695 := gw_ hg HB; have GE1695 := gw_ hg HB; replace HO_8 := rb_ HO_8 hb; replace HB := bst_ HB hb; clear hb hbox hg; have hcz38_0 : w37.cell? ⟨gb1695, 0, none⟩ = some (.int .i64 0) := bc_ BK1695 0; have hcz38_1 : w37.cell? ⟨gb1695, 1, none⟩ = some (.int .i64 0) := bc_ BK1695 1; have hfz38_0 := blk_frozen BK1695.out 0; have hfz38_1 := blk_frozen BK1695.out 1; obtain ⟨Ao39, co39, eo39⟩ := Kd.R_slice HO_8.out; subst eo39) | ((with_reducible refine gate_callee (f := 127) rfl ?_); refine goesL_ (some 54) rfl rfl Try.func127 (by kernel_rfl) rfl #[.slice Ao39 x8_3.length co39, .int .i64 ((rd_T162 l0 x47_3).f0)] rfl tm_ ?_; (with_reducible refine (spec_l1Has.calls k3 _ _ x8_3 ((rd_T162 l0 x47_3).f0) false _ ?side1 ?side2 A28.out).mono ?_); (case side1 => exact rr_ (Kd.R_mono (Kd.R_far (p := ⟨gb1695, 1, none⟩) (Kd.R_far (p := ⟨gb1695, 0, none⟩) (Kd.R_types HO_8.out BK1695.out (by decide)) (fun _ hk => hk.2) (.int .i64 ((rd_T162 l0 x47_3).f0))) (fun _ hk => hk.2) (.int .i64 ((rd_T162 l0 x47_3).f1))) (fun _ h_ => h_.1))); (case side2 => exact (Kd.R_reads' HO_8.out).2.1); rintro e w' ⟨rfl, ⟨nd, rfl⟩⟩; refine ⟨_, rfl, ?_⟩))
        go_roundg k3
        case measure => have := HK1.out; have := HJ18.out; have := HK3.out; omega
        case rel => exact ⟨(x8_3), (wrap64 (x47_3 + 1)), (by first | rfl | (simp; done) | (simp [*]; done)), H', ⟨by have := HK1.out; have := HJ18.out; have := HK3.out; omega⟩, ⟨by (with_reducible repeat (first | apply Kd.R_alloc | apply Kd.R_drewN | apply Kd.R_drew)); exact Kd.R_mono (Kd.R_far (p := ⟨gb1695, 1, none⟩) (Kd.R_far (p := ⟨gb1695, 0, none⟩) (Kd.R_types HO_8.out BK1695.out (by decide)) (fun _ hk => hk.2) (.int .i64 ((rd_T162 l0 x47_3).f0))) (fun _ hk => hk.2) (.int .i64 ((rd_T162 l0 x47_3).f1))) (fun _ hk => trivial)⟩, ⟨hB HB⟩⟩
       subst c29
       rw [if_pos rfl] at H
       replace H := Option.bind_eq_some_iff.mp H
       obtain ⟨t1697, A300, H⟩ := H
       replace H : (spec_ReachedBy.l1 k3 t1697 l0 (l0.length : Int) (wrap64 (x47_3 + 1))) = some (r1, r2) := H
       have A30 := Aside0.mk A300
       clear A300
       have H' := Aside0.mk H
       clear H
       have p1694 : 0 ≤ (x47_3 : Int) := of_decide_eq_true (by first | (with_reducible assumption) | assumption)
       have q1694 : x47_3 < (l0.length : Int) := of_decide_eq_true (by first | (with_reducible assumption) | assumption)
       obtain ⟨ad1694, e1694, hx1694_0, hx1694_1⟩ := at_T162 HR0.out x47_3 p1694 q1694
       cases e1694
       replace hx1694_0 := (HB.out.cell (World.block_lt_of_cell? w _ hx1694_0)).trans hx1694_0
       replace hx1694_1 := (HB.out.cell (World.block_lt_of_cell? w _ hx1694_1)).trans hx1694_1
       replace p1694 := eq_true p1694
       replace q1694 := eq_true q1694
       go_wp2_with (first | ((with_reducible refine gate_dst (N := 10) rfl ?_); refine box_event ?hg (N := 10) ?hd (cs := #[.int .i64 0, .int .i64 0]) (t := 162) ?hr ?_; (case hd => rfl); (case hg => rfl); (case hr => first | (go_simp; done) | (go_simp; rfl)); intro gb1695 hg w31 hbox hb; have BK1695 := Aside0.mk (hbox); have GW1695 := gw_ hg HB; have GE1695 := gw_ hg HB; replace HO_8 := rb_ HO_8 hb; replace HB := bst_ HB hb; clear hb hbox hg; have hcz32_0 : w31.cell? ⟨gb1695, 0, none⟩ = some (.int .i64 0) := bc_ BK1695 0; have hcz32_1 : w31.cell? ⟨gb1695, 1, none⟩ = some (.int .i64 0) := bc_ BK1695 1; have hfz32_0 := blk_frozen BK1695.out 0; have hfz32_1 := blk_frozen BK1695.out 1) | ((with_reducible refine gate_store (t := 162) (p := 10) rfl ?_); refine store_event (t := 162) (p := 10) (v := ?vo_w33) (w1 := ((w31.setCell ⟨gb1695, 0, none⟩ (.int .i64 ((rd_T162 l0 x47_3).f0))).setCell ⟨gb1695, 1, none⟩ (.int .i64 ((rd_T162 l0 x47_3).f1)))) ?hg ?ho ?hn ?hr ?_; (case ho => rfl); (case hg => rfl); (case hn => rfl); (case hr => first | (go_simp; done) | (go_simp; rfl)); intro w33 hw; have n0_ : Aside0 (Kd.R (Kd.int .i64) 3 w33 w.heap.size (fun _ => True) u8 x8_3) := ⟨(by rw [hw]; exact (ra (Kd.R_mono (Kd.R_far (p := ⟨gb1695, 1, none⟩) (Kd.R_far (p := ⟨gb1695, 0, none⟩) (Kd.R_types HO_8.out BK1695.out (by decide)) (fun _ hk => hk.2) (.int .i64 ((rd_T162 l0 x47_3).f0))) (fun _ hk => hk.2) (.int .i64 ((rd_T162 l0 x47_3).f1))) (fun _ hk => trivial))))⟩; have n1_ : Aside0 (w33.heap[gb1695]? = some (.cells #[.int .i64 ((rd_T162 l0 x47_3).f0), .int .i64 ((rd_T162 l0 x47_3).f1)] 162 (0, 0))) := ⟨(by rw [hw]; exact (by (with_reducible repeat (first | refine blk_drewN ?_ _ | refine blk_drew ?_ | refine blk_alloc ?_ _)); refine blk_put (cs := #[.int .i64 ((rd_T162 l0 x47_3).f0), .int .i64 0]) ?_ 1 _ rfl; (with_reducible repeat (first | refine blk_drewN ?_ _ | refine blk_drew ?_ | refine blk_alloc ?_ _)); refine blk_put (cs := #[.int .i64 0, .int .i64 0]) ?_ 0 _ rfl; (with_reducible repeat (first | refine blk_drewN ?_ _ | refine blk_drew ?_ | refine blk_alloc ?_ _)); exact BK1695.out))⟩; have n2_ : Aside0 (Below w.heap.size w w33) := ⟨(by rw [hw]; exact (hB HB))⟩; clear hw; clear HO_8; clear BK1695; clear HB; have HO_8 := n0_; have BK1695 := n1_; have HB := n2_; clear n0_ n1_ n2_; have hcz34_0 : w33.cell? ⟨gb1695, 0, none⟩ = some (.int .i64 ((rd_T162 l0 x47_3).f0)) := bc_ BK1695 0; have hcz34_1 : w33.cell? ⟨gb1695, 1, none⟩ = some (.int .i64 ((rd_T162 l0 x47_3).f1)) := bc_ BK1695 1; have hfz34_0 := blk_frozen BK1695.out 0; have hfz34_1 := blk_frozen BK1695.out 1; obtain ⟨Ao35, co35, eo35⟩ := Kd.R_slice HO_8.out; subst eo35) | ((with_reducible refine gate_callee (f := 127) rfl ?_); refine goesL_ (some 54) rfl rfl Try.func127 (by kernel_rfl) rfl #[.slice Ao35 x8_3.length co35, .int .i64 ((rd_T162 l0 x47_3).f0)] rfl tm_ ?_; (with_reducible refine (spec_l1Has.calls k3 _ _ x8_3 ((rd_T162 l0 x47_3).f0) true _ ?side1 ?side2 A28.out).mono ?_); (case side1 => exact ca (Kd.R_reads' HO_8.out).2.2); (case side2 => exact (Kd.R_reads' HO_8.out).2.1); rintro e w' ⟨rfl, ⟨nd, rfl⟩⟩; refine ⟨_, rfl, ?_⟩) | ((with_reducible refine gate_callee (f := 128) rfl ?_); refine goesL_ (some 58) rfl rfl Try.func128 (by kernel_rfl) rfl #[.slice Ao35 x8_3.length co35, .int .i64 ((rd_T162 l0 x47_3).f1)] rfl tm_ ?_; (with_reducible refine (spec_l1Put.calls k3 (fun k_ => some k_ = (.slice Ao35 x8_3.length co35 : Value).ownBlock) (.slice Ao35 x8_3.length co35) x8_3 ((rd_T162 l0 x47_3).f1) t1697 w _ ?side1 ?side2 A30.out).mono ?_); (case side1 => repeat (first | (with_reducible first | exact HB.out | apply below_alloc | apply pw_below_drewN | apply below_drew1 | refine below_set ?_ GE1695.out) | exact HB.out)); (case side2 => exact Kd.R_tight rfl HO_8.out); rintro e w36 ⟨v1698, rfl, ho0, hb, hkp⟩; refine ⟨_, rfl, ?_⟩; have HO1699 := Aside0.mk (Kd.R_mono (ok' := fun k_ => True) ho0 (fun k_ hk_ => trivial)); replace BK1695 := Aside0.mk (blk_kept (ba BK1695.out) hkp (fun hs_ => (fun e_ => (Kd.R_ne HO_8.out BK1695.out (by decide)) e_) hs_)); replace HB := Aside0.mk (hb); clear HO_8; clear hb ho0))
       go_roundg k3
       case measure => have := HK1.out; have := HJ18.out; have := HK3.out; omega
       case rel => exact ⟨(t1697), (wrap64 (x47_3 + 1)), (by first | rfl | (simp; done) | (simp [*]; done)), H', ⟨by have := HK1.out; have := HJ18.out; have := HK3.out; omega⟩, ⟨ra HO1699.out⟩, ⟨hB HB⟩⟩

def laws_toHop.f (a0_0 : Int) (a0_1 : Int) : Option (Int × Int) := some (a0_0, a0_1)
set_option maxHeartbeats 8000000 in
set_option maxRecDepth 100000 in
theorem laws_toHop.calls (a0_0 : Int) (a0_1 : Int) (r1 : Int) (r2 : Int) (w : World) (h : laws_toHop.f a0_0 a0_1 = some (r1, r2)) :
  Calls Try.prog 129 #[.agg #[.int .i64 a0_0, .int .i64 a0_1]] w fun e w' => e = .returned (.agg #[.int .i64 r1, .int .i64 r2]) ∧ Below w.heap.size w w' := by
 have hu166 := Try.underlying166
 have hu162 := Try.underlying162
 have HB := Aside0.mk (Below.refl w.heap.size w)
 have H : (some (a0_0, a0_1)) = some (r1, r2) := h
 clear h
 simp only [Option.some.injEq, Prod.mk.injEq] at H
 obtain ⟨rfl, rfl⟩ := H
 go_enter Try.func129, Try.ntmps129
 go_wp2_with (first | ((with_reducible refine gate_dst (N := 1) rfl ?_); refine box_event ?hg (N := 1) ?hd (cs := #[.int .i64 a0_0, .int .i64 a0_1]) (t := 166) ?hr ?_; (case hd => rfl); (case hg => rfl); (case hr => first | (go_simp; done) | (go_simp; rfl)); intro gb1700 hg w2 hbox hb; have BK1700 := Aside0.mk (hbox); have GW1700 := gw_ hg HB; have GE1700 := gw_ hg HB; replace HB := bst_ HB hb; clear hb hbox hg) | ((with_reducible refine gate_dst (N := 2) rfl ?_); refine box_event ?hg (N := 2) ?hd (cs := #[.int .i64 0, .int .i64 0]) (t := 162) ?hr ?_; (case hd => rfl); (case hg => rfl); (case hr => first | (go_simp; done) | (go_simp; rfl)); intro gb1701 hg w3 hbox hb; have BK1701 := Aside0.mk (hbox); have GW1701 := gw_ hg HB; have GE1701 := gw_ hg HB; have NB1700_1701 := nl_ hg BK1700; have NB1701_1700 := ng_ hg BK1700; replace BK1700 := bb_ BK1700 hb; replace HB := bst_ HB hb; clear hb hbox hg) | ((with_reducible refine gate_dst (N := 3) rfl ?_); refine box_event ?hg (N := 3) ?hd (cs := #[.int .i64 0, .int .i64 0]) (t := 162) ?hr ?_; (case hd => rfl); (case hg => rfl); (case hr => first | (go_simp; done) | (go_simp; rfl)); intro gb1702 hg w4 hbox hb; have BK1702 := Aside0.mk (hbox); have GW1702 := gw_ hg HB; have GE1702 := gw_ hg HB; have NB1700_1702 := nl_ hg BK1700; have NB1702_1700 := ng_ hg BK1700; have NB1701_1702 := nl_ hg BK1701; have NB1702_1701 := ng_ hg BK1701; replace BK1700 := bb_ BK1700 hb; replace BK1701 := bb_ BK1701 hb; replace HB := bst_ HB hb; clear hb hbox hg; have hnb5 := NB1700_1701.out; have hnc5 := NB1701_1700.out; have hnb6 := NB1700_1702.out; have hnc6 := NB1702_1700.out; have hcz7_0 : w4.cell? ⟨gb1700, 0, none⟩ = some (.int .i64 a0_0) := bc_ BK1700 0; have hcz7_1 : w4.cell? ⟨gb1700, 1, none⟩ = some (.int .i64 a0_1) := bc_ BK1700 1; have hfz7_0 := blk_frozen BK1700.out 0; have hfz7_1 := blk_frozen BK1700.out 1; have hnb8 := NB1702_1701.out; have hnc8 := NB1701_1702.out; have hcz9_0 : w4.cell? ⟨gb1702, 0, none⟩ = some (.int .i64 0) := bc_ BK1702 0; have hcz9_1 : w4.cell? ⟨gb1702, 1, none⟩ = some (.int .i64 0) := bc_ BK1702 1; have hfz9_0 := blk_frozen BK1702.out 0; have hfz9_1 := blk_frozen BK1702.out 1; have hcz10_0 : w4.cell? ⟨gb1701, 0, none⟩ = some (.int .i64 0) := bc_ BK1701 0; have hcz10_1 : w4.cell? ⟨gb1701, 1, none⟩ = some (.int .i64 0) := bc_ BK1701 1; have hfz10_0 := blk_frozen BK1701.out 0; have hfz10_1 := blk_frozen BK1701.out 1))
 refine bodyPost_ret (results_cell_row rfl _ _ gb1701 162 #[.int .i64 a0_0, .int .i64 a0_1] (0, 0) _ rfl (by (with_reducible repeat (first | refine blk_drewN ?_ _ | refine blk_drew ?_ | refine blk_alloc ?_ _)); refine blk_put (cs := #[.int .i64 a0_0, .int .i64 0]) ?_ 1 _ rfl; (with_reducible repeat (first | refine blk_drewN ?_ _ | refine blk_drew ?_ | refine blk_alloc ?_ _)); refine blk_put (cs := #[.int .i64 0, .int .i64 0]) ?_ 0 _ rfl; (with_reducible repeat (first | refine blk_drewN ?_ _ | refine blk_drew ?_ | refine blk_alloc ?_ _)); refine blk_far ?_ NB1701_1702.out _; (with_reducible repeat (first | refine blk_drewN ?_ _ | refine blk_drew ?_ | refine blk_alloc ?_ _)); refine blk_far ?_ NB1701_1702.out _; (with_reducible repeat (first | refine blk_drewN ?_ _ | refine blk_drew ?_ | refine blk_alloc ?_ _)); exact BK1701.out) Try.underlying162 rfl (by kernel_rfl)) rfl ?_
 exact ⟨by first | rfl | (simp [errW_none, errW_some] <;> rfl) | (simp [*, errW_none, errW_some] <;> rfl), by repeat (first | (with_reducible first | exact HB.out | apply below_alloc | apply pw_below_drewN | apply below_drew1 | refine below_set ?_ GE1700.out | refine below_set ?_ GE1701.out | refine below_set ?_ GE1702.out) | exact HB.out)⟩

def laws_toHopS.l0 : Nat → List (S166) → List (S162) → Int → Option ((List (S162)))
 | 0, _, _, _ => none
 | k + 1, x0, x3, x4 => if x4 < (x0.length : Int) then (if 0 ≤ x4 then ((laws_toHop.f ((rd_T166 x0 x4).f0) ((rd_T166 x0 x4).f1)).bind fun bt1707 => (if x4 < (x3.length : Int) then (laws_toHopS.l0 k x0 (x3.set (x4 : Int).toNat (⟨bt1707.1, bt1707.2⟩ : S162)) (wrap64 (x4 + 1))) else (none))) else (none)) else (some x3)
def laws_toHopS.f (k : Nat) (l0 : List (S166)) : Option ((List (S162))) := if 0 ≤ (l0.length : Int) then (if ((l0.length : Int) : Int).toNat ≤ 17592186044416 then (laws_toHopS.l0 k l0 (List.replicate ((l0.length : Int) : Int).toNat z162) 0) else (none)) else (none)
theorem laws_toHopS.mono_l : ∀ k, (∀ y0 y1 y2, LeO (laws_toHopS.l0 k y0 y1 y2) (laws_toHopS.l0 (k + 1) y0 y1 y2))
 | 0 => fun _ _ _ r h => by simp [laws_toHopS.l0] at h
 | k + 1 => by
  have ih0 := laws_toHopS.mono_l k
  ·intro y0 y1 y2
   unfold laws_toHopS.l0
   repeat' first
   | (with_reducible exact ih0 _ _ _)
   | (with_reducible exact LeO.refl _)
   | (with_reducible exact LeO.none _)
   | (with_reducible refine LeO.ite ?_ ?_)
   | (with_reducible refine LeO.bind ?_ (fun _ => ?_))
theorem laws_toHopS.mono : ∀ a0 k, LeO (laws_toHopS.f k a0) (laws_toHopS.f (k + 1) a0) := by
 intro a0 k
 have ih0 := laws_toHopS.mono_l k
 unfold laws_toHopS.f
 repeat' first
   | (with_reducible exact ih0 _ _ _)
   | (with_reducible exact LeO.refl _)
   | (with_reducible exact LeO.none _)
   | (with_reducible refine LeO.ite ?_ ?_)
   | (with_reducible refine LeO.bind ?_ (fun _ => ?_))
set_option maxHeartbeats 8000000 in
set_option maxRecDepth 100000 in
theorem laws_toHopS.calls (k : Nat) (A0 : Option Addr) (c0 : Nat) (l0 : List (S166)) (r : List (S162)) (w : World) (hr0 : Kd.C k166 w A0 l0.length l0) (hc0 : l0.length ≤ c0) (h : laws_toHopS.f k l0 = some r) :
  Calls Try.prog 66 #[.slice A0 l0.length c0] w fun e w' => ∃ v0_ : Value, e = .returned (v0_) ∧ Kd.R k162 162 w' w.heap.size (fun _ => True) v0_ r ∧ Below w.heap.size w w' := by
 have hu166 := Try.underlying166
 have hu162 := Try.underlying162
 have HR0 := Aside0.mk hr0
 have HC0 := Aside0.mk hc0
 clear hr0 hc0
 have HB := Aside0.mk (Below.refl w.heap.size w)
 have H : (if 0 ≤ (l0.length : Int) then (if ((l0.length : Int) : Int).toNat ≤ 17592186044416 then (laws_toHopS.l0 k l0 (List.replicate ((l0.length : Int) : Int).toNat z162) 0) else (none)) else (none)) = some r := h
 clear h
 by_cases c2 : 0 ≤ (l0.length : Int)
 rotate_left
 ·rw [if_neg c2] at H
  exact absurd H (by simp)
 rw [if_pos c2] at H
 have c2b0 := eq_true c2
 have c2b1 : decide (0 ≤ (l0.length : Int)) = true := decide_eq_true c2
 clear c2
 by_cases c3 : ((l0.length : Int) : Int).toNat ≤ 17592186044416
 rotate_left
 ·rw [if_neg c3] at H
  exact absurd H (by simp)
 rw [if_pos c3] at H
 have c3b0 := eq_true c3
 have c3b1 : decide (((l0.length : Int) : Int).toNat ≤ 17592186044416) = true := decide_eq_true c3
 clear c3
 obtain ⟨y1703, hy1703⟩ : ∃ y_ : List (S162), y_ = (List.replicate ((l0.length : Int) : Int).toNat z162) := ⟨_, rfl⟩
 replace H : (laws_toHopS.l0 k l0 y1703 0) = some r := by first | (rw [hy1703]; with_reducible exact H) | (have H2_ := (Option.bind_some _ _).symm.trans H; rw [hy1703]; with_reducible exact H2_) | (have H2_ := (Option.bind_some _ _).symm.trans H; with_reducible exact H2_) | with_reducible exact H | (rw [hy1703]; exact H) | exact H
 have Ny1703 := Aside0.mk hy1703
 clear hy1703
 have H' := Aside0.mk H
 clear H
 go_enter Try.func66, Try.ntmps66
 go_wp2_with (first | ((with_reducible refine gate_dst (N := 7) rfl ?_); refine Kd.R_make k162 _ 162 rfl (N := 7) rfl 99 _ _ rfl (l0.length : Int) rfl rfl Try.underlying99 (.agg #[(.int .i64 0), (.int .i64 0)]) 16 info162 rfl (by decide) (by omega) z162 (ok := fun _ => True) (okp := fun _ => True) (k162_mkM _ _ _ z162 ) (fun _ hk => hk) trivial (of_decide_eq_true (by first | (with_reducible assumption) | assumption)) (Nat.le_trans (Nat.mul_le_mul_right _ (of_decide_eq_true (by first | (with_reducible assumption) | assumption) : (l0.length : Int).toNat ≤ 17592186044416)) (by omega)) (Below.refl _ _) (Nat.le_refl _) ?_; intro v1704 w4 ho5 hb hg_ hnew_; clear hg_ hnew_; (first | rw [← Ny1703.out] at ho5 | (simp only [Int.reduceToNat] at ho5; rw [← Ny1703.out] at ho5)); have HO1705 := Aside0.mk (Kd.R_lower ho5 (below_size (hB HB))); replace HB := bst_ HB hb; clear hb ho5))
 go_loopg [4] k (fun kq v4 w' => ∃ (x3_1 : List (S162)) (x4_1 : Int), v4 = .int .i64 x4_1 ∧ Aside0 (laws_toHopS.l0 kq l0 x3_1 x4_1 = some r) ∧ Aside0 (kq ≤ k) ∧ Aside0 (Kd.R k162 162 w' w.heap.size (fun _ => True) v1704 x3_1) ∧ Aside0 (Below w.heap.size w w'))
 case atStart => exact ⟨(y1703), (0), (by first | rfl | (simp; done) | (simp [*]; done)), H', ⟨Nat.le_refl _⟩, ⟨ra HO1705.out⟩, ⟨hB HB⟩⟩
 case round =>
  clear H'
  try clear c2
  try clear c2b0
  try clear c2b1
  try clear c3
  try clear c3b0
  try clear c3b1
  obtain ⟨x3_1, x4_1, rfl, HA, HK1, HO_3, HB⟩ := hrel
  cases gk with
  | zero => exact absurd HA.out (by simp [laws_toHopS.l0])
  | succ k1 =>
   have H := HA.out
   clear HA
   simp only [laws_toHopS.l0] at H
   by_cases c6 : x4_1 < (l0.length : Int)
   rotate_left
   ·rw [if_neg c6] at H
    have c6b0 : decide (x4_1 < (l0.length : Int)) = false := decide_eq_false c6
    clear c6
    obtain rfl := Option.some.inj H
    go_wp2
    go_ret
    exact ⟨_, by first | rfl | (simp [errW_none, errW_some] <;> rfl) | (simp [*, errW_none, errW_some] <;> rfl), by (with_reducible repeat (first | apply Kd.R_alloc | apply Kd.R_drewN | apply Kd.R_drew)); exact HO_3.out, by repeat (first | (with_reducible first | exact HB.out | apply below_alloc | apply pw_below_drewN | apply below_drew1) | exact HB.out)⟩
   rw [if_pos c6] at H
   have c6b0 : decide (x4_1 < (l0.length : Int)) = true := decide_eq_true c6
   clear c6
   by_cases c7 : 0 ≤ x4_1
   rotate_left
   ·rw [if_neg c7] at H
    exact absurd H (by simp)
   rw [if_pos c7] at H
   have c7b0 : decide (0 ≤ x4_1) = true := decide_eq_true c7
   clear c7
   replace H := Option.bind_eq_some_iff.mp H
   obtain ⟨⟨t1707, t1708⟩, A80, H⟩ := H
   replace H : (if x4_1 < (x3_1.length : Int) then (laws_toHopS.l0 k1 l0 (x3_1.set (x4_1 : Int).toNat (⟨t1707, t1708⟩ : S162)) (wrap64 (x4_1 + 1))) else (none)) = some r := H
   have A8 := Aside0.mk A80
   clear A80
   by_cases c9 : x4_1 < (x3_1.length : Int)
   rotate_left
   ·rw [if_neg c9] at H
    exact absurd H (by simp)
   rw [if_pos c9] at H
   have c9b0 : decide (x4_1 < (x3_1.length : Int)) = true := decide_eq_true c9
   clear c9
   obtain ⟨y1709, hy1709⟩ : ∃ y_ : List (S162), y_ = (x3_1.set (x4_1 : Int).toNat (⟨t1707, t1708⟩ : S162)) := ⟨_, rfl⟩
   replace H : (laws_toHopS.l0 k1 l0 y1709 (wrap64 (x4_1 + 1))) = some r := by first | (rw [hy1709]; with_reducible exact H) | (have H2_ := (Option.bind_some _ _).symm.trans H; rw [hy1709]; with_reducible exact H2_) | (have H2_ := (Option.bind_some _ _).symm.trans H; with_reducible exact H2_) | with_reducible exact H | (rw [hy1709]; exact H) | exact H
   have Ny1709 := Aside0.mk hy1709
   clear hy1709
   have H' := Aside0.mk H
   clear H
   have p1706 : 0 ≤ (x4_1 : Int) := of_decide_eq_true (by first | (with_reducible assumption) | assumption)
   have q1706 : x4_1 < (l0.length : Int) := of_decide_eq_true (by first | (with_reducible assumption) | assumption)
   obtain ⟨ad1706, e1706, hx1706_0, hx1706_1⟩ := at_T166 HR0.out x4_1 p1706 q1706
   cases e1706
   replace hx1706_0 := (HB.out.cell (World.block_lt_of_cell? w _ hx1706_0)).trans hx1706_0
   replace hx1706_1 := (HB.out.cell (World.block_lt_of_cell? w _ hx1706_1)).trans hx1706_1
   replace p1706 := eq_true p1706
   replace q1706 := eq_true q1706
   go_wp2_with (first | ((with_reducible refine gate_callee (f := 129) rfl ?_); refine goesL_ (some 20) rfl rfl Try.func129 (by kernel_rfl) rfl #[.agg #[.int .i64 ((rd_T166 l0 x4_1).f0), .int .i64 ((rd_T166 l0 x4_1).f1)]] rfl tm_ ?_; (with_reducible refine (laws_toHop.calls ((rd_T166 l0 x4_1).f0) ((rd_T166 l0 x4_1).f1) t1707 t1708 _ A8.out).mono ?_); rintro e w11 ⟨rfl, hb⟩; refine ⟨_, rfl, ?_⟩; replace HO_3 := rb_ HO_3 hb; replace HB := bst_ HB hb; clear hb; have p10 : 0 ≤ (x4_1 : Int) := of_decide_eq_true (by first | (with_reducible assumption) | assumption); have q10 : (x4_1 : Int) < ((x3_1.length : Int) : Int) := of_decide_eq_true (by first | (with_reducible assumption) | assumption); obtain ⟨go10, co10, eo10, gb10, gl10, cl10, HG10⟩ := Kd.R_form HO_3.out (by omega); (first | cases eo10 | (injection eo10 with ea_ en_ ec_; (first | subst ea_ | (injection ea_ with ea_; subst ea_)); subst ec_; clear en_)); have GB10 := Aside0.mk gb10; have GG10 := Aside0.mk HG10; clear gb10 gl10 HG10; obtain ⟨ce10, hcl10, hM10, hcc10, hfr10⟩ := Kd.R_elem HO_3.out z162 (x4_1 : Int) p10 q10; obtain rfl := k162_openM hM10; have hx10_0 : w11.cell? ⟨go10, (x4_1 : Int).toNat * 2, none⟩ = some (.int .i64 ((rd_T162 x3_1 x4_1).f0)) := hcc10 0 _ rfl; have hx10_1 : w11.cell? ⟨go10, (x4_1 : Int).toNat * 2 + 1, none⟩ = some (.int .i64 ((rd_T162 x3_1 x4_1).f1)) := hcc10 1 _ rfl; have hf10_0 : w11.frozen? ⟨go10, (x4_1 : Int).toNat * 2, none⟩ = false := hfr10 0; have hf10_1 : w11.frozen? ⟨go10, (x4_1 : Int).toNat * 2 + 1, none⟩ = false := hfr10 1; clear hcl10 hcc10 hfr10 hM10; replace p10 := eq_true p10; replace q10 := eq_true q10; have HX12 := Aside0.mk (show Kd.R k162 162 w11 w.heap.size (fun _ => True) (.slice (some ⟨go10, 0, none⟩) x3_1.length co10) x3_1 from (ra HO_3.out)); obtain ⟨ce12, hcl12, hM12, hcc12, hfr12⟩ := Kd.R_elem HX12.out z162 (x4_1 : Int) (of_decide_eq_true (by first | (with_reducible assumption) | assumption)) (by have h_ : (x4_1 : Int) < ((x3_1.length : Int) : Int) := of_decide_eq_true (by first | (with_reducible assumption) | assumption); first | exact h_ | (have e_ := (Kd.R_reads' HO_3.out).1; omega) | simpa using h_); obtain rfl := k162_openM hM12; have HP12 := Kd.R_seg HX12.out (x4_1 : Int) (of_decide_eq_true (by first | (with_reducible assumption) | assumption)) (by have h_ : (x4_1 : Int) < ((x3_1.length : Int) : Int) := of_decide_eq_true (by first | (with_reducible assumption) | assumption); first | exact h_ | (have e_ := (Kd.R_reads' HO_3.out).1; omega) | simpa using h_) (seg := [.int .i64 t1707, .int .i64 t1708]) (j := 0) hcl12 hcc12 (show 2 ≤ 2 from by decide) (x' := (⟨t1707, t1708⟩ : S162)) (k162_mkM _ _ _ (⟨t1707, t1708⟩ : S162) ) (fun _ hk => hk); have hx12_0 := hcc12 0 _ rfl; (try simp only [show (k162).sz = 2 from rfl, Nat.mul_one, Nat.add_zero] at hx12_0); have hf12_0 := hfr12 0; (try simp only [show (k162).sz = 2 from rfl, Nat.mul_one, Nat.add_zero] at hf12_0); have hx12_1 := hcc12 1 _ rfl; (try simp only [show (k162).sz = 2 from rfl, Nat.mul_one, Nat.add_zero] at hx12_1); have hf12_1 := hfr12 1; (try simp only [show (k162).sz = 2 from rfl, Nat.mul_one, Nat.add_zero] at hf12_1); clear hcl12 hcc12 hfr12 hM12) | ((with_reducible refine gate_store (t := 162) (p := 21) rfl ?_); refine store_event (t := 162) (p := 21) (v := ?vo_w13) (w1 := ((w11.setCell ⟨go10, (x4_1 : Int).toNat * 2, none⟩ (.int .i64 t1707)).setCell ⟨go10, (x4_1 : Int).toNat * 2 + 1, none⟩ (.int .i64 t1708))) ?hg ?ho ?hn ?hr ?_; (case ho => rfl); (case hg => rfl); (case hn => rfl); (case hr => first | (go_simp; done) | (go_simp; rfl)); intro w13 hw; have hg : w11.grownBy w13 (some go10) := (by rw [hw]; exact HP12.2); have hp_ : Kd.R k162 162 w13 w.heap.size (fun _ => True) (.slice (some ⟨go10, 0, none⟩) x3_1.length co10) y1709 := (by rw [hw, Ny1709.out]; exact HP12.1); clear HP12; replace HO_3 := Aside0.mk (hp_); replace HB := Aside0.mk ((by rw [hw]; exact below_set (below_set (HB.out) GB10.out) GB10.out : Below w.heap.size w w13)); clear hg hw hp_))
   go_roundg k1
   case measure => have := HK1.out; omega
   case rel => exact ⟨(y1709), (wrap64 (x4_1 + 1)), (by first | rfl | (simp; done) | (simp [*]; done)), H', ⟨by have := HK1.out; omega⟩, ⟨ra HO_3.out⟩, ⟨hB HB⟩⟩

def impl_isSpot.f (a0 : Int) : Option (Bool) := (impl_in.f a0 0 11).bind fun t1710 => (some t1710)
set_option maxHeartbeats 8000000 in
set_option maxRecDepth 100000 in
theorem impl_isSpot.calls (a0 : Int) (r : Bool) (w : World) (h : impl_isSpot.f a0 = some r) :
  Calls Try.prog 130 #[.int .i64 a0] w fun e w' => e = .returned (.bool r) ∧ Drawn0 w w' := by
 have H : ((impl_in.f a0 0 11).bind fun t1710 => (some t1710)) = some r := h
 clear h
 replace H := Option.bind_eq_some_iff.mp H
 obtain ⟨t1710, A20, H⟩ := H
 replace H : (some t1710) = some r := H
 have A2 := Aside0.mk A20
 clear A20
 obtain rfl := Option.some.inj H
 go_enter Try.func130, Try.ntmps130
 go_wp2_with (first | ((with_reducible refine gate_callee (f := 92) rfl ?_); refine goesL_ (some 4) rfl rfl Try.func92 (by kernel_rfl) rfl #[.int .i64 a0, .int .i64 0, .int .i64 11] rfl tm_ ?_; (with_reducible refine (impl_in.calls a0 0 11 t1710 _ A2.out).mono ?_); rintro e w' ⟨rfl, ⟨nd, rfl⟩⟩; refine ⟨_, rfl, ?_⟩))
 go_ret
 exact ⟨by first | rfl | (simp; done) | (simp [*]; done), by repeat (first | exact Drawn0.refl _ | apply Drawn0.step)⟩

def impl_reached.l0 : Nat → List Int → List (S162) → Int → Int → Option (List Int)
 | 0, _, _, _, _ => none
 | k + 1, x5, x10, x11, x12 => if x12 < x11 then (if 0 ≤ x12 then (if x12 < (x10.length : Int) then ((slices_Contains_int_int.f k x5 ((rd_T162 x10 x12).f0)).bind fun t1837 => (if t1837 = true then ((slices_Contains_int_int.f k x5 ((rd_T162 x10 x12).f1)).bind fun t1838 => (if t1838 = true then (impl_reached.l0 k x5 x10 x11 (wrap64 (x12 + 1))) else (if x5.length < 17592186044416 then (impl_reached.l0 k (x5 ++ [(rd_T162 x10 x12).f1]) x10 x11 (wrap64 (x12 + 1))) else (none)))) else (impl_reached.l0 k x5 x10 x11 (wrap64 (x12 + 1))))) else (none)) else (none)) else ((slices_Sort_int_int.f x5).bind fun t1834 => (some t1834))
def impl_reached.f (k : Nat) (l0 : List (S162)) (a1 : Int) : Option (List Int) := impl_reached.l0 k (([a1] : List Int)) l0 (l0.length : Int) 0
theorem impl_reached.mono_l : ∀ k, (∀ y0 y1 y2 y3, LeO (impl_reached.l0 k y0 y1 y2 y3) (impl_reached.l0 (k + 1) y0 y1 y2 y3))
 | 0 => fun _ _ _ _ r h => by simp [impl_reached.l0] at h
 | k + 1 => by
  have ih0 := impl_reached.mono_l k
  ·intro y0 y1 y2 y3
   unfold impl_reached.l0
   repeat' first
   | (with_reducible exact ih0 _ _ _ _)
   | (with_reducible exact slices_Contains_int_int.mono _ _ _)
   | (with_reducible exact LeO.refl _)
   | (with_reducible exact LeO.none _)
   | (with_reducible refine LeO.ite ?_ ?_)
   | (with_reducible refine LeO.bind ?_ (fun _ => ?_))
theorem impl_reached.mono : ∀ a0 a1 k, LeO (impl_reached.f k a0 a1) (impl_reached.f (k + 1) a0 a1) := by
 intro a0 a1 k
 have ih0 := impl_reached.mono_l k
 unfold impl_reached.f
 repeat' first
   | (with_reducible exact ih0 _ _ _ _)
   | (with_reducible exact slices_Contains_int_int.mono _ _ _)
   | (with_reducible exact LeO.refl _)
   | (with_reducible exact LeO.none _)
   | (with_reducible refine LeO.ite ?_ ?_)
   | (with_reducible refine LeO.bind ?_ (fun _ => ?_))
set_option maxHeartbeats 8000000 in
set_option maxRecDepth 100000 in
theorem impl_reached.calls (k : Nat) (A0 : Option Addr) (c0 : Nat) (l0 : List (S162)) (a1 : Int) (r : List Int) (w : World) (hr0 : Kd.C k162 w A0 l0.length l0) (hc0 : l0.length ≤ c0) (h : impl_reached.f k l0 a1 = some r) :
  Calls Try.prog 131 #[.slice A0 l0.length c0, .int .i64 a1] w fun e w' => ∃ v0_ : Value, e = .returned (v0_) ∧ Kd.R (Kd.int .i64) 3 w' w.heap.size (fun _ => True) v0_ r ∧ Below w.heap.size w w' := by
 have hu162 := Try.underlying162
 have HR0 := Aside0.mk hr0
 have HC0 := Aside0.mk hc0
 clear hr0 hc0
 have HB := Aside0.mk (Below.refl w.heap.size w)
 have H : (impl_reached.l0 k (([a1] : List Int)) l0 (l0.length : Int) 0) = some r := h
 clear h
 obtain ⟨y1831, hy1831⟩ : ∃ y_ : List Int, y_ = (([a1] : List Int)) := ⟨_, rfl⟩
 replace H : (impl_reached.l0 k y1831 l0 (l0.length : Int) 0) = some r := by first | (rw [hy1831]; with_reducible exact H) | (have H2_ := (Option.bind_some _ _).symm.trans H; rw [hy1831]; with_reducible exact H2_) | (have H2_ := (Option.bind_some _ _).symm.trans H; with_reducible exact H2_) | with_reducible exact H | (rw [hy1831]; exact H) | exact H
 have Ny1831 := Aside0.mk hy1831
 clear hy1831
 have H' := Aside0.mk H
 clear H
 go_enter Try.func131, Try.ntmps131
 go_wp2_with (first | ((with_reducible refine gate_dst (N := 9) rfl ?_); refine Kd.R_lit (Kd.int .i64) _ 3 ?hg (N := 9) ?hd (xs := ([a1] : List Int)) (inner := [.int .i64 a1]) (ok := fun _ => True) (okp := fun _ => True) ?hr ?hp (fun _ hk => hk) trivial (Below.refl _ _) (Nat.le_refl _) (by simp) ?_; (case hd => rfl); (case hg => rfl); (case hr => first | (go_simp; done) | (go_simp; rfl)); (case hp => exact (Reps.one (show Kd.M (Kd.int .i64) _ _ _ a1 [.int .i64 a1] from rfl) (Reps.none _ _))); intro v1832 w3 ho4 hb hg_ hnew_; clear hg_ hnew_; (first | rw [← Ny1831.out] at ho4 | (simp only [Int.reduceToNat] at ho4; rw [← Ny1831.out] at ho4)); have HO1833 := Aside0.mk (Kd.R_lower ho4 (below_size (hB HB))); replace HB := bst_ HB hb; clear hb ho4))
 go_loopg [5, 12] k (fun kq v5 v12 w' => ∃ (x5_1 : List Int) (x12_1 : Int), v12 = .int .i64 x12_1 ∧ Aside0 (impl_reached.l0 kq x5_1 l0 (l0.length : Int) x12_1 = some r) ∧ Aside0 (kq ≤ k) ∧ Aside0 (Kd.R (Kd.int .i64) 3 w' w.heap.size (fun _ => True) v5 x5_1) ∧ Aside0 (Below w.heap.size w w'))
 case atStart => exact ⟨(y1831), (0), (by first | rfl | (simp; done) | (simp [*]; done)), H', ⟨Nat.le_refl _⟩, ⟨ra HO1833.out⟩, ⟨hB HB⟩⟩
 case round =>
  clear H'
  obtain ⟨x5_1, x12_1, rfl, HA, HK1, HO_5, HB⟩ := hrel
  cases gk with
  | zero => exact absurd HA.out (by simp [impl_reached.l0])
  | succ k1 =>
   have H := HA.out
   clear HA
   simp only [impl_reached.l0] at H
   by_cases c5 : x12_1 < (l0.length : Int)
   rotate_left
   ·rw [if_neg c5] at H
    have c5b0 : decide (x12_1 < (l0.length : Int)) = false := decide_eq_false c5
    clear c5
    replace H := Option.bind_eq_some_iff.mp H
    obtain ⟨t1834, A230, H⟩ := H
    replace H : (some t1834) = some r := H
    have A23 := Aside0.mk A230
    clear A230
    obtain rfl := Option.some.inj H
    obtain ⟨Ao24, co24, eo24⟩ := Kd.R_slice HO_5.out
    subst eo24
    go_wp2_with (first | ((with_reducible refine gate_callee (f := 178) rfl ?_); refine goesL_ (some 34) rfl rfl Try.func178 (by kernel_rfl) rfl #[.slice Ao24 x5_1.length co24] rfl tm_ ?_; (with_reducible refine (slices_Sort_int_int.calls (fun k_ => some k_ = (.slice Ao24 x5_1.length co24 : Value).ownBlock) (.slice Ao24 x5_1.length co24) x5_1 t1834 w _ ?side1 ?side2 A23.out).mono ?_); (case side1 => repeat (first | (with_reducible first | exact HB.out | apply below_alloc | apply pw_below_drewN | apply below_drew1) | exact HB.out)); (case side2 => exact Kd.R_tight rfl HO_5.out); rintro e w25 ⟨rfl, hy0, hb, hkp⟩; refine ⟨_, rfl, ?_⟩; replace HO_5 := Aside0.mk (Kd.R_reok rfl hy0 (fun k_ e_ => HO_5.out.1 k_ e_)); replace HB := Aside0.mk (hb); clear hb))
    go_ret
    exact ⟨_, by first | rfl | (simp [errW_none, errW_some] <;> rfl) | (simp [*, errW_none, errW_some] <;> rfl), by (with_reducible repeat (first | apply Kd.R_alloc | apply Kd.R_drewN | apply Kd.R_drew)); exact HO_5.out, by repeat (first | (with_reducible first | exact HB.out | apply below_alloc | apply pw_below_drewN | apply below_drew1) | exact HB.out)⟩
   rw [if_pos c5] at H
   have c5b0 : decide (x12_1 < (l0.length : Int)) = true := decide_eq_true c5
   clear c5
   by_cases c6 : 0 ≤ x12_1
   rotate_left
   ·rw [if_neg c6] at H
    exact absurd H (by simp)
   rw [if_pos c6] at H
   have c6b0 : decide (0 ≤ x12_1) = true := decide_eq_true c6
   clear c6
   by_cases c7 : x12_1 < (l0.length : Int)
   rotate_left
   ·rw [if_neg c7] at H
    exact absurd H (by simp)
   rw [if_pos c7] at H
   have c7b0 : decide (x12_1 < (l0.length : Int)) = true := decide_eq_true c7
   clear c7
   replace H := Option.bind_eq_some_iff.mp H
   obtain ⟨t1837, A80, H⟩ := H
   replace H : (if t1837 = true then ((slices_Contains_int_int.f k1 x5_1 ((rd_T162 l0 x12_1).f1)).bind fun t1838 => (if t1838 = true then (impl_reached.l0 k1 x5_1 l0 (l0.length : Int) (wrap64 (x12_1 + 1))) else (if x5_1.length < 17592186044416 then (impl_reached.l0 k1 (x5_1 ++ [(rd_T162 l0 x12_1).f1]) l0 (l0.length : Int) (wrap64 (x12_1 + 1))) else (none)))) else (impl_reached.l0 k1 x5_1 l0 (l0.length : Int) (wrap64 (x12_1 + 1)))) = some r := H
   have A8 := Aside0.mk A80
   clear A80
   by_cases c9 : t1837 = true
   rotate_left
   ·replace c9 := Bool.eq_false_iff.mpr c9
    subst c9
    rw [if_neg (show ¬ (false = true) by decide)] at H
    have H' := Aside0.mk H
    clear H
    have p1835 : 0 ≤ (x12_1 : Int) := of_decide_eq_true (by first | (with_reducible assumption) | assumption)
    have q1835 : x12_1 < (l0.length : Int) := of_decide_eq_true (by first | (with_reducible assumption) | assumption)
    obtain ⟨ad1835, e1835, hx1835_0, hx1835_1⟩ := at_T162 HR0.out x12_1 p1835 q1835
    cases e1835
    replace hx1835_0 := (HB.out.cell (World.block_lt_of_cell? w _ hx1835_0)).trans hx1835_0
    replace hx1835_1 := (HB.out.cell (World.block_lt_of_cell? w _ hx1835_1)).trans hx1835_1
    replace p1835 := eq_true p1835
    replace q1835 := eq_true q1835
    go_wp2_with (first | ((with_reducible refine gate_dst (N := 7) rfl ?_); refine box_event ?hg (N := 7) ?hd (cs := #[.int .i64 0, .int .i64 0]) (t := 162) ?hr ?_; (case hd => rfl); (case hg => rfl); (case hr => first | (go_simp; done) | (go_simp; rfl)); intro gb1836 hg w20 hbox hb; have BK1836 := Aside0.mk (hbox); have GW1836 := gw_ hg HB; have GE1836 := gw_ hg HB; replace HO_5 := rb_ HO_5 hb; replace HB := bst_ HB hb; clear hb hbox hg; have hcz21_0 : w20.cell? ⟨gb1836, 0, none⟩ = some (.int .i64 0) := bc_ BK1836 0; have hcz21_1 : w20.cell? ⟨gb1836, 1, none⟩ = some (.int .i64 0) := bc_ BK1836 1; have hfz21_0 := blk_frozen BK1836.out 0; have hfz21_1 := blk_frozen BK1836.out 1; obtain ⟨Ao22, co22, eo22⟩ := Kd.R_slice HO_5.out; subst eo22) | ((with_reducible refine gate_callee (f := 137) rfl ?_); refine goesL_ (some 19) rfl rfl Try.func137 (by kernel_rfl) rfl #[.slice Ao22 x5_1.length co22, .int .i64 ((rd_T162 l0 x12_1).f0)] rfl tm_ ?_; (with_reducible refine (slices_Contains_int_int.calls k1 _ _ x5_1 ((rd_T162 l0 x12_1).f0) false _ ?side1 ?side2 A8.out).mono ?_); (case side1 => exact rr_ (Kd.R_mono (Kd.R_far (p := ⟨gb1836, 1, none⟩) (Kd.R_far (p := ⟨gb1836, 0, none⟩) (Kd.R_types HO_5.out BK1836.out (by decide)) (fun _ hk => hk.2) (.int .i64 ((rd_T162 l0 x12_1).f0))) (fun _ hk => hk.2) (.int .i64 ((rd_T162 l0 x12_1).f1))) (fun _ h_ => h_.1))); (case side2 => exact (Kd.R_reads' HO_5.out).2.1); rintro e w' ⟨rfl, ⟨nd, rfl⟩⟩; refine ⟨_, rfl, ?_⟩))
    go_roundg k1
    case measure => have := HK1.out; omega
    case rel => exact ⟨(x5_1), (wrap64 (x12_1 + 1)), (by first | rfl | (simp; done) | (simp [*]; done)), H', ⟨by have := HK1.out; omega⟩, ⟨by (with_reducible repeat (first | apply Kd.R_alloc | apply Kd.R_drewN | apply Kd.R_drew)); exact Kd.R_mono (Kd.R_far (p := ⟨gb1836, 1, none⟩) (Kd.R_far (p := ⟨gb1836, 0, none⟩) (Kd.R_types HO_5.out BK1836.out (by decide)) (fun _ hk => hk.2) (.int .i64 ((rd_T162 l0 x12_1).f0))) (fun _ hk => hk.2) (.int .i64 ((rd_T162 l0 x12_1).f1))) (fun _ hk => trivial)⟩, ⟨hB HB⟩⟩
   subst c9
   rw [if_pos rfl] at H
   replace H := Option.bind_eq_some_iff.mp H
   obtain ⟨t1838, A100, H⟩ := H
   replace H : (if t1838 = true then (impl_reached.l0 k1 x5_1 l0 (l0.length : Int) (wrap64 (x12_1 + 1))) else (if x5_1.length < 17592186044416 then (impl_reached.l0 k1 (x5_1 ++ [(rd_T162 l0 x12_1).f1]) l0 (l0.length : Int) (wrap64 (x12_1 + 1))) else (none))) = some r := H
   have A10 := Aside0.mk A100
   clear A100
   by_cases c11 : t1838 = true
   ·subst c11
    rw [if_pos rfl] at H
    have H' := Aside0.mk H
    clear H
    have p1835 : 0 ≤ (x12_1 : Int) := of_decide_eq_true (by first | (with_reducible assumption) | assumption)
    have q1835 : x12_1 < (l0.length : Int) := of_decide_eq_true (by first | (with_reducible assumption) | assumption)
    obtain ⟨ad1835, e1835, hx1835_0, hx1835_1⟩ := at_T162 HR0.out x12_1 p1835 q1835
    cases e1835
    replace hx1835_0 := (HB.out.cell (World.block_lt_of_cell? w _ hx1835_0)).trans hx1835_0
    replace hx1835_1 := (HB.out.cell (World.block_lt_of_cell? w _ hx1835_1)).trans hx1835_1
    replace p1835 := eq_true p1835
    replace q1835 := eq_true q1835
    go_wp2_with (first | ((with_reducible refine gate_dst (N := 7) rfl ?_); refine box_event ?hg (N := 7) ?hd (cs := #[.int .i64 0, .int .i64 0]) (t := 162) ?hr ?_; (case hd => rfl); (case hg => rfl); (case hr => first | (go_simp; done) | (go_simp; rfl)); intro gb1836 hg w12 hbox hb; have BK1836 := Aside0.mk (hbox); have GW1836 := gw_ hg HB; have GE1836 := gw_ hg HB; replace HO_5 := rb_ HO_5 hb; replace HB := bst_ HB hb; clear hb hbox hg; have hcz13_0 : w12.cell? ⟨gb1836, 0, none⟩ = some (.int .i64 0) := bc_ BK1836 0; have hcz13_1 : w12.cell? ⟨gb1836, 1, none⟩ = some (.int .i64 0) := bc_ BK1836 1; have hfz13_0 := blk_frozen BK1836.out 0; have hfz13_1 := blk_frozen BK1836.out 1; obtain ⟨Ao14, co14, eo14⟩ := Kd.R_slice HO_5.out; subst eo14) | ((with_reducible refine gate_callee (f := 137) rfl ?_); refine goesL_ (some 19) rfl rfl Try.func137 (by kernel_rfl) rfl #[.slice Ao14 x5_1.length co14, .int .i64 ((rd_T162 l0 x12_1).f0)] rfl tm_ ?_; (with_reducible refine (slices_Contains_int_int.calls k1 _ _ x5_1 ((rd_T162 l0 x12_1).f0) true _ ?side1 ?side2 A8.out).mono ?_); (case side1 => exact rr_ (Kd.R_mono (Kd.R_far (p := ⟨gb1836, 1, none⟩) (Kd.R_far (p := ⟨gb1836, 0, none⟩) (Kd.R_types HO_5.out BK1836.out (by decide)) (fun _ hk => hk.2) (.int .i64 ((rd_T162 l0 x12_1).f0))) (fun _ hk => hk.2) (.int .i64 ((rd_T162 l0 x12_1).f1))) (fun _ h_ => h_.1))); (case side2 => exact (Kd.R_reads' HO_5.out).2.1); rintro e w' ⟨rfl, ⟨nd, rfl⟩⟩; refine ⟨_, rfl, ?_⟩) | (go_at_call 137; (with_reducible refine (slices_Contains_int_int.calls k1 _ _ x5_1 ((rd_T162 l0 x12_1).f1) true _ ?side1 ?side2 A10.out).mono ?_); (case side1 => exact rr_ (Kd.R_mono (Kd.R_far (p := ⟨gb1836, 1, none⟩) (Kd.R_far (p := ⟨gb1836, 0, none⟩) (Kd.R_types HO_5.out BK1836.out (by decide)) (fun _ hk => hk.2) (.int .i64 ((rd_T162 l0 x12_1).f0))) (fun _ hk => hk.2) (.int .i64 ((rd_T162 l0 x12_1).f1))) (fun _ h_ => h_.1))); (case side2 => exact (Kd.R_reads' HO_5.out).2.1); rintro e w' ⟨rfl, ⟨nd, rfl⟩⟩))
    go_roundg k1
    case measure => have := HK1.out; omega
    case rel => exact ⟨(x5_1), (wrap64 (x12_1 + 1)), (by first | rfl | (simp; done) | (simp [*]; done)), H', ⟨by have := HK1.out; omega⟩, ⟨by (with_reducible repeat (first | apply Kd.R_alloc | apply Kd.R_drewN | apply Kd.R_drew)); exact Kd.R_mono (Kd.R_far (p := ⟨gb1836, 1, none⟩) (Kd.R_far (p := ⟨gb1836, 0, none⟩) (Kd.R_types HO_5.out BK1836.out (by decide)) (fun _ hk => hk.2) (.int .i64 ((rd_T162 l0 x12_1).f0))) (fun _ hk => hk.2) (.int .i64 ((rd_T162 l0 x12_1).f1))) (fun _ hk => trivial)⟩, ⟨hB HB⟩⟩
   replace c11 := Bool.eq_false_iff.mpr c11
   subst c11
   rw [if_neg (show ¬ (false = true) by decide)] at H
   by_cases c15 : x5_1.length < 17592186044416
   rotate_left
   ·rw [if_neg c15] at H
    exact absurd H (by simp)
   rw [if_pos c15] at H
   have LMc15 := Aside0.mk c15
   clear c15
   obtain ⟨y1839, hy1839⟩ : ∃ y_ : List Int, y_ = (x5_1 ++ [(rd_T162 l0 x12_1).f1]) := ⟨_, rfl⟩
   replace H : (impl_reached.l0 k1 y1839 l0 (l0.length : Int) (wrap64 (x12_1 + 1))) = some r := by first | (rw [hy1839]; with_reducible exact H) | (have H2_ := (Option.bind_some _ _).symm.trans H; rw [hy1839]; with_reducible exact H2_) | (have H2_ := (Option.bind_some _ _).symm.trans H; with_reducible exact H2_) | with_reducible exact H | (rw [hy1839]; exact H) | exact H
   have Ny1839 := Aside0.mk hy1839
   clear hy1839
   have H' := Aside0.mk H
   clear H
   have p1835 : 0 ≤ (x12_1 : Int) := of_decide_eq_true (by first | (with_reducible assumption) | assumption)
   have q1835 : x12_1 < (l0.length : Int) := of_decide_eq_true (by first | (with_reducible assumption) | assumption)
   obtain ⟨ad1835, e1835, hx1835_0, hx1835_1⟩ := at_T162 HR0.out x12_1 p1835 q1835
   cases e1835
   replace hx1835_0 := (HB.out.cell (World.block_lt_of_cell? w _ hx1835_0)).trans hx1835_0
   replace hx1835_1 := (HB.out.cell (World.block_lt_of_cell? w _ hx1835_1)).trans hx1835_1
   replace p1835 := eq_true p1835
   replace q1835 := eq_true q1835
   go_wp2_with (first | ((with_reducible refine gate_dst (N := 7) rfl ?_); refine box_event ?hg (N := 7) ?hd (cs := #[.int .i64 0, .int .i64 0]) (t := 162) ?hr ?_; (case hd => rfl); (case hg => rfl); (case hr => first | (go_simp; done) | (go_simp; rfl)); intro gb1836 hg w16 hbox hb; have BK1836 := Aside0.mk (hbox); have GW1836 := gw_ hg HB; have GE1836 := gw_ hg HB; replace HO_5 := rb_ HO_5 hb; replace HB := bst_ HB hb; clear hb hbox hg; have hcz17_0 : w16.cell? ⟨gb1836, 0, none⟩ = some (.int .i64 0) := bc_ BK1836 0; have hcz17_1 : w16.cell? ⟨gb1836, 1, none⟩ = some (.int .i64 0) := bc_ BK1836 1; have hfz17_0 := blk_frozen BK1836.out 0; have hfz17_1 := blk_frozen BK1836.out 1; obtain ⟨Ao18, co18, eo18⟩ := Kd.R_slice HO_5.out; subst eo18) | ((with_reducible refine gate_callee (f := 137) rfl ?_); refine goesL_ (some 19) rfl rfl Try.func137 (by kernel_rfl) rfl #[.slice Ao18 x5_1.length co18, .int .i64 ((rd_T162 l0 x12_1).f0)] rfl tm_ ?_; (with_reducible refine (slices_Contains_int_int.calls k1 _ _ x5_1 ((rd_T162 l0 x12_1).f0) true _ ?side1 ?side2 A8.out).mono ?_); (case side1 => exact rr_ (Kd.R_mono (Kd.R_far (p := ⟨gb1836, 1, none⟩) (Kd.R_far (p := ⟨gb1836, 0, none⟩) (Kd.R_types HO_5.out BK1836.out (by decide)) (fun _ hk => hk.2) (.int .i64 ((rd_T162 l0 x12_1).f0))) (fun _ hk => hk.2) (.int .i64 ((rd_T162 l0 x12_1).f1))) (fun _ h_ => h_.1))); (case side2 => exact (Kd.R_reads' HO_5.out).2.1); rintro e w' ⟨rfl, ⟨nd, rfl⟩⟩; refine ⟨_, rfl, ?_⟩) | (go_at_call 137; (with_reducible refine (slices_Contains_int_int.calls k1 _ _ x5_1 ((rd_T162 l0 x12_1).f1) false _ ?side1 ?side2 A10.out).mono ?_); (case side1 => exact rr_ (Kd.R_mono (Kd.R_far (p := ⟨gb1836, 1, none⟩) (Kd.R_far (p := ⟨gb1836, 0, none⟩) (Kd.R_types HO_5.out BK1836.out (by decide)) (fun _ hk => hk.2) (.int .i64 ((rd_T162 l0 x12_1).f0))) (fun _ hk => hk.2) (.int .i64 ((rd_T162 l0 x12_1).f1))) (fun _ h_ => h_.1))); (case side2 => exact (Kd.R_reads' HO_5.out).2.1); rintro e w' ⟨rfl, ⟨nd, rfl⟩⟩) | ((with_reducible refine gate_builtin (b := .append) (xs := #[.tmp 27, .tmp 30]) rfl ?_); at_builtin; refine Kd.R_append (Kd.int .i64) (w0 := w) w.heap.size rfl (.tmp 27) (.tmp 30) 24 3 (.int .i64 0) 8 rfl Try.underlying24 info3 rfl (by decide) (by omega) (.slice Ao18 x5_1.length co18) x5_1 ((rd_T162 l0 x12_1).f1) [.int .i64 ((rd_T162 l0 x12_1).f1)] (fun _ => True) (fun _ => False) rfl (by first | (go_simp; done) | (go_simp; rfl)) ?aP (fun _ hk => hk.elim) ?aF ?aO ?aB ?aS ?aL ?_; (case aP => exact rfl); (case aB => exact (hB HB)); (case aF => exact (fun _ _ => trivial)); (case aO => exact (ra (Kd.R_mono (Kd.R_far (p := ⟨gb1836, 1, none⟩) (Kd.R_far (p := ⟨gb1836, 0, none⟩) (Kd.R_types HO_5.out BK1836.out (by decide)) (fun _ hk => hk.2) (.int .i64 ((rd_T162 l0 x12_1).f0))) (fun _ hk => hk.2) (.int .i64 ((rd_T162 l0 x12_1).f1))) (fun _ hk => trivial)))); (case aS => exact (below_size (hB HB))); (case aL => have := LMc15.out; omega); intro v1840 w19 ho hb hg hat; rw [← Ny1839.out] at ho; have HO1841 := Aside0.mk (ho); replace BK1836 := Aside0.mk (blk_grown (g := gb1836) (o := .cells #[.int .i64 ((rd_T162 l0 x12_1).f0), .int .i64 ((rd_T162 l0 x12_1).f1)] 162 (0, 0)) (by (with_reducible repeat (first | refine blk_drewN ?_ _ | refine blk_drew ?_ | refine blk_alloc ?_ _)); refine blk_put (cs := #[.int .i64 ((rd_T162 l0 x12_1).f0), .int .i64 0]) ?_ 1 _ rfl; (with_reducible repeat (first | refine blk_drewN ?_ _ | refine blk_drew ?_ | refine blk_alloc ?_ _)); refine blk_put (cs := #[.int .i64 0, .int .i64 0]) ?_ 0 _ rfl; (with_reducible repeat (first | refine blk_drewN ?_ _ | refine blk_drew ?_ | refine blk_alloc ?_ _)); exact BK1836.out) hg (Kd.R_ne HO_5.out BK1836.out (by decide))); replace HB := Aside0.mk (hb); clear HO_5; clear ho hb hg hat))
   go_roundg k1
   case measure => have := HK1.out; omega
   case rel => exact ⟨(y1839), (wrap64 (x12_1 + 1)), (by first | rfl | (simp; done) | (simp [*]; done)), H', ⟨by have := HK1.out; omega⟩, ⟨ra HO1841.out⟩, ⟨hB HB⟩⟩

mutual
def impl_ReachedBy.j0 : Nat → List (S162) → Int → Bool → Option (List Int × Bool)
 | 0, _, _, _ => none
 | k + 1, x0, x1, x15 => if x15 = true then (some (([] : List Int), false)) else (impl_ReachedBy.l0 k x0 x1 x0 (x0.length : Int) 0)
def impl_ReachedBy.l0 : Nat → List (S162) → Int → List (S162) → Int → Int → Option (List Int × Bool)
 | 0, _, _, _, _, _ => none
 | k + 1, x0, x1, x16, x17, x18 => if x18 < x17 then (if 0 ≤ x18 then (if x18 < (x16.length : Int) then ((impl_isSpot.f ((rd_T162 x16 x18).f0)).bind fun t1848 => (if t1848 = true then ((impl_isSpot.f ((rd_T162 x16 x18).f1)).bind fun t1849 => (if t1849 = true then (if ((rd_T162 x16 x18).f0) = ((rd_T162 x16 x18).f1) then (some (([] : List Int), false)) else (impl_ReachedBy.l0 k x0 x1 x16 x17 (wrap64 (x18 + 1)))) else (some (([] : List Int), false)))) else (some (([] : List Int), false)))) else (none)) else (none)) else ((impl_reached.f k x0 x1).bind fun t1843 => (some (t1843, true)))
end
def impl_ReachedBy.f (k : Nat) (l0 : List (S162)) (a1 : Int) : Option (List Int × Bool) := if (l0.length : Int) > 40 then (impl_ReachedBy.j0 k l0 a1 true) else ((impl_isSpot.f a1).bind fun t1842 => (impl_ReachedBy.j0 k l0 a1 (!t1842)))
theorem impl_ReachedBy.mono_l : ∀ k, (∀ y0 y1 y2, LeO (impl_ReachedBy.j0 k y0 y1 y2) (impl_ReachedBy.j0 (k + 1) y0 y1 y2)) ∧ (∀ y0 y1 y2 y3 y4, LeO (impl_ReachedBy.l0 k y0 y1 y2 y3 y4) (impl_ReachedBy.l0 (k + 1) y0 y1 y2 y3 y4))
 | 0 => ⟨fun _ _ _ r h => by simp [impl_ReachedBy.j0] at h, fun _ _ _ _ _ r h => by simp [impl_ReachedBy.l0] at h⟩
 | k + 1 => by
  obtain ⟨ih0, ih1⟩ := impl_ReachedBy.mono_l k
  refine ⟨?_, ?_⟩
  ·intro y0 y1 y2
   unfold impl_ReachedBy.j0
   repeat' first
   | (with_reducible exact ih0 _ _ _)
   | (with_reducible exact ih1 _ _ _ _ _)
   | (with_reducible exact impl_reached.mono _ _ _)
   | (with_reducible exact LeO.refl _)
   | (with_reducible exact LeO.none _)
   | (with_reducible refine LeO.ite ?_ ?_)
   | (with_reducible refine LeO.bind ?_ (fun _ => ?_))
  ·intro y0 y1 y2 y3 y4
   unfold impl_ReachedBy.l0
   repeat' first
   | (with_reducible exact ih0 _ _ _)
   | (with_reducible exact ih1 _ _ _ _ _)
   | (with_reducible exact impl_reached.mono _ _ _)
   | (with_reducible exact LeO.refl _)
   | (with_reducible exact LeO.none _)
   | (with_reducible refine LeO.ite ?_ ?_)
   | (with_reducible refine LeO.bind ?_ (fun _ => ?_))
theorem impl_ReachedBy.mono : ∀ a0 a1 k, LeO (impl_ReachedBy.f k a0 a1) (impl_ReachedBy.f (k + 1) a0 a1) := by
 intro a0 a1 k
 obtain ⟨ih0, ih1⟩ := impl_ReachedBy.mono_l k
 unfold impl_ReachedBy.f
 repeat' first
   | (with_reducible exact ih0 _ _ _)
   | (with_reducible exact ih1 _ _ _ _ _)
   | (with_reducible exact impl_reached.mono _ _ _)
   | (with_reducible exact LeO.refl _)
   | (with_reducible exact LeO.none _)
   | (with_reducible refine LeO.ite ?_ ?_)
   | (with_reducible refine LeO.bind ?_ (fun _ => ?_))
set_option maxHeartbeats 8000000 in
set_option maxRecDepth 100000 in
theorem impl_ReachedBy.calls (k : Nat) (A0 : Option Addr) (c0 : Nat) (l0 : List (S162)) (a1 : Int) (r1 : List Int) (r2 : Bool) (w : World) (hr0 : Kd.C k162 w A0 l0.length l0) (hc0 : l0.length ≤ c0) (h : impl_ReachedBy.f k l0 a1 = some (r1, r2)) :
  Calls Try.prog 67 #[.slice A0 l0.length c0, .int .i64 a1] w fun e w' => ∃ v0_ : Value, e = .returned (.tuple #[v0_, .bool r2]) ∧ Kd.R (Kd.int .i64) 3 w' w.heap.size (fun _ => True) v0_ r1 ∧ Below w.heap.size w w' := by
 have hu162 := Try.underlying162
 have HR0 := Aside0.mk hr0
 have HC0 := Aside0.mk hc0
 clear hr0 hc0
 have HB := Aside0.mk (Below.refl w.heap.size w)
 have H : (if (l0.length : Int) > 40 then (impl_ReachedBy.j0 k l0 a1 true) else ((impl_isSpot.f a1).bind fun t1842 => (impl_ReachedBy.j0 k l0 a1 (!t1842)))) = some (r1, r2) := h
 clear h
 have HC3 := Aside0.mk H
 clear H
 go_enter Try.func67, Try.ntmps67
 go_upto_region 1 with (fail)
 go_cut [15] (fun v15 wc => ∃ (kq : Nat) (x15_2 : Bool), v15 = .bool x15_2 ∧ Aside0 (impl_ReachedBy.j0 kq l0 a1 x15_2 = some (r1, r2)) ∧ Aside0 (kq ≤ k) ∧ Aside0 (Below w.heap.size w wc))
 case first =>
  have H := HC3.out
  clear HC3
  by_cases c4 : (l0.length : Int) > 40
  ·rw [if_pos c4] at H
   have c4b0 : decide (40 < (l0.length : Int)) = true := decide_eq_true c4
   have c4b1 : decide (40 < l0.length) = true := decide_eq_true (by omega)
   clear c4
   (first | rw [c4b0] | (simp only [i64_w, i32_w]; rw [c4b0]) | skip)
   have H' := Aside0.mk H
   clear H
   go_wp2
   go_meet
   case rel => exact ⟨_, (true), (by first | rfl | (simp; done) | (simp [*]; done)), H', ⟨by first | omega | exact Nat.le_refl _⟩, ⟨hB HB⟩⟩
  rw [if_neg c4] at H
  have c4b0 : decide (40 < (l0.length : Int)) = false := decide_eq_false c4
  have c4b1 : decide (40 < l0.length) = false := decide_eq_false (by omega)
  clear c4
  (first | rw [c4b0] | (simp only [i64_w, i32_w]; rw [c4b0]) | skip)
  replace H := Option.bind_eq_some_iff.mp H
  obtain ⟨t1842, A50, H⟩ := H
  replace H : (impl_ReachedBy.j0 k l0 a1 (!t1842)) = some (r1, r2) := H
  have A5 := Aside0.mk A50
  clear A50
  have H' := Aside0.mk H
  clear H
  go_wp2_with (first | (go_at_call 130; (with_reducible refine (impl_isSpot.calls a1 t1842 _ A5.out).mono ?_); rintro e w' ⟨rfl, ⟨nd, rfl⟩⟩))
  go_meet
  case rel => exact ⟨_, (!t1842), (by first | rfl | (simp; done) | (simp [*]; done)), H', ⟨by first | omega | exact Nat.le_refl _⟩, ⟨hB HB⟩⟩
 case rest =>
  clear HC3
  obtain ⟨kq, x15_2, rfl, HA, HJ2, HB⟩ := hcut
  cases kq with
  | zero => exact absurd HA.out (by simp [impl_ReachedBy.j0])
  | succ kj2 =>
   have H := HA.out
   clear HA
   simp only [impl_ReachedBy.j0] at H
   by_cases c6 : x15_2 = true
   ·subst c6
    rw [if_pos rfl] at H
    simp only [Option.some.injEq, Prod.mk.injEq] at H
    obtain ⟨rfl, rfl⟩ := H
    go_wp2
    go_ret2
    exact ⟨_, by first | rfl | (simp [errW_none, errW_some] <;> rfl) | (simp [*, errW_none, errW_some] <;> rfl), by first | exact Kd.R_nil _ _ _ _ _ | exact Kd.N_nil _ _ _ _ _ | exact Kd.V_nil _ _ _ _ _ | exact Kd.Q_nil _ _ _ _ _ | exact Kd.S_nil _ _ _ _ _, by repeat (first | (with_reducible first | exact HB.out | apply below_alloc | apply pw_below_drewN | apply below_drew1) | exact HB.out)⟩
   replace c6 := Bool.eq_false_iff.mpr c6
   subst c6
   rw [if_neg (show ¬ (false = true) by decide)] at H
   have H' := Aside0.mk H
   clear H
   go_wp2
   go_loopg [18] kj2 (fun kq v18 w' => ∃ (x18_2 : Int), v18 = .int .i64 x18_2 ∧ Aside0 (impl_ReachedBy.l0 kq l0 a1 l0 (l0.length : Int) x18_2 = some (r1, r2)) ∧ Aside0 (kq ≤ kj2) ∧ Aside0 (Below w.heap.size w w'))
   case atStart => exact ⟨(0), (by first | rfl | (simp; done) | (simp [*]; done)), H', ⟨Nat.le_refl _⟩, ⟨hB HB⟩⟩
   case round =>
    clear H'
    try clear c6
    obtain ⟨x18_2, rfl, HA, HK2, HB⟩ := hrel
    cases gk with
    | zero => exact absurd HA.out (by simp [impl_ReachedBy.l0])
    | succ k2 =>
     have H := HA.out
     clear HA
     simp only [impl_ReachedBy.l0] at H
     by_cases c7 : x18_2 < (l0.length : Int)
     rotate_left
     ·rw [if_neg c7] at H
      have c7b0 : decide (x18_2 < (l0.length : Int)) = false := decide_eq_false c7
      clear c7
      replace H := Option.bind_eq_some_iff.mp H
      obtain ⟨t1843, A230, H⟩ := H
      replace H : (some (t1843, true)) = some (r1, r2) := H
      have A23 := Aside0.mk A230
      clear A230
      simp only [Option.some.injEq, Prod.mk.injEq] at H
      obtain ⟨rfl, rfl⟩ := H
      go_wp2_with (first | ((with_reducible refine gate_callee (f := 131) rfl ?_); refine goesL_ (some 42) rfl rfl Try.func131 (by kernel_rfl) rfl #[.slice A0 l0.length c0, .int .i64 a1] rfl tm_ ?_; (with_reducible refine (impl_reached.calls k2 _ _ l0 a1 t1843 _ ?side1 ?side2 A23.out).mono ?_); (case side1 => exact ca (Kd.C_below HR0.out HB.out)); (case side2 => exact HC0.out); rintro e w24 ⟨v1844, rfl, ho0, hb⟩; refine ⟨_, rfl, ?_⟩; have HO1845 := Aside0.mk (Kd.R_lower ho0 (below_size (hB HB))); replace HB := bst_ HB hb; clear hb ho0))
      go_ret2
      exact ⟨_, by first | rfl | (simp [errW_none, errW_some] <;> rfl) | (simp [*, errW_none, errW_some] <;> rfl), by (with_reducible repeat (first | apply Kd.R_alloc | apply Kd.R_drewN | apply Kd.R_drew)); exact HO1845.out, by repeat (first | (with_reducible first | exact HB.out | apply below_alloc | apply pw_below_drewN | apply below_drew1) | exact HB.out)⟩
     rw [if_pos c7] at H
     have c7b0 : decide (x18_2 < (l0.length : Int)) = true := decide_eq_true c7
     clear c7
     by_cases c8 : 0 ≤ x18_2
     rotate_left
     ·rw [if_neg c8] at H
      exact absurd H (by simp)
     rw [if_pos c8] at H
     have c8b0 : decide (0 ≤ x18_2) = true := decide_eq_true c8
     clear c8
     by_cases c9 : x18_2 < (l0.length : Int)
     rotate_left
     ·rw [if_neg c9] at H
      exact absurd H (by simp)
     rw [if_pos c9] at H
     have c9b0 : decide (x18_2 < (l0.length : Int)) = true := decide_eq_true c9
     clear c9
     replace H := Option.bind_eq_some_iff.mp H
     obtain ⟨t1848, A100, H⟩ := H
     replace H : (if t1848 = true then ((impl_isSpot.f ((rd_T162 l0 x18_2).f1)).bind fun t1849 => (if t1849 = true then (if ((rd_T162 l0 x18_2).f0) = ((rd_T162 l0 x18_2).f1) then (some (([] : List Int), false)) else (impl_ReachedBy.l0 k2 l0 a1 l0 (l0.length : Int) (wrap64 (x18_2 + 1)))) else (some (([] : List Int), false)))) else (some (([] : List Int), false))) = some (r1, r2) := H
     have A10 := Aside0.mk A100
     clear A100
     by_cases c11 : t1848 = true
     rotate_left
     ·replace c11 := Bool.eq_false_iff.mpr c11
      subst c11
      rw [if_neg (show ¬ (false = true) by decide)] at H
      simp only [Option.some.injEq, Prod.mk.injEq] at H
      obtain ⟨rfl, rfl⟩ := H
      have p1846 : 0 ≤ (x18_2 : Int) := of_decide_eq_true (by first | (with_reducible assumption) | assumption)
      have q1846 : x18_2 < (l0.length : Int) := of_decide_eq_true (by first | (with_reducible assumption) | assumption)
      obtain ⟨ad1846, e1846, hx1846_0, hx1846_1⟩ := at_T162 HR0.out x18_2 p1846 q1846
      cases e1846
      replace hx1846_0 := (HB.out.cell (World.block_lt_of_cell? w _ hx1846_0)).trans hx1846_0
      replace hx1846_1 := (HB.out.cell (World.block_lt_of_cell? w _ hx1846_1)).trans hx1846_1
      replace p1846 := eq_true p1846
      replace q1846 := eq_true q1846
      go_wp2_with (first | ((with_reducible refine gate_dst (N := 7) rfl ?_); refine box_event ?hg (N := 7) ?hd (cs := #[.int .i64 0, .int .i64 0]) (t := 162) ?hr ?_; (case hd => rfl); (case hg => rfl); (case hr => first | (go_simp; done) | (go_simp; rfl)); intro gb1847 hg w21 hbox hb; have BK1847 := Aside0.mk (hbox); have GW1847 := gw_ hg HB; have GE1847 := gw_ hg HB; replace HB := bst_ HB hb; clear hb hbox hg; have hcz22_0 : w21.cell? ⟨gb1847, 0, none⟩ = some (.int .i64 0) := bc_ BK1847 0; have hcz22_1 : w21.cell? ⟨gb1847, 1, none⟩ = some (.int .i64 0) := bc_ BK1847 1; have hfz22_0 := blk_frozen BK1847.out 0; have hfz22_1 := blk_frozen BK1847.out 1) | ((with_reducible refine gate_callee (f := 130) rfl ?_); refine goesL_ (some 24) rfl rfl Try.func130 (by kernel_rfl) rfl #[.int .i64 ((rd_T162 l0 x18_2).f0)] rfl tm_ ?_; (with_reducible refine (impl_isSpot.calls ((rd_T162 l0 x18_2).f0) false _ A10.out).mono ?_); rintro e w' ⟨rfl, ⟨nd, rfl⟩⟩; refine ⟨_, rfl, ?_⟩))
      go_ret2
      exact ⟨_, by first | rfl | (simp [errW_none, errW_some] <;> rfl) | (simp [*, errW_none, errW_some] <;> rfl), by first | exact Kd.R_nil _ _ _ _ _ | exact Kd.N_nil _ _ _ _ _ | exact Kd.V_nil _ _ _ _ _ | exact Kd.Q_nil _ _ _ _ _ | exact Kd.S_nil _ _ _ _ _, by repeat (first | (with_reducible first | exact HB.out | apply below_alloc | apply pw_below_drewN | apply below_drew1 | refine below_set ?_ GE1847.out) | exact HB.out)⟩
     subst c11
     rw [if_pos rfl] at H
     replace H := Option.bind_eq_some_iff.mp H
     obtain ⟨t1849, A120, H⟩ := H
     replace H : (if t1849 = true then (if ((rd_T162 l0 x18_2).f0) = ((rd_T162 l0 x18_2).f1) then (some (([] : List Int), false)) else (impl_ReachedBy.l0 k2 l0 a1 l0 (l0.length : Int) (wrap64 (x18_2 + 1)))) else (some (([] : List Int), false))) = some (r1, r2) := H
     have A12 := Aside0.mk A120
     clear A120
     by_cases c13 : t1849 = true
     rotate_left
     ·replace c13 := Bool.eq_false_iff.mpr c13
      subst c13
      rw [if_neg (show ¬ (false = true) by decide)] at H
      simp only [Option.some.injEq, Prod.mk.injEq] at H
      obtain ⟨rfl, rfl⟩ := H
      have p1846 : 0 ≤ (x18_2 : Int) := of_decide_eq_true (by first | (with_reducible assumption) | assumption)
      have q1846 : x18_2 < (l0.length : Int) := of_decide_eq_true (by first | (with_reducible assumption) | assumption)
      obtain ⟨ad1846, e1846, hx1846_0, hx1846_1⟩ := at_T162 HR0.out x18_2 p1846 q1846
      cases e1846
      replace hx1846_0 := (HB.out.cell (World.block_lt_of_cell? w _ hx1846_0)).trans hx1846_0
      replace hx1846_1 := (HB.out.cell (World.block_lt_of_cell? w _ hx1846_1)).trans hx1846_1
      replace p1846 := eq_true p1846
      replace q1846 := eq_true q1846
      go_wp2_with (first | ((with_reducible refine gate_dst (N := 7) rfl ?_); refine box_event ?hg (N := 7) ?hd (cs := #[.int .i64 0, .int .i64 0]) (t := 162) ?hr ?_; (case hd => rfl); (case hg => rfl); (case hr => first | (go_simp; done) | (go_simp; rfl)); intro gb1847 hg w19 hbox hb; have BK1847 := Aside0.mk (hbox); have GW1847 := gw_ hg HB; have GE1847 := gw_ hg HB; replace HB := bst_ HB hb; clear hb hbox hg; have hcz20_0 : w19.cell? ⟨gb1847, 0, none⟩ = some (.int .i64 0) := bc_ BK1847 0; have hcz20_1 : w19.cell? ⟨gb1847, 1, none⟩ = some (.int .i64 0) := bc_ BK1847 1; have hfz20_0 := blk_frozen BK1847.out 0; have hfz20_1 := blk_frozen BK1847.out 1) | ((with_reducible refine gate_callee (f := 130) rfl ?_); refine goesL_ (some 24) rfl rfl Try.func130 (by kernel_rfl) rfl #[.int .i64 ((rd_T162 l0 x18_2).f0)] rfl tm_ ?_; (with_reducible refine (impl_isSpot.calls ((rd_T162 l0 x18_2).f0) true _ A10.out).mono ?_); rintro e w' ⟨rfl, ⟨nd, rfl⟩⟩; refine ⟨_, rfl, ?_⟩) | (go_at_call 130; (with_reducible refine (impl_isSpot.calls ((rd_T162 l0 x18_2).f1) false _ A12.out).mono ?_); rintro e w' ⟨rfl, ⟨nd, rfl⟩⟩))
      go_ret2
      exact ⟨_, by first | rfl | (simp [errW_none, errW_some] <;> rfl) | (simp [*, errW_none, errW_some] <;> rfl), by first | exact Kd.R_nil _ _ _ _ _ | exact Kd.N_nil _ _ _ _ _ | exact Kd.V_nil _ _ _ _ _ | exact Kd.Q_nil _ _ _ _ _ | exact Kd.S_nil _ _ _ _ _, by repeat (first | (with_reducible first | exact HB.out | apply below_alloc | apply pw_below_drewN | apply below_drew1 | refine below_set ?_ GE1847.out) | exact HB.out)⟩
     subst c13
     rw [if_pos rfl] at H
     by_cases c14 : ((rd_T162 l0 x18_2).f0) = ((rd_T162 l0 x18_2).f1)
     rotate_left
     ·rw [if_neg c14] at H
      have c14b0 : (((rd_T162 l0 x18_2).f0) == ((rd_T162 l0 x18_2).f1)) = false := beq_eq_false_iff_ne.mpr c14
      have c14b1 : (((rd_T162 l0 x18_2).f0) != ((rd_T162 l0 x18_2).f1)) = true := bne_iff_ne.mpr c14
      have H' := Aside0.mk H
      clear H
      have p1846 : 0 ≤ (x18_2 : Int) := of_decide_eq_true (by first | (with_reducible assumption) | assumption)
      have q1846 : x18_2 < (l0.length : Int) := of_decide_eq_true (by first | (with_reducible assumption) | assumption)
      obtain ⟨ad1846, e1846, hx1846_0, hx1846_1⟩ := at_T162 HR0.out x18_2 p1846 q1846
      cases e1846
      replace hx1846_0 := (HB.out.cell (World.block_lt_of_cell? w _ hx1846_0)).trans hx1846_0
      replace hx1846_1 := (HB.out.cell (World.block_lt_of_cell? w _ hx1846_1)).trans hx1846_1
      replace p1846 := eq_true p1846
      replace q1846 := eq_true q1846
      go_wp2_with (first | ((with_reducible refine gate_dst (N := 7) rfl ?_); refine box_event ?hg (N := 7) ?hd (cs := #[.int .i64 0, .int .i64 0]) (t := 162) ?hr ?_; (case hd => rfl); (case hg => rfl); (case hr => first | (go_simp; done) | (go_simp; rfl)); intro gb1847 hg w17 hbox hb; have BK1847 := Aside0.mk (hbox); have GW1847 := gw_ hg HB; have GE1847 := gw_ hg HB; replace HB := bst_ HB hb; clear hb hbox hg; have hcz18_0 : w17.cell? ⟨gb1847, 0, none⟩ = some (.int .i64 0) := bc_ BK1847 0; have hcz18_1 : w17.cell? ⟨gb1847, 1, none⟩ = some (.int .i64 0) := bc_ BK1847 1; have hfz18_0 := blk_frozen BK1847.out 0; have hfz18_1 := blk_frozen BK1847.out 1) | ((with_reducible refine gate_callee (f := 130) rfl ?_); refine goesL_ (some 24) rfl rfl Try.func130 (by kernel_rfl) rfl #[.int .i64 ((rd_T162 l0 x18_2).f0)] rfl tm_ ?_; (with_reducible refine (impl_isSpot.calls ((rd_T162 l0 x18_2).f0) true _ A10.out).mono ?_); rintro e w' ⟨rfl, ⟨nd, rfl⟩⟩; refine ⟨_, rfl, ?_⟩) | (go_at_call 130; (with_reducible refine (impl_isSpot.calls ((rd_T162 l0 x18_2).f1) true _ A12.out).mono ?_); rintro e w' ⟨rfl, ⟨nd, rfl⟩⟩))
      go_roundg k2
      case measure => have := HJ2.out; have := HK2.out; omega
      case rel => exact ⟨(wrap64 (x18_2 + 1)), (by first | rfl | (simp; done) | (simp [*]; done)), H', ⟨by have := HJ2.out; have := HK2.out; omega⟩, ⟨hB HB⟩⟩
     rw [if_pos c14] at H
     have c14b0 : (((rd_T162 l0 x18_2).f0) == ((rd_T162 l0 x18_2).f1)) = true := beq_iff_eq.mpr c14
     have c14b1 : (((rd_T162 l0 x18_2).f0) != ((rd_T162 l0 x18_2).f1)) = false := bne_eq_false_iff_eq.mpr c14
     clear c14
     simp only [Option.some.injEq, Prod.mk.injEq] at H
     obtain ⟨rfl, rfl⟩ := H
     have p1846 : 0 ≤ (x18_2 : Int) := of_decide_eq_true (by first | (with_reducible assumption) | assumption)
     have q1846 : x18_2 < (l0.length : Int) := of_decide_eq_true (by first | (with_reducible assumption) | assumption)
     obtain ⟨ad1846, e1846, hx1846_0, hx1846_1⟩ := at_T162 HR0.out x18_2 p1846 q1846
     cases e1846
     replace hx1846_0 := (HB.out.cell (World.block_lt_of_cell? w _ hx1846_0)).trans hx1846_0
     replace hx1846_1 := (HB.out.cell (World.block_lt_of_cell? w _ hx1846_1)).trans hx1846_1
     replace p1846 := eq_true p1846
     replace q1846 := eq_true q1846
     go_wp2_with (first | ((with_reducible refine gate_dst (N := 7) rfl ?_); refine box_event ?hg (N := 7) ?hd (cs := #[.int .i64 0, .int .i64 0]) (t := 162) ?hr ?_; (case hd => rfl); (case hg => rfl); (case hr => first | (go_simp; done) | (go_simp; rfl)); intro gb1847 hg w15 hbox hb; have BK1847 := Aside0.mk (hbox); have GW1847 := gw_ hg HB; have GE1847 := gw_ hg HB; replace HB := bst_ HB hb; clear hb hbox hg; have hcz16_0 : w15.cell? ⟨gb1847, 0, none⟩ = some (.int .i64 0) := bc_ BK1847 0; have hcz16_1 : w15.cell? ⟨gb1847, 1, none⟩ = some (.int .i64 0) := bc_ BK1847 1; have hfz16_0 := blk_frozen BK1847.out 0; have hfz16_1 := blk_frozen BK1847.out 1) | ((with_reducible refine gate_callee (f := 130) rfl ?_); refine goesL_ (some 24) rfl rfl Try.func130 (by kernel_rfl) rfl #[.int .i64 ((rd_T162 l0 x18_2).f0)] rfl tm_ ?_; (with_reducible refine (impl_isSpot.calls ((rd_T162 l0 x18_2).f0) true _ A10.out).mono ?_); rintro e w' ⟨rfl, ⟨nd, rfl⟩⟩; refine ⟨_, rfl, ?_⟩) | (go_at_call 130; (with_reducible refine (impl_isSpot.calls ((rd_T162 l0 x18_2).f1) true _ A12.out).mono ?_); rintro e w' ⟨rfl, ⟨nd, rfl⟩⟩))
     go_ret2
     exact ⟨_, by first | rfl | (simp [errW_none, errW_some] <;> rfl) | (simp [*, errW_none, errW_some] <;> rfl), by first | exact Kd.R_nil _ _ _ _ _ | exact Kd.N_nil _ _ _ _ _ | exact Kd.V_nil _ _ _ _ _ | exact Kd.Q_nil _ _ _ _ _ | exact Kd.S_nil _ _ _ _ _, by repeat (first | (with_reducible first | exact HB.out | apply below_alloc | apply pw_below_drewN | apply below_drew1 | refine below_set ?_ GE1847.out) | exact HB.out)⟩

def laws_eqHop.f (a0_0 : Int) (a0_1 : Int) (a1_0 : Int) (a1_1 : Int) : Option (Bool) := if a0_0 = a1_0 then (if a0_1 = a1_1 then (some true) else (some false)) else (some false)
set_option maxHeartbeats 8000000 in
set_option maxRecDepth 100000 in
theorem laws_eqHop.calls (a0_0 : Int) (a0_1 : Int) (a1_0 : Int) (a1_1 : Int) (r : Bool) (w : World) (h : laws_eqHop.f a0_0 a0_1 a1_0 a1_1 = some r) :
  Calls Try.prog 132 #[.agg #[.int .i64 a0_0, .int .i64 a0_1], .agg #[.int .i64 a1_0, .int .i64 a1_1]] w fun e w' => e = .returned (.bool r) ∧ Below w.heap.size w w' := by
 have hu162 := Try.underlying162
 have HB := Aside0.mk (Below.refl w.heap.size w)
 have H : (if a0_0 = a1_0 then (if a0_1 = a1_1 then (some true) else (some false)) else (some false)) = some r := h
 clear h
 by_cases c3 : a0_0 = a1_0
 rotate_left
 ·rw [if_neg c3] at H
  have c3b0 : (a0_0 == a1_0) = false := beq_eq_false_iff_ne.mpr c3
  have c3b1 : (a0_0 != a1_0) = true := bne_iff_ne.mpr c3
  obtain rfl := Option.some.inj H
  go_enter Try.func132, Try.ntmps132
  go_wp2_with (first | ((with_reducible refine gate_dst (N := 2) rfl ?_); refine box_event ?hg (N := 2) ?hd (cs := #[.int .i64 a0_0, .int .i64 a0_1]) (t := 162) ?hr ?_; (case hd => rfl); (case hg => rfl); (case hr => first | (go_simp; done) | (go_simp; rfl)); intro gb1850 hg w15 hbox hb; have BK1850 := Aside0.mk (hbox); have GW1850 := gw_ hg HB; have GE1850 := gw_ hg HB; replace HB := bst_ HB hb; clear hb hbox hg) | ((with_reducible refine gate_dst (N := 3) rfl ?_); refine box_event ?hg (N := 3) ?hd (cs := #[.int .i64 a1_0, .int .i64 a1_1]) (t := 162) ?hr ?_; (case hd => rfl); (case hg => rfl); (case hr => first | (go_simp; done) | (go_simp; rfl)); intro gb1851 hg w16 hbox hb; have BK1851 := Aside0.mk (hbox); have GW1851 := gw_ hg HB; have GE1851 := gw_ hg HB; have NB1850_1851 := nl_ hg BK1850; have NB1851_1850 := ng_ hg BK1850; replace BK1850 := bb_ BK1850 hb; replace HB := bst_ HB hb; clear hb hbox hg; have hnb17 := NB1850_1851.out; have hnc17 := NB1851_1850.out; have hcz18_0 : w16.cell? ⟨gb1850, 0, none⟩ = some (.int .i64 a0_0) := bc_ BK1850 0; have hcz18_1 : w16.cell? ⟨gb1850, 1, none⟩ = some (.int .i64 a0_1) := bc_ BK1850 1; have hfz18_0 := blk_frozen BK1850.out 0; have hfz18_1 := blk_frozen BK1850.out 1; have hcz19_0 : w16.cell? ⟨gb1851, 0, none⟩ = some (.int .i64 a1_0) := bc_ BK1851 0; have hcz19_1 : w16.cell? ⟨gb1851, 1, none⟩ = some (.int .i64 a1_1) := bc_ BK1851 1; have hfz19_0 := blk_frozen BK1851.out 0; have hfz19_1 := blk_frozen BK1851.out 1))
  go_ret
  exact ⟨by first | rfl | (simp [errW_none, errW_some] <;> rfl) | (simp [*, errW_none, errW_some] <;> rfl), by repeat (first | (with_reducible first | exact HB.out | apply below_alloc | apply pw_below_drewN | apply below_drew1 | refine below_set ?_ GE1850.out | refine below_set ?_ GE1851.out) | exact HB.out)⟩
 rw [if_pos c3] at H
 have c3b0 : (a0_0 == a1_0) = true := beq_iff_eq.mpr c3
 have c3b1 : (a0_0 != a1_0) = false := bne_eq_false_iff_eq.mpr c3
 clear c3
 by_cases c4 : a0_1 = a1_1
 ·rw [if_pos c4] at H
  have c4b0 : (a0_1 == a1_1) = true := beq_iff_eq.mpr c4
  have c4b1 : (a0_1 != a1_1) = false := bne_eq_false_iff_eq.mpr c4
  clear c4
  obtain rfl := Option.some.inj H
  go_enter Try.func132, Try.ntmps132
  go_wp2_with (first | ((with_reducible refine gate_dst (N := 2) rfl ?_); refine box_event ?hg (N := 2) ?hd (cs := #[.int .i64 a0_0, .int .i64 a0_1]) (t := 162) ?hr ?_; (case hd => rfl); (case hg => rfl); (case hr => first | (go_simp; done) | (go_simp; rfl)); intro gb1850 hg w5 hbox hb; have BK1850 := Aside0.mk (hbox); have GW1850 := gw_ hg HB; have GE1850 := gw_ hg HB; replace HB := bst_ HB hb; clear hb hbox hg) | ((with_reducible refine gate_dst (N := 3) rfl ?_); refine box_event ?hg (N := 3) ?hd (cs := #[.int .i64 a1_0, .int .i64 a1_1]) (t := 162) ?hr ?_; (case hd => rfl); (case hg => rfl); (case hr => first | (go_simp; done) | (go_simp; rfl)); intro gb1851 hg w6 hbox hb; have BK1851 := Aside0.mk (hbox); have GW1851 := gw_ hg HB; have GE1851 := gw_ hg HB; have NB1850_1851 := nl_ hg BK1850; have NB1851_1850 := ng_ hg BK1850; replace BK1850 := bb_ BK1850 hb; replace HB := bst_ HB hb; clear hb hbox hg; have hnb7 := NB1850_1851.out; have hnc7 := NB1851_1850.out; have hcz8_0 : w6.cell? ⟨gb1850, 0, none⟩ = some (.int .i64 a0_0) := bc_ BK1850 0; have hcz8_1 : w6.cell? ⟨gb1850, 1, none⟩ = some (.int .i64 a0_1) := bc_ BK1850 1; have hfz8_0 := blk_frozen BK1850.out 0; have hfz8_1 := blk_frozen BK1850.out 1; have hcz9_0 : w6.cell? ⟨gb1851, 0, none⟩ = some (.int .i64 a1_0) := bc_ BK1851 0; have hcz9_1 : w6.cell? ⟨gb1851, 1, none⟩ = some (.int .i64 a1_1) := bc_ BK1851 1; have hfz9_0 := blk_frozen BK1851.out 0; have hfz9_1 := blk_frozen BK1851.out 1))
  go_ret
  exact ⟨by first | rfl | (simp [errW_none, errW_some] <;> rfl) | (simp [*, errW_none, errW_some] <;> rfl), by repeat (first | (with_reducible first | exact HB.out | apply below_alloc | apply pw_below_drewN | apply below_drew1 | refine below_set ?_ GE1850.out | refine below_set ?_ GE1851.out) | exact HB.out)⟩
 rw [if_neg c4] at H
 have c4b0 : (a0_1 == a1_1) = false := beq_eq_false_iff_ne.mpr c4
 have c4b1 : (a0_1 != a1_1) = true := bne_iff_ne.mpr c4
 obtain rfl := Option.some.inj H
 go_enter Try.func132, Try.ntmps132
 go_wp2_with (first | ((with_reducible refine gate_dst (N := 2) rfl ?_); refine box_event ?hg (N := 2) ?hd (cs := #[.int .i64 a0_0, .int .i64 a0_1]) (t := 162) ?hr ?_; (case hd => rfl); (case hg => rfl); (case hr => first | (go_simp; done) | (go_simp; rfl)); intro gb1850 hg w10 hbox hb; have BK1850 := Aside0.mk (hbox); have GW1850 := gw_ hg HB; have GE1850 := gw_ hg HB; replace HB := bst_ HB hb; clear hb hbox hg) | ((with_reducible refine gate_dst (N := 3) rfl ?_); refine box_event ?hg (N := 3) ?hd (cs := #[.int .i64 a1_0, .int .i64 a1_1]) (t := 162) ?hr ?_; (case hd => rfl); (case hg => rfl); (case hr => first | (go_simp; done) | (go_simp; rfl)); intro gb1851 hg w11 hbox hb; have BK1851 := Aside0.mk (hbox); have GW1851 := gw_ hg HB; have GE1851 := gw_ hg HB; have NB1850_1851 := nl_ hg BK1850; have NB1851_1850 := ng_ hg BK1850; replace BK1850 := bb_ BK1850 hb; replace HB := bst_ HB hb; clear hb hbox hg; have hnb12 := NB1850_1851.out; have hnc12 := NB1851_1850.out; have hcz13_0 : w11.cell? ⟨gb1850, 0, none⟩ = some (.int .i64 a0_0) := bc_ BK1850 0; have hcz13_1 : w11.cell? ⟨gb1850, 1, none⟩ = some (.int .i64 a0_1) := bc_ BK1850 1; have hfz13_0 := blk_frozen BK1850.out 0; have hfz13_1 := blk_frozen BK1850.out 1; have hcz14_0 : w11.cell? ⟨gb1851, 0, none⟩ = some (.int .i64 a1_0) := bc_ BK1851 0; have hcz14_1 : w11.cell? ⟨gb1851, 1, none⟩ = some (.int .i64 a1_1) := bc_ BK1851 1; have hfz14_0 := blk_frozen BK1851.out 0; have hfz14_1 := blk_frozen BK1851.out 1))
 go_ret
 exact ⟨by first | rfl | (simp [errW_none, errW_some] <;> rfl) | (simp [*, errW_none, errW_some] <;> rfl), by repeat (first | (with_reducible first | exact HB.out | apply below_alloc | apply pw_below_drewN | apply below_drew1 | refine below_set ?_ GE1850.out | refine below_set ?_ GE1851.out) | exact HB.out)⟩

end Go.Proofs.Ytolncjkfcmbieaa.P
