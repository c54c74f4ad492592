import Derived.Test.YtnoklicihomfoaaF0
import Derived.Test.YtnoklicihomfoaaF1
import Derived.Test.YtnoklicihomfoaaF5
import Derived.Test.YtnoklicihomfoaaF39
namespace Go.Proofs.Ytnoklicihomfoaa.P
open Go.RowKit Go.Proofs.YtnoklicihomfoaaW.PrintWords Go.Proofs.YtnoklicihomfoaaW.PrintLast Go.Proofs.YtnoklicihomfoaaW.PrintMore
attribute [local go_sem] max2_int min2_int max_two min_two max_three min_three max_four min_four   -- for this text's walks alone
set_option linter.unusedVariables false
set_option linter.unusedSimpArgs false

def spec_GoodCampus.l0 : Nat → List (S118) → Int → Int → Int → List (S84) → List Int → List (S118) → Option (Bool)
 | 0, _, _, _, _, _, _, _ => none
 | k + 1, x6, x7, x8, x866000, x866001, x866002, x866003 => if x8 < x7 then (if 0 ≤ x8 then (if x8 < (x6.length : Int) then ((spec_l17Place.f k x866000 x866001 x866002 x866003 ((rd_T118 x6 x8).f0) ((rd_T118 x6 x8).f1) ((rd_T118 x6 x8).f2)).bind fun t868 => (if t868 = true then (if x8 > 0 then (if 0 ≤ (wrap64 (x8 - 1)) then (if (wrap64 (x8 - 1)) < (x866003.length : Int) then (if ((rd_T118 x866003 (wrap64 (x8 - 1))).f0) ≥ ((rd_T118 x6 x8).f0) then (some false) else (spec_GoodCampus.l0 k x6 x7 (wrap64 (x8 + 1)) x866000 x866001 x866002 x866003)) else (none)) else (none)) else (spec_GoodCampus.l0 k x6 x7 (wrap64 (x8 + 1)) x866000 x866001 x866002 x866003)) else (some false))) else (none)) else (none)) else ((spec_GoodEdges.f k x866000 x866001).bind fun t870 => (if t870 = true then ((spec_l1Rising.f k x866002 0 (wrap64 ((x866001.length : Int) - 1))).bind fun t871 => (if t871 = true then (some (decide ((x866003.length : Int) ≤ 12))) else (some false))) else (some false)))
def spec_GoodCampus.f (k : Nat) (a0_0 : Int) (l0_1 : List (S84)) (l0_2 : List Int) (l0_3 : List (S118)) : Option (Bool) := spec_GoodCampus.l0 k l0_3 (l0_3.length : Int) 0 a0_0 l0_1 l0_2 l0_3
theorem spec_GoodCampus.mono_l : ∀ k, (∀ y0 y1 y2 y3 y4 y5 y6, LeO (spec_GoodCampus.l0 k y0 y1 y2 y3 y4 y5 y6) (spec_GoodCampus.l0 (k + 1) y0 y1 y2 y3 y4 y5 y6))
 | 0 => fun _ _ _ _ _ _ _ r h => by simp [spec_GoodCampus.l0] at h
 | k + 1 => by
  have ih0 := spec_GoodCampus.mono_l k
  ·intro y0 y1 y2 y3 y4 y5 y6
   unfold spec_GoodCampus.l0
   repeat' first
   | (with_reducible exact ih0 _ _ _ _ _ _ _)
   | (with_reducible exact spec_GoodEdges.mono _ _ _)
   | (with_reducible exact spec_l17Place.mono _ _ _ _ _ _ _ _)
   | (with_reducible exact spec_l1Rising.mono _ _ _ _)
   | (with_reducible exact LeO.refl _)
   | (with_reducible exact LeO.none _)
   | (with_reducible refine LeO.ite ?_ ?_)
   | (with_reducible refine LeO.bind ?_ (fun _ => ?_))
   | exact ih0 _ _ _ _ _ _ _
   | exact spec_GoodEdges.mono _ _ _
   | exact spec_l17Place.mono _ _ _ _ _ _ _ _
   | exact spec_l1Rising.mono _ _ _ _
   | exact LeO.none _
   | refine LeO.ite ?_ ?_
   | refine LeO.bind ?_ (fun _ => ?_)
theorem spec_GoodCampus.mono : ∀ a0 a1 a2 a3 k, LeO (spec_GoodCampus.f k a0 a1 a2 a3) (spec_GoodCampus.f (k + 1) a0 a1 a2 a3) := by
 intro a0 a1 a2 a3 k
 have ih0 := spec_GoodCampus.mono_l k
 unfold spec_GoodCampus.f
 repeat' first
   | (with_reducible exact ih0 _ _ _ _ _ _ _)
   | (with_reducible exact spec_GoodEdges.mono _ _ _)
   | (with_reducible exact spec_l17Place.mono _ _ _ _ _ _ _ _)
   | (with_reducible exact spec_l1Rising.mono _ _ _ _)
   | (with_reducible exact LeO.refl _)
   | (with_reducible exact LeO.none _)
   | (with_reducible refine LeO.ite ?_ ?_)
   | (with_reducible refine LeO.bind ?_ (fun _ => ?_))
   | exact ih0 _ _ _ _ _ _ _
   | exact spec_GoodEdges.mono _ _ _
   | exact spec_l17Place.mono _ _ _ _ _ _ _ _
   | exact spec_l1Rising.mono _ _ _ _
   | exact LeO.none _
   | refine LeO.ite ?_ ?_
   | refine LeO.bind ?_ (fun _ => ?_)
def spec_GoodCampus.T4 : Bool × List (List Nat × List Nat) := (true, [([], []), ([], []), ([0, 1], [0, 1]), ([2], [2]), ([3, 2], [3]), ([4], [4]), ([5, 4], [4, 5]), ([6, 4, 4], [4, 6]), ([7], [7]), ([8, 7], [7, 8]), ([7], [7]), ([10, 7], [7, 10]), ([9, 11, 7], [7, 9, 11]), ([12, 7], [7, 12]), ([13, 7], [7, 13]), ([7], [7]), ([15, 7], [7, 15]), ([14, 16, 7], [7, 14, 16]), ([7, 17, 4], [4, 7, 17]), ([4, 18], [4, 18])])
def spec_GoodCampus.B4 : List Nat := [0, 0, 3, 7, 15, 31, 63, 127, 255, 511, 255, 1279, 4095, 8191, 16383, 255, 33023, 131071, 262143, 524287]
theorem spec_GoodCampus.tab4 : rtab .any (opsOf Try.f51 4) = spec_GoodCampus.T4 := by kernel_rfl
theorem spec_GoodCampus.bits4 : waitsOk spec_GoodCampus.T4.2 spec_GoodCampus.B4 = true := by kernel_rfl
set_option maxHeartbeats 8000000 in
set_option maxRecDepth 100000 in
theorem spec_GoodCampus.calls (k : Nat) (a0_0 : Int) (A0_1 : Option Addr) (c0_1 : Nat) (l0_1 : List (S84)) (A0_2 : Option Addr) (c0_2 : Nat) (l0_2 : List Int) (A0_3 : Option Addr) (c0_3 : Nat) (l0_3 : List (S118)) (r : Bool) (w : World) (hr0_1 : Kd.C k84 w A0_1 l0_1.length l0_1) (hc0_1 : l0_1.length ≤ c0_1) (hr0_2 : Kd.C (Kd.int .i64) w A0_2 l0_2.length l0_2) (hc0_2 : l0_2.length ≤ c0_2) (hr0_3 : Kd.C k118 w A0_3 l0_3.length l0_3) (hc0_3 : l0_3.length ≤ c0_3) (h : spec_GoodCampus.f k a0_0 l0_1 l0_2 l0_3 = some r) :
  Calls Try.prog 51 #[.agg #[.int .i64 a0_0, .slice A0_1 l0_1.length c0_1, .slice A0_2 l0_2.length c0_2, .slice A0_3 l0_3.length c0_3]] w fun e w' => e = .returned (.bool r) ∧ Below w.heap.size w w' := by
 have hu61 := Try.underlying61
 have hu118 := Try.underlying118
 have HR0_1 := Aside0.mk hr0_1
 have HC0_1 := Aside0.mk hc0_1
 clear hr0_1 hc0_1
 have HR0_2 := Aside0.mk hr0_2
 have HC0_2 := Aside0.mk hc0_2
 clear hr0_2 hc0_2
 have HR0_3 := Aside0.mk hr0_3
 have HC0_3 := Aside0.mk hc0_3
 clear hr0_3 hc0_3
 have HB := Aside0.mk (Below.refl w.heap.size w)
 have H : (spec_GoodCampus.l0 k l0_3 (l0_3.length : Int) 0 a0_0 l0_1 l0_2 l0_3) = some r := h
 clear h
 have H' := Aside0.mk H
 clear H
 go_enter Try.func51, Try.ntmps51
 go_wp2_with (first | ((with_reducible refine gate_dst (N := 1) rfl ?_); (try (refine gate_guard (by rfl) ?_; dsimp only)); refine box_event ?hg (N := 1) ?hd (cs := #[.int .i64 a0_0, .slice A0_1 l0_1.length c0_1, .slice A0_2 l0_2.length c0_2, .slice A0_3 l0_3.length c0_3]) (t := 61) ?hr ?_; (case hd => rfl); (case hg => rfl); (case hr => first | (go_simp; done) | (go_simp; rfl)); intro gb865 hg w2 hbox hb; have n0_ := Aside0.mk (below_step (by repeat (first | (with_reducible first | exact HB.out | apply below_alloc | apply pw_below_drewN | apply below_drew1) | exact HB.out)) hb); have n1_ := Aside0.mk (hbox); have n2_ := Aside0.mk ((by rw [hg]; exact (below_size (by repeat (first | (with_reducible first | exact HB.out | apply below_alloc | apply pw_below_drewN | apply below_drew1) | exact HB.out))) : w.heap.size ≤ gb865)); have n3_ := Aside0.mk ((by rw [hg]; exact (below_size (by repeat (first | (with_reducible first | exact HB.out | apply below_alloc | apply pw_below_drewN | apply below_drew1) | exact HB.out))) : w.heap.size ≤ gb865)); clear HB; have HB := n0_; have BK865 := n1_; have GW865 := n2_; have GE865 := n3_; clear n0_ n1_ n2_ n3_; clear hb hbox hg; have hcz3_0 : w2.cell? ⟨gb865, 0, none⟩ = some (.int .i64 a0_0) := (blk_cell BK865.out 0).trans rfl; have hcz3_1 : w2.cell? ⟨gb865, 1, none⟩ = some (.slice A0_1 l0_1.length c0_1) := (blk_cell BK865.out 1).trans rfl; have hcz3_2 : w2.cell? ⟨gb865, 2, none⟩ = some (.slice A0_2 l0_2.length c0_2) := (blk_cell BK865.out 2).trans rfl; have hcz3_3 : w2.cell? ⟨gb865, 3, none⟩ = some (.slice A0_3 l0_3.length c0_3) := (blk_cell BK865.out 3).trans rfl; have hfz3_0 := blk_frozen BK865.out 0; have hfz3_1 := blk_frozen BK865.out 1; have hfz3_2 := blk_frozen BK865.out 2; have hfz3_3 := blk_frozen BK865.out 3))
 go_loopg [8] k (fun kq v8 w' => ∃ (x8_1 : Int), v8 = .int .i64 x8_1 ∧ Aside0 (spec_GoodCampus.l0 kq l0_3 (l0_3.length : Int) x8_1 a0_0 l0_1 l0_2 l0_3 = some r) ∧ Aside0 (kq ≤ k) ∧ Aside0 (w'.heap[gb865]? = some (.cells #[.int .i64 a0_0, (.slice A0_1 l0_1.length c0_1), (.slice A0_2 l0_2.length c0_2), (.slice A0_3 l0_3.length c0_3)] 61 (0, 0))) ∧ Aside0 (Below w.heap.size w w'))
 case atStart => exact ⟨(0), (by first | rfl | (simp; done) | (simp [*]; done)), H', ⟨Nat.le_refl _⟩, ⟨by (with_reducible repeat (first | refine blk_drewN ?_ _ | refine blk_drew ?_ | refine blk_alloc ?_ _)); exact BK865.out⟩, ⟨by repeat (first | (with_reducible first | exact HB.out | apply below_alloc | apply pw_below_drewN | apply below_drew1 | refine below_set ?_ GE865.out) | exact HB.out)⟩⟩
 case round =>
  clear H'
  try clear p2
  try clear hcz3_0
  try clear hcz3_1
  try clear hcz3_2
  try clear hcz3_3
  try clear hfz3_0
  try clear hfz3_1
  try clear hfz3_2
  try clear hfz3_3
  obtain ⟨x8_1, rfl, HA, HK1, BK865, HB⟩ := hrel
  cases gk with
  | zero => exact absurd HA.out (by simp [spec_GoodCampus.l0])
  | succ k1 =>
   have H := HA.out
   clear HA
   simp only [spec_GoodCampus.l0] at H
   by_cases c4 : x8_1 < (l0_3.length : Int)
   ·rw [if_pos c4] at H
    have c4b0 : decide (x8_1 < (l0_3.length : Int)) = true := decide_eq_true c4
    clear c4
    by_cases c5 : 0 ≤ x8_1
    ·rw [if_pos c5] at H
     have c5b0 : decide (0 ≤ x8_1) = true := decide_eq_true c5
     clear c5
     by_cases c6 : x8_1 < (l0_3.length : Int)
     ·rw [if_pos c6] at H
      have c6b0 : decide (x8_1 < (l0_3.length : Int)) = true := decide_eq_true c6
      clear c6
      replace H := Option.bind_eq_some_iff.mp H
      obtain ⟨t868, A70, H⟩ := H
      replace H : (if t868 = true then (if x8_1 > 0 then (if 0 ≤ (wrap64 (x8_1 - 1)) then (if (wrap64 (x8_1 - 1)) < (l0_3.length : Int) then (if ((rd_T118 l0_3 (wrap64 (x8_1 - 1))).f0) ≥ ((rd_T118 l0_3 x8_1).f0) then (some false) else (spec_GoodCampus.l0 k1 l0_3 (l0_3.length : Int) (wrap64 (x8_1 + 1)) a0_0 l0_1 l0_2 l0_3)) else (none)) else (none)) else (spec_GoodCampus.l0 k1 l0_3 (l0_3.length : Int) (wrap64 (x8_1 + 1)) a0_0 l0_1 l0_2 l0_3)) else (some false)) = some r := H
      have A7 := Aside0.mk A70
      clear A70
      by_cases c8 : t868 = true
      ·subst c8
       have H1 : (if x8_1 > 0 then (if 0 ≤ (wrap64 (x8_1 - 1)) then (if (wrap64 (x8_1 - 1)) < (l0_3.length : Int) then (if ((rd_T118 l0_3 (wrap64 (x8_1 - 1))).f0) ≥ ((rd_T118 l0_3 x8_1).f0) then (some false) else (spec_GoodCampus.l0 k1 l0_3 (l0_3.length : Int) (wrap64 (x8_1 + 1)) a0_0 l0_1 l0_2 l0_3)) else (none)) else (none)) else (spec_GoodCampus.l0 k1 l0_3 (l0_3.length : Int) (wrap64 (x8_1 + 1)) a0_0 l0_1 l0_2 l0_3)) = some r := by rw [if_pos rfl] at H; exact H
       clear H
       have H := H1
       clear H1
       by_cases c9 : x8_1 > 0
       ·rw [if_pos c9] at H
        have c9b0 : decide (0 < x8_1) = true := decide_eq_true c9
        clear c9
        obtain ⟨ji10, hji10⟩ : ∃ j_ : Int, (wrap64 (x8_1 - 1)) = j_ := ⟨_, rfl⟩
        replace H : (if 0 ≤ (ji10) then (if (ji10) < (l0_3.length : Int) then (if ((rd_T118 l0_3 (ji10)).f0) ≥ ((rd_T118 l0_3 x8_1).f0) then (some false) else (spec_GoodCampus.l0 k1 l0_3 (l0_3.length : Int) (wrap64 (x8_1 + 1)) a0_0 l0_1 l0_2 l0_3)) else (none)) else (none)) = some r := by first | (rw [hji10] at H; exact H) | (simp only [hji10] at H ⊢; exact H)
        (try rw [hji10] at A7)
        have hji10w : (IntKind.i64.wrap (x8_1 - 1)) = ji10 := (i64_w _).trans hji10
        by_cases c11 : 0 ≤ (ji10)
        ·rw [if_pos c11] at H
         have c11b0 : decide (0 ≤ (ji10)) = true := decide_eq_true c11
         clear c11
         by_cases c12 : (ji10) < (l0_3.length : Int)
         ·rw [if_pos c12] at H
          have c12b0 : decide ((ji10) < (l0_3.length : Int)) = true := decide_eq_true c12
          clear c12
          by_cases c13 : ((rd_T118 l0_3 (ji10)).f0) ≥ ((rd_T118 l0_3 x8_1).f0)
          ·rw [if_pos c13] at H
           have c13b0 : decide (((rd_T118 l0_3 x8_1).f0) ≤ ((rd_T118 l0_3 (ji10)).f0)) = true := decide_eq_true c13
           clear c13
           obtain rfl := Option.some.inj H
           have p866 : 0 ≤ (x8_1 : Int) := of_decide_eq_true (by first | (with_reducible assumption) | assumption)
           have q866 : x8_1 < (l0_3.length : Int) := of_decide_eq_true (by first | (with_reducible assumption) | assumption)
           obtain ⟨ad866, A866_2, c866_2, e866, hx866_0, hx866_1, hx866_2, hl866_2, hi866_2⟩ := at_T118 HR0_3.out x8_1 p866 q866
           cases e866
           replace hx866_0 := (HB.out.cell (World.block_lt_of_cell? w _ hx866_0)).trans hx866_0
           replace hx866_1 := (HB.out.cell (World.block_lt_of_cell? w _ hx866_1)).trans hx866_1
           replace hx866_2 := (HB.out.cell (World.block_lt_of_cell? w _ hx866_2)).trans hx866_2
           have HR866_2 := Aside0.mk hi866_2
           have HC866_2 := Aside0.mk hl866_2
           clear hi866_2 hl866_2
           replace p866 := eq_true p866
           replace q866 := eq_true q866
           try go_wp2_with (first | ((with_reducible refine gate_dst (N := 4) rfl ?_); (try (refine gate_guard (by rfl) ?_; dsimp only)); refine box_event ?hg (N := 4) ?hd (cs := #[.int .i64 0, .int .i64 0, .slice none 0 0]) (t := 118) ?hr ?_; (case hd => rfl); (case hg => rfl); (case hr => first | (go_simp; done) | (go_simp; rfl)); intro gb867 hg w14 hbox hb; have n0_ := Aside0.mk (blk_below (g := gb865) (o := .cells #[.int .i64 a0_0, .slice A0_1 l0_1.length c0_1, .slice A0_2 l0_2.length c0_2, .slice (some ad866) l0_3.length c0_3] 61 (0, 0)) (by (with_reducible repeat (first | refine blk_drewN ?_ _ | refine blk_drew ?_ | refine blk_alloc ?_ _)); exact BK865.out) hb); have n1_ := Aside0.mk (below_step (by repeat (first | (with_reducible first | exact HB.out | apply below_alloc | apply pw_below_drewN | apply below_drew1 | refine below_set ?_ GE865.out) | exact HB.out)) hb); have n2_ := Aside0.mk (hbox); have n3_ := Aside0.mk ((by rw [hg]; exact (below_size (by repeat (first | (with_reducible first | exact HB.out | apply below_alloc | apply pw_below_drewN | apply below_drew1 | refine below_set ?_ GE865.out) | exact HB.out))) : w.heap.size ≤ gb867)); have n4_ := Aside0.mk ((by rw [hg]; exact (below_size (by repeat (first | (with_reducible first | exact HB.out | apply below_alloc | apply pw_below_drewN | apply below_drew1 | refine below_set ?_ GE865.out) | exact HB.out))) : w.heap.size ≤ gb867)); have n5_ := Aside0.mk ((by rw [hg]; exact Nat.ne_of_lt (blk_lt (g := gb865) (o := .cells #[.int .i64 a0_0, .slice A0_1 l0_1.length c0_1, .slice A0_2 l0_2.length c0_2, .slice (some ad866) l0_3.length c0_3] 61 (0, 0)) (by (with_reducible repeat (first | refine blk_drewN ?_ _ | refine blk_drew ?_ | refine blk_alloc ?_ _)); exact BK865.out)) : gb865 ≠ gb867)); have n6_ := Aside0.mk ((by rw [hg]; exact Nat.ne_of_gt (blk_lt (g := gb865) (o := .cells #[.int .i64 a0_0, .slice A0_1 l0_1.length c0_1, .slice A0_2 l0_2.length c0_2, .slice (some ad866) l0_3.length c0_3] 61 (0, 0)) (by (with_reducible repeat (first | refine blk_drewN ?_ _ | refine blk_drew ?_ | refine blk_alloc ?_ _)); exact BK865.out)) : gb867 ≠ gb865)); clear BK865; clear HB; have BK865 := n0_; have HB := n1_; have BK867 := n2_; have GW867 := n3_; have GE867 := n4_; have NB865_867 := n5_; have NB867_865 := n6_; clear n0_ n1_ n2_ n3_ n4_ n5_ n6_; clear hb hbox hg; have hnb15 := NB867_865.out; have hnc15 := NB865_867.out; have hcz16_0 : w14.cell? ⟨gb867, 0, none⟩ = some (.int .i64 0) := (blk_cell BK867.out 0).trans rfl; have hcz16_1 : w14.cell? ⟨gb867, 1, none⟩ = some (.int .i64 0) := (blk_cell BK867.out 1).trans rfl; have hcz16_2 : w14.cell? ⟨gb867, 2, none⟩ = some (.slice none 0 0) := (blk_cell BK867.out 2).trans rfl; have hfz16_0 := blk_frozen BK867.out 0; have hfz16_1 := blk_frozen BK867.out 1; have hfz16_2 := blk_frozen BK867.out 2))
           have n0_ : Aside0 ((((w14.setCell ⟨gb867, 0, none⟩ (.int .i64 ((rd_T118 l0_3 x8_1).f0))).setCell ⟨gb867, 1, none⟩ (.int .i64 ((rd_T118 l0_3 x8_1).f1))).setCell ⟨gb867, 2, none⟩ (.slice A866_2 ((rd_T118 l0_3 x8_1).f2).length c866_2)).heap[gb865]? = some (.cells #[.int .i64 a0_0, .slice A0_1 l0_1.length c0_1, .slice A0_2 l0_2.length c0_2, .slice (some ad866) l0_3.length c0_3] 61 (0, 0))) := ⟨by (with_reducible repeat (first | refine blk_drewN ?_ _ | refine blk_drew ?_ | refine blk_alloc ?_ _)); refine blk_far ?_ NB865_867.out _; (with_reducible repeat (first | refine blk_drewN ?_ _ | refine blk_drew ?_ | refine blk_alloc ?_ _)); refine blk_far ?_ NB865_867.out _; (with_reducible repeat (first | refine blk_drewN ?_ _ | refine blk_drew ?_ | refine blk_alloc ?_ _)); refine blk_far ?_ NB865_867.out _; (with_reducible repeat (first | refine blk_drewN ?_ _ | refine blk_drew ?_ | refine blk_alloc ?_ _)); exact BK865.out⟩
           have n1_ : Aside0 ((((w14.setCell ⟨gb867, 0, none⟩ (.int .i64 ((rd_T118 l0_3 x8_1).f0))).setCell ⟨gb867, 1, none⟩ (.int .i64 ((rd_T118 l0_3 x8_1).f1))).setCell ⟨gb867, 2, none⟩ (.slice A866_2 ((rd_T118 l0_3 x8_1).f2).length c866_2)).heap[gb867]? = some (.cells #[.int .i64 ((rd_T118 l0_3 x8_1).f0), .int .i64 ((rd_T118 l0_3 x8_1).f1), .slice A866_2 ((rd_T118 l0_3 x8_1).f2).length c866_2] 118 (0, 0))) := ⟨by (with_reducible repeat (first | refine blk_drewN ?_ _ | refine blk_drew ?_ | refine blk_alloc ?_ _)); refine blk_put (cs := #[.int .i64 ((rd_T118 l0_3 x8_1).f0), .int .i64 ((rd_T118 l0_3 x8_1).f1), .slice none 0 0]) ?_ 2 _ rfl; (with_reducible repeat (first | refine blk_drewN ?_ _ | refine blk_drew ?_ | refine blk_alloc ?_ _)); refine blk_put (cs := #[.int .i64 ((rd_T118 l0_3 x8_1).f0), .int .i64 0, .slice none 0 0]) ?_ 1 _ rfl; (with_reducible repeat (first | refine blk_drewN ?_ _ | refine blk_drew ?_ | refine blk_alloc ?_ _)); refine blk_put (cs := #[.int .i64 0, .int .i64 0, .slice none 0 0]) ?_ 0 _ rfl; (with_reducible repeat (first | refine blk_drewN ?_ _ | refine blk_drew ?_ | refine blk_alloc ?_ _)); exact BK867.out⟩
           have n2_ : Aside0 (Below w.heap.size w (((w14.setCell ⟨gb867, 0, none⟩ (.int .i64 ((rd_T118 l0_3 x8_1).f0))).setCell ⟨gb867, 1, none⟩ (.int .i64 ((rd_T118 l0_3 x8_1).f1))).setCell ⟨gb867, 2, none⟩ (.slice A866_2 ((rd_T118 l0_3 x8_1).f2).length c866_2))) := ⟨by repeat (first | (with_reducible first | exact HB.out | apply below_alloc | apply pw_below_drewN | apply below_drew1 | refine below_set ?_ GE865.out | refine below_set ?_ GE867.out) | exact HB.out)⟩
           (try clear BK865)
           (try clear BK867)
           (try clear HB)
           generalize (((w14.setCell ⟨gb867, 0, none⟩ (.int .i64 ((rd_T118 l0_3 x8_1).f0))).setCell ⟨gb867, 1, none⟩ (.int .i64 ((rd_T118 l0_3 x8_1).f1))).setCell ⟨gb867, 2, none⟩ (.slice A866_2 ((rd_T118 l0_3 x8_1).f2).length c866_2)) = w17 at n0_ n1_ n2_ ⊢
           have BK865 := n0_
           have BK867 := n1_
           have HB := n2_
           clear n0_ n1_ n2_
           have n0_ := Aside0.mk (blk_drew BK865.out)
           have n1_ := Aside0.mk (blk_drew BK867.out)
           have n2_ := Aside0.mk (below_drew1 HB.out)
           clear BK865
           clear BK867
           clear HB
           have BK865 := n0_
           have BK867 := n1_
           have HB := n2_
           clear n0_ n1_ n2_
           have p869 : 0 ≤ ((ji10) : Int) := of_decide_eq_true (by first | (with_reducible assumption) | assumption)
           have q869 : (ji10) < (l0_3.length : Int) := of_decide_eq_true (by first | (with_reducible assumption) | assumption)
           obtain ⟨ad869, A869_2, c869_2, e869, hx869_0, hx869_1, hx869_2, hl869_2, hi869_2⟩ := at_T118 HR0_3.out (ji10) p869 q869
           have hw869_2 := hx869_2
           have hw869_1 := hx869_1
           have hw869_0 := hx869_0
           obtain rfl : ad866 = ad869 := (by injection e869)
           replace hx869_0 := (HB.out.cell (World.block_lt_of_cell? w _ hx869_0)).trans hx869_0
           replace hx869_1 := (HB.out.cell (World.block_lt_of_cell? w _ hx869_1)).trans hx869_1
           replace hx869_2 := (HB.out.cell (World.block_lt_of_cell? w _ hx869_2)).trans hx869_2
           have HR869_2 := Aside0.mk hi869_2
           have HC869_2 := Aside0.mk hl869_2
           clear hi869_2 hl869_2
           replace p869 := eq_true p869
           replace q869 := eq_true q869
           refine start_ (n := 20) (S := fun w' => w'.cell? ⟨gb865, 0, none⟩ = some (.int .i64 a0_0) ∧ w'.cell? ⟨gb865, 1, none⟩ = some (.slice A0_1 l0_1.length c0_1) ∧ w'.cell? ⟨gb865, 2, none⟩ = some (.slice A0_2 l0_2.length c0_2) ∧ w'.cell? ⟨gb865, 3, none⟩ = some (.slice (some ad866) l0_3.length c0_3) ∧ w'.cell? ⟨gb867, 0, none⟩ = some (.int .i64 ((rd_T118 l0_3 x8_1).f0)) ∧ w'.cell? ⟨gb867, 1, none⟩ = some (.int .i64 ((rd_T118 l0_3 x8_1).f1)) ∧ w'.cell? ⟨gb867, 2, none⟩ = some (.slice A866_2 ((rd_T118 l0_3 x8_1).f2).length c866_2) ∧ w'.cell? (ad866.add (((ji10)).toNat * 3)) = some (.int .i64 ((rd_T118 l0_3 (ji10)).f0)) ∧ w'.cell? ⟨(ad866.add (((ji10)).toNat * 3)).block, (ad866.add (((ji10)).toNat * 3)).off + 1, none⟩ = some (.int .i64 ((rd_T118 l0_3 (ji10)).f1)) ∧ w'.cell? ⟨(ad866.add (((ji10)).toNat * 3)).block, (ad866.add (((ji10)).toNat * 3)).off + 2, none⟩ = some (.slice A869_2 ((rd_T118 l0_3 (ji10)).f2).length c869_2)) (ds := []) (bs 20 0) (by kernel_rfl) rfl rfl ⟨(blk_cell BK865.out 0).trans rfl, (blk_cell BK865.out 1).trans rfl, (blk_cell BK865.out 2).trans rfl, (blk_cell BK865.out 3).trans rfl, (blk_cell BK867.out 0).trans rfl, (blk_cell BK867.out 1).trans rfl, (blk_cell BK867.out 2).trans rfl, ((HB.out.cell (World.block_lt_of_cell? w _ hw869_0)).trans hw869_0), ((HB.out.cell (World.block_lt_of_cell? w _ hw869_1)).trans hw869_1), ((HB.out.cell (World.block_lt_of_cell? w _ hw869_2)).trans hw869_2)⟩ (fun hHeld => ?_); refine with_tabW spec_GoodCampus.tab4 spec_GoodCampus.bits4 (fun HT_ HW_ => ?_)
           generalize w17.drew = w18 at BK865 BK867 HB HR869_2 hx869_0 hx869_1 hx869_2 hHeld ⊢
           refine tk_ 0 13 (bs 20 1) HT_ HW_ hHeld ?_
           refine tk_ 1 14 (bs 20 3) HT_ HW_ hHeld ?_
           refine one_ (i := 2) (N := some 15) (bs 20 7) rfl rfl (one_of HT_.out (by kernel_rfl)) (by decide) (fun K hK => ?_)
           refine goes_ Try.func98 (by kernel_rfl) rfl #[.agg #[.int .i64 a0_0, .slice A0_1 l0_1.length c0_1, .slice A0_2 l0_2.length c0_2, .slice (some ad866) l0_3.length c0_3], .agg #[.int .i64 ((rd_T118 l0_3 x8_1).f0), .int .i64 ((rd_T118 l0_3 x8_1).f1), .slice A866_2 ((rd_T118 l0_3 x8_1).f2).length c866_2]] (by rfl) rfl rfl (by (try simp only [List.map_toArray, List.map_cons, List.map_nil]); first | done | rfl | (simp only [List.length_drop, List.length_take]; rfl)) ?_
           with_reducible refine (spec_l17Place.calls k1 a0_0 _ _ l0_1 _ _ l0_2 _ _ l0_3 ((rd_T118 l0_3 x8_1).f0) ((rd_T118 l0_3 x8_1).f1) _ _ ((rd_T118 l0_3 x8_1).f2) true _ ?side1 ?side2 ?side3 ?side4 ?side5 ?side6 ?side7 ?side8 A7.out).mono ?_
           (case side1 => repeat (first | exact (Kd.C_below HR0_1.out HB.out) | (with_reducible refine Kd.C_alloc ?_ _) | (with_reducible refine Kd.C_drewN ?_ _) | (with_reducible refine Kd.C_drew ?_)))
           (case side2 => exact HC0_1.out)
           (case side3 => repeat (first | exact (Kd.C_below HR0_2.out HB.out) | (with_reducible refine Kd.C_alloc ?_ _) | (with_reducible refine Kd.C_drewN ?_ _) | (with_reducible refine Kd.C_drew ?_)))
           (case side4 => exact HC0_2.out)
           (case side5 => repeat (first | exact (Kd.C_below HR0_3.out HB.out) | (with_reducible refine Kd.C_alloc ?_ _) | (with_reducible refine Kd.C_drewN ?_ _) | (with_reducible refine Kd.C_drew ?_)))
           (case side6 => exact HC0_3.out)
           (case side7 => repeat (first | exact (Kd.C_below HR866_2.out HB.out) | (with_reducible refine Kd.C_alloc ?_ _) | (with_reducible refine Kd.C_drewN ?_ _) | (with_reducible refine Kd.C_drew ?_)))
           (case side8 => exact HC866_2.out)
           rintro e w19 ⟨rfl, hb⟩
           refine ⟨_, rfl, ?_⟩
           have n0_ := Aside0.mk (blk_below (g := gb865) (o := .cells #[.int .i64 a0_0, .slice A0_1 l0_1.length c0_1, .slice A0_2 l0_2.length c0_2, .slice (some ad866) l0_3.length c0_3] 61 (0, 0)) (by (with_reducible repeat (first | refine blk_drewN ?_ _ | refine blk_drew ?_ | refine blk_alloc ?_ _)); exact BK865.out) hb)
           have n1_ := Aside0.mk (blk_below (g := gb867) (o := .cells #[.int .i64 ((rd_T118 l0_3 x8_1).f0), .int .i64 ((rd_T118 l0_3 x8_1).f1), .slice A866_2 ((rd_T118 l0_3 x8_1).f2).length c866_2] 118 (0, 0)) (by (with_reducible repeat (first | refine blk_drewN ?_ _ | refine blk_drew ?_ | refine blk_alloc ?_ _)); exact BK867.out) hb)
           have n2_ := Aside0.mk (below_step (by repeat (first | (with_reducible first | exact HB.out | apply below_alloc | apply pw_below_drewN | apply below_drew1 | refine below_set ?_ GE865.out | refine below_set ?_ GE867.out) | exact HB.out)) hb)
           clear BK865
           clear BK867
           clear HB
           have BK865 := n0_
           have BK867 := n1_
           have HB := n2_
           clear n0_ n1_ n2_
           (try clear hb)
           (try clear hb2)
           (try clear hk)
           (try clear hi)
           refine hK.out _ _ ⟨(blk_cell BK865.out 0).trans rfl, (blk_cell BK865.out 1).trans rfl, (blk_cell BK865.out 2).trans rfl, (blk_cell BK865.out 3).trans rfl, (blk_cell BK867.out 0).trans rfl, (blk_cell BK867.out 1).trans rfl, (blk_cell BK867.out 2).trans rfl, ((HB.out.cell (World.block_lt_of_cell? w _ hw869_0)).trans hw869_0), ((HB.out.cell (World.block_lt_of_cell? w _ hw869_1)).trans hw869_1), ((HB.out.cell (World.block_lt_of_cell? w _ hw869_2)).trans hw869_2)⟩ (fun hHeld => ?_)
           clear hK K
           refine norm_ (a' := ?_) ?_ ?_
           rotate_left
           ·show Act.put _ (some 15) _ = _
            simp only [Act.put, List.setIfInBounds_toArray, List.set_cons_zero, List.set_cons_succ, i64_w, i32_w]
            rfl
           refine pu_ 3 16 (bs 20 15) HT_ ?_
           refine pu_ 4 17 (bs 20 31) HT_ ?_
           refine pu_ 5 18 (bs 20 63) HT_ ?_
           refine pu_ 6 19 (bs 20 127) HT_ ?_
           refine pu_ 7 20 (bs 20 255) HT_ ?_
           refine pu_ 8 21 (bs 20 511) HT_ ?_
           refine pu_ 10 23 (bs 20 1535) HT_ ?_
           refine pu_ 11 24 (bs 20 3583) HT_ ?_
           refine pu_ 15 28 (bs 20 36351) HT_ ?_
           refine tk_ 9 22 (bs 20 36863) HT_ HW_ hHeld ?_
           refine pu_ 12 25 (bs 20 40959) HT_ ?_
           refine pu_ 13 26 (bs 20 49151) HT_ ?_
           refine tk_ 14 27 (bs 20 65535) HT_ HW_ hHeld ?_
           refine tk_ 16 29 (bs 20 131071) HT_ HW_ hHeld ?_
           refine pu_ 17 30 (bs 20 262143) HT_ ?_
           refine pu_ 18 31 (bs 20 524287) HT_ ?_
           refine pu_ 19 32 (bs 20 1048575) HT_ ?_
           refine done_ (done_of HT_.out (by kernel_rfl)) ?_
           try go_wp2
           go_ret
           exact ⟨by first | rfl | (simp [errW_none, errW_some] <;> rfl) | (simp only [← hji10]; first | rfl | (simp [errW_none, errW_some] <;> rfl)) | (simp [*, errW_none, errW_some] <;> rfl), by repeat (first | (with_reducible first | exact HB.out | apply below_alloc | apply pw_below_drewN | apply below_drew1 | refine below_set ?_ GE865.out | refine below_set ?_ GE867.out) | exact HB.out)⟩
          ·rw [if_neg c13] at H
           have c13b0 : decide (((rd_T118 l0_3 x8_1).f0) ≤ ((rd_T118 l0_3 (ji10)).f0)) = false := decide_eq_false c13
           clear c13
           have H' := Aside0.mk H
           clear H
           have p866 : 0 ≤ (x8_1 : Int) := of_decide_eq_true (by first | (with_reducible assumption) | assumption)
           have q866 : x8_1 < (l0_3.length : Int) := of_decide_eq_true (by first | (with_reducible assumption) | assumption)
           obtain ⟨ad866, A866_2, c866_2, e866, hx866_0, hx866_1, hx866_2, hl866_2, hi866_2⟩ := at_T118 HR0_3.out x8_1 p866 q866
           cases e866
           replace hx866_0 := (HB.out.cell (World.block_lt_of_cell? w _ hx866_0)).trans hx866_0
           replace hx866_1 := (HB.out.cell (World.block_lt_of_cell? w _ hx866_1)).trans hx866_1
           replace hx866_2 := (HB.out.cell (World.block_lt_of_cell? w _ hx866_2)).trans hx866_2
           have HR866_2 := Aside0.mk hi866_2
           have HC866_2 := Aside0.mk hl866_2
           clear hi866_2 hl866_2
           replace p866 := eq_true p866
           replace q866 := eq_true q866
           try go_wp2_with (first | ((with_reducible refine gate_dst (N := 4) rfl ?_); (try (refine gate_guard (by rfl) ?_; dsimp only)); refine box_event ?hg (N := 4) ?hd (cs := #[.int .i64 0, .int .i64 0, .slice none 0 0]) (t := 118) ?hr ?_; (case hd => rfl); (case hg => rfl); (case hr => first | (go_simp; done) | (go_simp; rfl)); intro gb867 hg w20 hbox hb; have n0_ := Aside0.mk (blk_below (g := gb865) (o := .cells #[.int .i64 a0_0, .slice A0_1 l0_1.length c0_1, .slice A0_2 l0_2.length c0_2, .slice (some ad866) l0_3.length c0_3] 61 (0, 0)) (by (with_reducible repeat (first | refine blk_drewN ?_ _ | refine blk_drew ?_ | refine blk_alloc ?_ _)); exact BK865.out) hb); have n1_ := Aside0.mk (below_step (by repeat (first | (with_reducible first | exact HB.out | apply below_alloc | apply pw_below_drewN | apply below_drew1 | refine below_set ?_ GE865.out) | exact HB.out)) hb); have n2_ := Aside0.mk (hbox); have n3_ := Aside0.mk ((by rw [hg]; exact (below_size (by repeat (first | (with_reducible first | exact HB.out | apply below_alloc | apply pw_below_drewN | apply below_drew1 | refine below_set ?_ GE865.out) | exact HB.out))) : w.heap.size ≤ gb867)); have n4_ := Aside0.mk ((by rw [hg]; exact (below_size (by repeat (first | (with_reducible first | exact HB.out | apply below_alloc | apply pw_below_drewN | apply below_drew1 | refine below_set ?_ GE865.out) | exact HB.out))) : w.heap.size ≤ gb867)); have n5_ := Aside0.mk ((by rw [hg]; exact Nat.ne_of_lt (blk_lt (g := gb865) (o := .cells #[.int .i64 a0_0, .slice A0_1 l0_1.length c0_1, .slice A0_2 l0_2.length c0_2, .slice (some ad866) l0_3.length c0_3] 61 (0, 0)) (by (with_reducible repeat (first | refine blk_drewN ?_ _ | refine blk_drew ?_ | refine blk_alloc ?_ _)); exact BK865.out)) : gb865 ≠ gb867)); have n6_ := Aside0.mk ((by rw [hg]; exact Nat.ne_of_gt (blk_lt (g := gb865) (o := .cells #[.int .i64 a0_0, .slice A0_1 l0_1.length c0_1, .slice A0_2 l0_2.length c0_2, .slice (some ad866) l0_3.length c0_3] 61 (0, 0)) (by (with_reducible repeat (first | refine blk_drewN ?_ _ | refine blk_drew ?_ | refine blk_alloc ?_ _)); exact BK865.out)) : gb867 ≠ gb865)); clear BK865; clear HB; have BK865 := n0_; have HB := n1_; have BK867 := n2_; have GW867 := n3_; have GE867 := n4_; have NB865_867 := n5_; have NB867_865 := n6_; clear n0_ n1_ n2_ n3_ n4_ n5_ n6_; clear hb hbox hg; have hnb21 := NB867_865.out; have hnc21 := NB865_867.out; have hcz22_0 : w20.cell? ⟨gb867, 0, none⟩ = some (.int .i64 0) := (blk_cell BK867.out 0).trans rfl; have hcz22_1 : w20.cell? ⟨gb867, 1, none⟩ = some (.int .i64 0) := (blk_cell BK867.out 1).trans rfl; have hcz22_2 : w20.cell? ⟨gb867, 2, none⟩ = some (.slice none 0 0) := (blk_cell BK867.out 2).trans rfl; have hfz22_0 := blk_frozen BK867.out 0; have hfz22_1 := blk_frozen BK867.out 1; have hfz22_2 := blk_frozen BK867.out 2))
           have n0_ : Aside0 ((((w20.setCell ⟨gb867, 0, none⟩ (.int .i64 ((rd_T118 l0_3 x8_1).f0))).setCell ⟨gb867, 1, none⟩ (.int .i64 ((rd_T118 l0_3 x8_1).f1))).setCell ⟨gb867, 2, none⟩ (.slice A866_2 ((rd_T118 l0_3 x8_1).f2).length c866_2)).heap[gb865]? = some (.cells #[.int .i64 a0_0, .slice A0_1 l0_1.length c0_1, .slice A0_2 l0_2.length c0_2, .slice (some ad866) l0_3.length c0_3] 61 (0, 0))) := ⟨by (with_reducible repeat (first | refine blk_drewN ?_ _ | refine blk_drew ?_ | refine blk_alloc ?_ _)); refine blk_far ?_ NB865_867.out _; (with_reducible repeat (first | refine blk_drewN ?_ _ | refine blk_drew ?_ | refine blk_alloc ?_ _)); refine blk_far ?_ NB865_867.out _; (with_reducible repeat (first | refine blk_drewN ?_ _ | refine blk_drew ?_ | refine blk_alloc ?_ _)); refine blk_far ?_ NB865_867.out _; (with_reducible repeat (first | refine blk_drewN ?_ _ | refine blk_drew ?_ | refine blk_alloc ?_ _)); exact BK865.out⟩
           have n1_ : Aside0 ((((w20.setCell ⟨gb867, 0, none⟩ (.int .i64 ((rd_T118 l0_3 x8_1).f0))).setCell ⟨gb867, 1, none⟩ (.int .i64 ((rd_T118 l0_3 x8_1).f1))).setCell ⟨gb867, 2, none⟩ (.slice A866_2 ((rd_T118 l0_3 x8_1).f2).length c866_2)).heap[gb867]? = some (.cells #[.int .i64 ((rd_T118 l0_3 x8_1).f0), .int .i64 ((rd_T118 l0_3 x8_1).f1), .slice A866_2 ((rd_T118 l0_3 x8_1).f2).length c866_2] 118 (0, 0))) := ⟨by (with_reducible repeat (first | refine blk_drewN ?_ _ | refine blk_drew ?_ | refine blk_alloc ?_ _)); refine blk_put (cs := #[.int .i64 ((rd_T118 l0_3 x8_1).f0), .int .i64 ((rd_T118 l0_3 x8_1).f1), .slice none 0 0]) ?_ 2 _ rfl; (with_reducible repeat (first | refine blk_drewN ?_ _ | refine blk_drew ?_ | refine blk_alloc ?_ _)); refine blk_put (cs := #[.int .i64 ((rd_T118 l0_3 x8_1).f0), .int .i64 0, .slice none 0 0]) ?_ 1 _ rfl; (with_reducible repeat (first | refine blk_drewN ?_ _ | refine blk_drew ?_ | refine blk_alloc ?_ _)); refine blk_put (cs := #[.int .i64 0, .int .i64 0, .slice none 0 0]) ?_ 0 _ rfl; (with_reducible repeat (first | refine blk_drewN ?_ _ | refine blk_drew ?_ | refine blk_alloc ?_ _)); exact BK867.out⟩
           have n2_ : Aside0 (Below w.heap.size w (((w20.setCell ⟨gb867, 0, none⟩ (.int .i64 ((rd_T118 l0_3 x8_1).f0))).setCell ⟨gb867, 1, none⟩ (.int .i64 ((rd_T118 l0_3 x8_1).f1))).setCell ⟨gb867, 2, none⟩ (.slice A866_2 ((rd_T118 l0_3 x8_1).f2).length c866_2))) := ⟨by repeat (first | (with_reducible first | exact HB.out | apply below_alloc | apply pw_below_drewN | apply below_drew1 | refine below_set ?_ GE865.out | refine below_set ?_ GE867.out) | exact HB.out)⟩
           (try clear BK865)
           (try clear BK867)
           (try clear HB)
           generalize (((w20.setCell ⟨gb867, 0, none⟩ (.int .i64 ((rd_T118 l0_3 x8_1).f0))).setCell ⟨gb867, 1, none⟩ (.int .i64 ((rd_T118 l0_3 x8_1).f1))).setCell ⟨gb867, 2, none⟩ (.slice A866_2 ((rd_T118 l0_3 x8_1).f2).length c866_2)) = w23 at n0_ n1_ n2_ ⊢
           have BK865 := n0_
           have BK867 := n1_
           have HB := n2_
           clear n0_ n1_ n2_
           have n0_ := Aside0.mk (blk_drew BK865.out)
           have n1_ := Aside0.mk (blk_drew BK867.out)
           have n2_ := Aside0.mk (below_drew1 HB.out)
           clear BK865
           clear BK867
           clear HB
           have BK865 := n0_
           have BK867 := n1_
           have HB := n2_
           clear n0_ n1_ n2_
           have p869 : 0 ≤ ((ji10) : Int) := of_decide_eq_true (by first | (with_reducible assumption) | assumption)
           have q869 : (ji10) < (l0_3.length : Int) := of_decide_eq_true (by first | (with_reducible assumption) | assumption)
           obtain ⟨ad869, A869_2, c869_2, e869, hx869_0, hx869_1, hx869_2, hl869_2, hi869_2⟩ := at_T118 HR0_3.out (ji10) p869 q869
           have hw869_2 := hx869_2
           have hw869_1 := hx869_1
           have hw869_0 := hx869_0
           obtain rfl : ad866 = ad869 := (by injection e869)
           replace hx869_0 := (HB.out.cell (World.block_lt_of_cell? w _ hx869_0)).trans hx869_0
           replace hx869_1 := (HB.out.cell (World.block_lt_of_cell? w _ hx869_1)).trans hx869_1
           replace hx869_2 := (HB.out.cell (World.block_lt_of_cell? w _ hx869_2)).trans hx869_2
           have HR869_2 := Aside0.mk hi869_2
           have HC869_2 := Aside0.mk hl869_2
           clear hi869_2 hl869_2
           replace p869 := eq_true p869
           replace q869 := eq_true q869
           refine start_ (n := 20) (S := fun w' => w'.cell? ⟨gb865, 0, none⟩ = some (.int .i64 a0_0) ∧ w'.cell? ⟨gb865, 1, none⟩ = some (.slice A0_1 l0_1.length c0_1) ∧ w'.cell? ⟨gb865, 2, none⟩ = some (.slice A0_2 l0_2.length c0_2) ∧ w'.cell? ⟨gb865, 3, none⟩ = some (.slice (some ad866) l0_3.length c0_3) ∧ w'.cell? ⟨gb867, 0, none⟩ = some (.int .i64 ((rd_T118 l0_3 x8_1).f0)) ∧ w'.cell? ⟨gb867, 1, none⟩ = some (.int .i64 ((rd_T118 l0_3 x8_1).f1)) ∧ w'.cell? ⟨gb867, 2, none⟩ = some (.slice A866_2 ((rd_T118 l0_3 x8_1).f2).length c866_2) ∧ w'.cell? (ad866.add (((ji10)).toNat * 3)) = some (.int .i64 ((rd_T118 l0_3 (ji10)).f0)) ∧ w'.cell? ⟨(ad866.add (((ji10)).toNat * 3)).block, (ad866.add (((ji10)).toNat * 3)).off + 1, none⟩ = some (.int .i64 ((rd_T118 l0_3 (ji10)).f1)) ∧ w'.cell? ⟨(ad866.add (((ji10)).toNat * 3)).block, (ad866.add (((ji10)).toNat * 3)).off + 2, none⟩ = some (.slice A869_2 ((rd_T118 l0_3 (ji10)).f2).length c869_2)) (ds := []) (bs 20 0) (by kernel_rfl) rfl rfl ⟨(blk_cell BK865.out 0).trans rfl, (blk_cell BK865.out 1).trans rfl, (blk_cell BK865.out 2).trans rfl, (blk_cell BK865.out 3).trans rfl, (blk_cell BK867.out 0).trans rfl, (blk_cell BK867.out 1).trans rfl, (blk_cell BK867.out 2).trans rfl, ((HB.out.cell (World.block_lt_of_cell? w _ hw869_0)).trans hw869_0), ((HB.out.cell (World.block_lt_of_cell? w _ hw869_1)).trans hw869_1), ((HB.out.cell (World.block_lt_of_cell? w _ hw869_2)).trans hw869_2)⟩ (fun hHeld => ?_); refine with_tabW spec_GoodCampus.tab4 spec_GoodCampus.bits4 (fun HT_ HW_ => ?_)
           generalize w23.drew = w24 at BK865 BK867 HB HR869_2 hx869_0 hx869_1 hx869_2 hHeld ⊢
           refine tk_ 0 13 (bs 20 1) HT_ HW_ hHeld ?_
           refine tk_ 1 14 (bs 20 3) HT_ HW_ hHeld ?_
           refine one_ (i := 2) (N := some 15) (bs 20 7) rfl rfl (one_of HT_.out (by kernel_rfl)) (by decide) (fun K hK => ?_)
           refine goes_ Try.func98 (by kernel_rfl) rfl #[.agg #[.int .i64 a0_0, .slice A0_1 l0_1.length c0_1, .slice A0_2 l0_2.length c0_2, .slice (some ad866) l0_3.length c0_3], .agg #[.int .i64 ((rd_T118 l0_3 x8_1).f0), .int .i64 ((rd_T118 l0_3 x8_1).f1), .slice A866_2 ((rd_T118 l0_3 x8_1).f2).length c866_2]] (by rfl) rfl rfl (by (try simp only [List.map_toArray, List.map_cons, List.map_nil]); first | done | rfl | (simp only [List.length_drop, List.length_take]; rfl)) ?_
           with_reducible refine (spec_l17Place.calls k1 a0_0 _ _ l0_1 _ _ l0_2 _ _ l0_3 ((rd_T118 l0_3 x8_1).f0) ((rd_T118 l0_3 x8_1).f1) _ _ ((rd_T118 l0_3 x8_1).f2) true _ ?side1 ?side2 ?side3 ?side4 ?side5 ?side6 ?side7 ?side8 A7.out).mono ?_
           (case side1 => repeat (first | exact (Kd.C_below HR0_1.out HB.out) | (with_reducible refine Kd.C_alloc ?_ _) | (with_reducible refine Kd.C_drewN ?_ _) | (with_reducible refine Kd.C_drew ?_)))
           (case side2 => exact HC0_1.out)
           (case side3 => repeat (first | exact (Kd.C_below HR0_2.out HB.out) | (with_reducible refine Kd.C_alloc ?_ _) | (with_reducible refine Kd.C_drewN ?_ _) | (with_reducible refine Kd.C_drew ?_)))
           (case side4 => exact HC0_2.out)
           (case side5 => repeat (first | exact (Kd.C_below HR0_3.out HB.out) | (with_reducible refine Kd.C_alloc ?_ _) | (with_reducible refine Kd.C_drewN ?_ _) | (with_reducible refine Kd.C_drew ?_)))
           (case side6 => exact HC0_3.out)
           (case side7 => repeat (first | exact (Kd.C_below HR866_2.out HB.out) | (with_reducible refine Kd.C_alloc ?_ _) | (with_reducible refine Kd.C_drewN ?_ _) | (with_reducible refine Kd.C_drew ?_)))
           (case side8 => exact HC866_2.out)
           rintro e w25 ⟨rfl, hb⟩
           refine ⟨_, rfl, ?_⟩
           have n0_ := Aside0.mk (blk_below (g := gb865) (o := .cells #[.int .i64 a0_0, .slice A0_1 l0_1.length c0_1, .slice A0_2 l0_2.length c0_2, .slice (some ad866) l0_3.length c0_3] 61 (0, 0)) (by (with_reducible repeat (first | refine blk_drewN ?_ _ | refine blk_drew ?_ | refine blk_alloc ?_ _)); exact BK865.out) hb)
           have n1_ := Aside0.mk (blk_below (g := gb867) (o := .cells #[.int .i64 ((rd_T118 l0_3 x8_1).f0), .int .i64 ((rd_T118 l0_3 x8_1).f1), .slice A866_2 ((rd_T118 l0_3 x8_1).f2).length c866_2] 118 (0, 0)) (by (with_reducible repeat (first | refine blk_drewN ?_ _ | refine blk_drew ?_ | refine blk_alloc ?_ _)); exact BK867.out) hb)
           have n2_ := Aside0.mk (below_step (by repeat (first | (with_reducible first | exact HB.out | apply below_alloc | apply pw_below_drewN | apply below_drew1 | refine below_set ?_ GE865.out | refine below_set ?_ GE867.out) | exact HB.out)) hb)
           clear BK865
           clear BK867
           clear HB
           have BK865 := n0_
           have BK867 := n1_
           have HB := n2_
           clear n0_ n1_ n2_
           (try clear hb)
           (try clear hb2)
           (try clear hk)
           (try clear hi)
           refine hK.out _ _ ⟨(blk_cell BK865.out 0).trans rfl, (blk_cell BK865.out 1).trans rfl, (blk_cell BK865.out 2).trans rfl, (blk_cell BK865.out 3).trans rfl, (blk_cell BK867.out 0).trans rfl, (blk_cell BK867.out 1).trans rfl, (blk_cell BK867.out 2).trans rfl, ((HB.out.cell (World.block_lt_of_cell? w _ hw869_0)).trans hw869_0), ((HB.out.cell (World.block_lt_of_cell? w _ hw869_1)).trans hw869_1), ((HB.out.cell (World.block_lt_of_cell? w _ hw869_2)).trans hw869_2)⟩ (fun hHeld => ?_)
           clear hK K
           refine norm_ (a' := ?_) ?_ ?_
           rotate_left
           ·show Act.put _ (some 15) _ = _
            simp only [Act.put, List.setIfInBounds_toArray, List.set_cons_zero, List.set_cons_succ, i64_w, i32_w]
            rfl
           refine pu_ 3 16 (bs 20 15) HT_ ?_
           refine pu_ 4 17 (bs 20 31) HT_ ?_
           refine pu_ 5 18 (bs 20 63) HT_ ?_
           refine pu_ 6 19 (bs 20 127) HT_ ?_
           refine pu_ 7 20 (bs 20 255) HT_ ?_
           refine pu_ 8 21 (bs 20 511) HT_ ?_
           refine pu_ 10 23 (bs 20 1535) HT_ ?_
           refine pu_ 11 24 (bs 20 3583) HT_ ?_
           refine pu_ 15 28 (bs 20 36351) HT_ ?_
           refine tk_ 9 22 (bs 20 36863) HT_ HW_ hHeld ?_
           refine pu_ 12 25 (bs 20 40959) HT_ ?_
           refine pu_ 13 26 (bs 20 49151) HT_ ?_
           refine tk_ 14 27 (bs 20 65535) HT_ HW_ hHeld ?_
           refine tk_ 16 29 (bs 20 131071) HT_ HW_ hHeld ?_
           refine pu_ 17 30 (bs 20 262143) HT_ ?_
           refine pu_ 18 31 (bs 20 524287) HT_ ?_
           refine pu_ 19 32 (bs 20 1048575) HT_ ?_
           refine done_ (done_of HT_.out (by kernel_rfl)) ?_
           try go_wp2
           go_roundg k1
           case measure => have := HK1.out; omega
           case rel => exact ⟨(wrap64 (x8_1 + 1)), (by first | rfl | (simp; done) | (simp [*]; done)), H', ⟨by have := HK1.out; omega⟩, ⟨by (with_reducible repeat (first | refine blk_drewN ?_ _ | refine blk_drew ?_ | refine blk_alloc ?_ _)); exact BK865.out⟩, ⟨by repeat (first | (with_reducible first | exact HB.out | apply below_alloc | apply pw_below_drewN | apply below_drew1 | refine below_set ?_ GE865.out | refine below_set ?_ GE867.out) | exact HB.out)⟩⟩
         ·rw [if_neg c12] at H
          exact absurd H (by simp)
        ·rw [if_neg c11] at H
         exact absurd H (by simp)
       ·rw [if_neg c9] at H
        have c9b0 : decide (0 < x8_1) = false := decide_eq_false c9
        clear c9
        have H' := Aside0.mk H
        clear H
        have p866 : 0 ≤ (x8_1 : Int) := of_decide_eq_true (by first | (with_reducible assumption) | assumption)
        have q866 : x8_1 < (l0_3.length : Int) := of_decide_eq_true (by first | (with_reducible assumption) | assumption)
        obtain ⟨ad866, A866_2, c866_2, e866, hx866_0, hx866_1, hx866_2, hl866_2, hi866_2⟩ := at_T118 HR0_3.out x8_1 p866 q866
        cases e866
        replace hx866_0 := (HB.out.cell (World.block_lt_of_cell? w _ hx866_0)).trans hx866_0
        replace hx866_1 := (HB.out.cell (World.block_lt_of_cell? w _ hx866_1)).trans hx866_1
        replace hx866_2 := (HB.out.cell (World.block_lt_of_cell? w _ hx866_2)).trans hx866_2
        have HR866_2 := Aside0.mk hi866_2
        have HC866_2 := Aside0.mk hl866_2
        clear hi866_2 hl866_2
        replace p866 := eq_true p866
        replace q866 := eq_true q866
        try go_wp2_with (first | ((with_reducible refine gate_dst (N := 4) rfl ?_); (try (refine gate_guard (by rfl) ?_; dsimp only)); refine box_event ?hg (N := 4) ?hd (cs := #[.int .i64 0, .int .i64 0, .slice none 0 0]) (t := 118) ?hr ?_; (case hd => rfl); (case hg => rfl); (case hr => first | (go_simp; done) | (go_simp; rfl)); intro gb867 hg w26 hbox hb; have n0_ := Aside0.mk (blk_below (g := gb865) (o := .cells #[.int .i64 a0_0, .slice A0_1 l0_1.length c0_1, .slice A0_2 l0_2.length c0_2, .slice (some ad866) l0_3.length c0_3] 61 (0, 0)) (by (with_reducible repeat (first | refine blk_drewN ?_ _ | refine blk_drew ?_ | refine blk_alloc ?_ _)); exact BK865.out) hb); have n1_ := Aside0.mk (below_step (by repeat (first | (with_reducible first | exact HB.out | apply below_alloc | apply pw_below_drewN | apply below_drew1 | refine below_set ?_ GE865.out) | exact HB.out)) hb); have n2_ := Aside0.mk (hbox); have n3_ := Aside0.mk ((by rw [hg]; exact (below_size (by repeat (first | (with_reducible first | exact HB.out | apply below_alloc | apply pw_below_drewN | apply below_drew1 | refine below_set ?_ GE865.out) | exact HB.out))) : w.heap.size ≤ gb867)); have n4_ := Aside0.mk ((by rw [hg]; exact (below_size (by repeat (first | (with_reducible first | exact HB.out | apply below_alloc | apply pw_below_drewN | apply below_drew1 | refine below_set ?_ GE865.out) | exact HB.out))) : w.heap.size ≤ gb867)); have n5_ := Aside0.mk ((by rw [hg]; exact Nat.ne_of_lt (blk_lt (g := gb865) (o := .cells #[.int .i64 a0_0, .slice A0_1 l0_1.length c0_1, .slice A0_2 l0_2.length c0_2, .slice (some ad866) l0_3.length c0_3] 61 (0, 0)) (by (with_reducible repeat (first | refine blk_drewN ?_ _ | refine blk_drew ?_ | refine blk_alloc ?_ _)); exact BK865.out)) : gb865 ≠ gb867)); have n6_ := Aside0.mk ((by rw [hg]; exact Nat.ne_of_gt (blk_lt (g := gb865) (o := .cells #[.int .i64 a0_0, .slice A0_1 l0_1.length c0_1, .slice A0_2 l0_2.length c0_2, .slice (some ad866) l0_3.length c0_3] 61 (0, 0)) (by (with_reducible repeat (first | refine blk_drewN ?_ _ | refine blk_drew ?_ | refine blk_alloc ?_ _)); exact BK865.out)) : gb867 ≠ gb865)); clear BK865; clear HB; have BK865 := n0_; have HB := n1_; have BK867 := n2_; have GW867 := n3_; have GE867 := n4_; have NB865_867 := n5_; have NB867_865 := n6_; clear n0_ n1_ n2_ n3_ n4_ n5_ n6_; clear hb hbox hg; have hnb27 := NB867_865.out; have hnc27 := NB865_867.out; have hcz28_0 : w26.cell? ⟨gb867, 0, none⟩ = some (.int .i64 0) := (blk_cell BK867.out 0).trans rfl; have hcz28_1 : w26.cell? ⟨gb867, 1, none⟩ = some (.int .i64 0) := (blk_cell BK867.out 1).trans rfl; have hcz28_2 : w26.cell? ⟨gb867, 2, none⟩ = some (.slice none 0 0) := (blk_cell BK867.out 2).trans rfl; have hfz28_0 := blk_frozen BK867.out 0; have hfz28_1 := blk_frozen BK867.out 1; have hfz28_2 := blk_frozen BK867.out 2))
        have n0_ : Aside0 ((((w26.setCell ⟨gb867, 0, none⟩ (.int .i64 ((rd_T118 l0_3 x8_1).f0))).setCell ⟨gb867, 1, none⟩ (.int .i64 ((rd_T118 l0_3 x8_1).f1))).setCell ⟨gb867, 2, none⟩ (.slice A866_2 ((rd_T118 l0_3 x8_1).f2).length c866_2)).heap[gb865]? = some (.cells #[.int .i64 a0_0, .slice A0_1 l0_1.length c0_1, .slice A0_2 l0_2.length c0_2, .slice (some ad866) l0_3.length c0_3] 61 (0, 0))) := ⟨by (with_reducible repeat (first | refine blk_drewN ?_ _ | refine blk_drew ?_ | refine blk_alloc ?_ _)); refine blk_far ?_ NB865_867.out _; (with_reducible repeat (first | refine blk_drewN ?_ _ | refine blk_drew ?_ | refine blk_alloc ?_ _)); refine blk_far ?_ NB865_867.out _; (with_reducible repeat (first | refine blk_drewN ?_ _ | refine blk_drew ?_ | refine blk_alloc ?_ _)); refine blk_far ?_ NB865_867.out _; (with_reducible repeat (first | refine blk_drewN ?_ _ | refine blk_drew ?_ | refine blk_alloc ?_ _)); exact BK865.out⟩
        have n1_ : Aside0 ((((w26.setCell ⟨gb867, 0, none⟩ (.int .i64 ((rd_T118 l0_3 x8_1).f0))).setCell ⟨gb867, 1, none⟩ (.int .i64 ((rd_T118 l0_3 x8_1).f1))).setCell ⟨gb867, 2, none⟩ (.slice A866_2 ((rd_T118 l0_3 x8_1).f2).length c866_2)).heap[gb867]? = some (.cells #[.int .i64 ((rd_T118 l0_3 x8_1).f0), .int .i64 ((rd_T118 l0_3 x8_1).f1), .slice A866_2 ((rd_T118 l0_3 x8_1).f2).length c866_2] 118 (0, 0))) := ⟨by (with_reducible repeat (first | refine blk_drewN ?_ _ | refine blk_drew ?_ | refine blk_alloc ?_ _)); refine blk_put (cs := #[.int .i64 ((rd_T118 l0_3 x8_1).f0), .int .i64 ((rd_T118 l0_3 x8_1).f1), .slice none 0 0]) ?_ 2 _ rfl; (with_reducible repeat (first | refine blk_drewN ?_ _ | refine blk_drew ?_ | refine blk_alloc ?_ _)); refine blk_put (cs := #[.int .i64 ((rd_T118 l0_3 x8_1).f0), .int .i64 0, .slice none 0 0]) ?_ 1 _ rfl; (with_reducible repeat (first | refine blk_drewN ?_ _ | refine blk_drew ?_ | refine blk_alloc ?_ _)); refine blk_put (cs := #[.int .i64 0, .int .i64 0, .slice none 0 0]) ?_ 0 _ rfl; (with_reducible repeat (first | refine blk_drewN ?_ _ | refine blk_drew ?_ | refine blk_alloc ?_ _)); exact BK867.out⟩
        have n2_ : Aside0 (Below w.heap.size w (((w26.setCell ⟨gb867, 0, none⟩ (.int .i64 ((rd_T118 l0_3 x8_1).f0))).setCell ⟨gb867, 1, none⟩ (.int .i64 ((rd_T118 l0_3 x8_1).f1))).setCell ⟨gb867, 2, none⟩ (.slice A866_2 ((rd_T118 l0_3 x8_1).f2).length c866_2))) := ⟨by repeat (first | (with_reducible first | exact HB.out | apply below_alloc | apply pw_below_drewN | apply below_drew1 | refine below_set ?_ GE865.out | refine below_set ?_ GE867.out) | exact HB.out)⟩
        (try clear BK865)
        (try clear BK867)
        (try clear HB)
        generalize (((w26.setCell ⟨gb867, 0, none⟩ (.int .i64 ((rd_T118 l0_3 x8_1).f0))).setCell ⟨gb867, 1, none⟩ (.int .i64 ((rd_T118 l0_3 x8_1).f1))).setCell ⟨gb867, 2, none⟩ (.slice A866_2 ((rd_T118 l0_3 x8_1).f2).length c866_2)) = w29 at n0_ n1_ n2_ ⊢
        have BK865 := n0_
        have BK867 := n1_
        have HB := n2_
        clear n0_ n1_ n2_
        have n0_ := Aside0.mk (blk_drew BK865.out)
        have n1_ := Aside0.mk (blk_drew BK867.out)
        have n2_ := Aside0.mk (below_drew1 HB.out)
        clear BK865
        clear BK867
        clear HB
        have BK865 := n0_
        have BK867 := n1_
        have HB := n2_
        clear n0_ n1_ n2_
        refine start_ (n := 20) (S := fun w' => w'.cell? ⟨gb865, 0, none⟩ = some (.int .i64 a0_0) ∧ w'.cell? ⟨gb865, 1, none⟩ = some (.slice A0_1 l0_1.length c0_1) ∧ w'.cell? ⟨gb865, 2, none⟩ = some (.slice A0_2 l0_2.length c0_2) ∧ w'.cell? ⟨gb865, 3, none⟩ = some (.slice (some ad866) l0_3.length c0_3) ∧ w'.cell? ⟨gb867, 0, none⟩ = some (.int .i64 ((rd_T118 l0_3 x8_1).f0)) ∧ w'.cell? ⟨gb867, 1, none⟩ = some (.int .i64 ((rd_T118 l0_3 x8_1).f1)) ∧ w'.cell? ⟨gb867, 2, none⟩ = some (.slice A866_2 ((rd_T118 l0_3 x8_1).f2).length c866_2)) (ds := []) (bs 20 0) (by kernel_rfl) rfl rfl ⟨(blk_cell BK865.out 0).trans rfl, (blk_cell BK865.out 1).trans rfl, (blk_cell BK865.out 2).trans rfl, (blk_cell BK865.out 3).trans rfl, (blk_cell BK867.out 0).trans rfl, (blk_cell BK867.out 1).trans rfl, (blk_cell BK867.out 2).trans rfl⟩ (fun hHeld => ?_); refine with_tabW spec_GoodCampus.tab4 spec_GoodCampus.bits4 (fun HT_ HW_ => ?_)
        generalize w29.drew = w30 at BK865 BK867 HB hHeld ⊢
        refine tk_ 0 13 (bs 20 1) HT_ HW_ hHeld ?_
        refine tk_ 1 14 (bs 20 3) HT_ HW_ hHeld ?_
        refine one_ (i := 2) (N := some 15) (bs 20 7) rfl rfl (one_of HT_.out (by kernel_rfl)) (by decide) (fun K hK => ?_)
        refine goes_ Try.func98 (by kernel_rfl) rfl #[.agg #[.int .i64 a0_0, .slice A0_1 l0_1.length c0_1, .slice A0_2 l0_2.length c0_2, .slice (some ad866) l0_3.length c0_3], .agg #[.int .i64 ((rd_T118 l0_3 x8_1).f0), .int .i64 ((rd_T118 l0_3 x8_1).f1), .slice A866_2 ((rd_T118 l0_3 x8_1).f2).length c866_2]] (by rfl) rfl rfl (by (try simp only [List.map_toArray, List.map_cons, List.map_nil]); first | done | rfl | (simp only [List.length_drop, List.length_take]; rfl)) ?_
        with_reducible refine (spec_l17Place.calls k1 a0_0 _ _ l0_1 _ _ l0_2 _ _ l0_3 ((rd_T118 l0_3 x8_1).f0) ((rd_T118 l0_3 x8_1).f1) _ _ ((rd_T118 l0_3 x8_1).f2) true _ ?side1 ?side2 ?side3 ?side4 ?side5 ?side6 ?side7 ?side8 A7.out).mono ?_
        (case side1 => repeat (first | exact (Kd.C_below HR0_1.out HB.out) | (with_reducible refine Kd.C_alloc ?_ _) | (with_reducible refine Kd.C_drewN ?_ _) | (with_reducible refine Kd.C_drew ?_)))
        (case side2 => exact HC0_1.out)
        (case side3 => repeat (first | exact (Kd.C_below HR0_2.out HB.out) | (with_reducible refine Kd.C_alloc ?_ _) | (with_reducible refine Kd.C_drewN ?_ _) | (with_reducible refine Kd.C_drew ?_)))
        (case side4 => exact HC0_2.out)
        (case side5 => repeat (first | exact (Kd.C_below HR0_3.out HB.out) | (with_reducible refine Kd.C_alloc ?_ _) | (with_reducible refine Kd.C_drewN ?_ _) | (with_reducible refine Kd.C_drew ?_)))
        (case side6 => exact HC0_3.out)
        (case side7 => repeat (first | exact (Kd.C_below HR866_2.out HB.out) | (with_reducible refine Kd.C_alloc ?_ _) | (with_reducible refine Kd.C_drewN ?_ _) | (with_reducible refine Kd.C_drew ?_)))
        (case side8 => exact HC866_2.out)
        rintro e w31 ⟨rfl, hb⟩
        refine ⟨_, rfl, ?_⟩
        have n0_ := Aside0.mk (blk_below (g := gb865) (o := .cells #[.int .i64 a0_0, .slice A0_1 l0_1.length c0_1, .slice A0_2 l0_2.length c0_2, .slice (some ad866) l0_3.length c0_3] 61 (0, 0)) (by (with_reducible repeat (first | refine blk_drewN ?_ _ | refine blk_drew ?_ | refine blk_alloc ?_ _)); exact BK865.out) hb)
        have n1_ := Aside0.mk (blk_below (g := gb867) (o := .cells #[.int .i64 ((rd_T118 l0_3 x8_1).f0), .int .i64 ((rd_T118 l0_3 x8_1).f1), .slice A866_2 ((rd_T118 l0_3 x8_1).f2).length c866_2] 118 (0, 0)) (by (with_reducible repeat (first | refine blk_drewN ?_ _ | refine blk_drew ?_ | refine blk_alloc ?_ _)); exact BK867.out) hb)
        have n2_ := Aside0.mk (below_step (by repeat (first | (with_reducible first | exact HB.out | apply below_alloc | apply pw_below_drewN | apply below_drew1 | refine below_set ?_ GE865.out | refine below_set ?_ GE867.out) | exact HB.out)) hb)
        clear BK865
        clear BK867
        clear HB
        have BK865 := n0_
        have BK867 := n1_
        have HB := n2_
        clear n0_ n1_ n2_
        (try clear hb)
        (try clear hb2)
        (try clear hk)
        (try clear hi)
        refine hK.out _ _ ⟨(blk_cell BK865.out 0).trans rfl, (blk_cell BK865.out 1).trans rfl, (blk_cell BK865.out 2).trans rfl, (blk_cell BK865.out 3).trans rfl, (blk_cell BK867.out 0).trans rfl, (blk_cell BK867.out 1).trans rfl, (blk_cell BK867.out 2).trans rfl⟩ (fun hHeld => ?_)
        clear hK K
        refine norm_ (a' := ?_) ?_ ?_
        rotate_left
        ·show Act.put _ (some 15) _ = _
         simp only [Act.put, List.setIfInBounds_toArray, List.set_cons_zero, List.set_cons_succ, i64_w, i32_w]
         rfl
        refine pu_ 3 16 (bs 20 15) HT_ ?_
        refine pu_ 4 17 (bs 20 31) HT_ ?_
        refine pu_ 5 18 (bs 20 63) HT_ ?_
        refine pu_ 6 19 (bs 20 127) HT_ ?_
        refine pu_ 7 20 (bs 20 255) HT_ ?_
        refine pn_ 8 21 (bs 20 511) HT_ ?_
        refine pn_ 9 22 (bs 20 1023) HT_ ?_
        refine pn_ 10 23 (bs 20 2047) HT_ ?_
        refine pn_ 11 24 (bs 20 4095) HT_ ?_
        refine pn_ 12 25 (bs 20 8191) HT_ ?_
        refine pn_ 13 26 (bs 20 16383) HT_ ?_
        refine pn_ 14 27 (bs 20 32767) HT_ ?_
        refine pn_ 15 28 (bs 20 65535) HT_ ?_
        refine pn_ 16 29 (bs 20 131071) HT_ ?_
        refine pn_ 17 30 (bs 20 262143) HT_ ?_
        refine pu_ 18 31 (bs 20 524287) HT_ ?_
        refine pu_ 19 32 (bs 20 1048575) HT_ ?_
        refine done_ (done_of HT_.out (by kernel_rfl)) ?_
        try go_wp2
        go_roundg k1
        case measure => have := HK1.out; omega
        case rel => exact ⟨(wrap64 (x8_1 + 1)), (by first | rfl | (simp; done) | (simp [*]; done)), H', ⟨by have := HK1.out; omega⟩, ⟨by (with_reducible repeat (first | refine blk_drewN ?_ _ | refine blk_drew ?_ | refine blk_alloc ?_ _)); exact BK865.out⟩, ⟨by repeat (first | (with_reducible first | exact HB.out | apply below_alloc | apply pw_below_drewN | apply below_drew1 | refine below_set ?_ GE865.out | refine below_set ?_ GE867.out) | exact HB.out)⟩⟩
      ·replace c8 := Bool.eq_false_iff.mpr c8
       subst c8
       have H1 : (some false) = some r := by rw [if_neg (show ¬ (false = true) by decide)] at H; exact H
       clear H
       have H := H1
       clear H1
       obtain rfl := Option.some.inj H
       have p866 : 0 ≤ (x8_1 : Int) := of_decide_eq_true (by first | (with_reducible assumption) | assumption)
       have q866 : x8_1 < (l0_3.length : Int) := of_decide_eq_true (by first | (with_reducible assumption) | assumption)
       obtain ⟨ad866, A866_2, c866_2, e866, hx866_0, hx866_1, hx866_2, hl866_2, hi866_2⟩ := at_T118 HR0_3.out x8_1 p866 q866
       cases e866
       replace hx866_0 := (HB.out.cell (World.block_lt_of_cell? w _ hx866_0)).trans hx866_0
       replace hx866_1 := (HB.out.cell (World.block_lt_of_cell? w _ hx866_1)).trans hx866_1
       replace hx866_2 := (HB.out.cell (World.block_lt_of_cell? w _ hx866_2)).trans hx866_2
       have HR866_2 := Aside0.mk hi866_2
       have HC866_2 := Aside0.mk hl866_2
       clear hi866_2 hl866_2
       replace p866 := eq_true p866
       replace q866 := eq_true q866
       try go_wp2_with (first | ((with_reducible refine gate_dst (N := 4) rfl ?_); (try (refine gate_guard (by rfl) ?_; dsimp only)); refine box_event ?hg (N := 4) ?hd (cs := #[.int .i64 0, .int .i64 0, .slice none 0 0]) (t := 118) ?hr ?_; (case hd => rfl); (case hg => rfl); (case hr => first | (go_simp; done) | (go_simp; rfl)); intro gb867 hg w32 hbox hb; have n0_ := Aside0.mk (blk_below (g := gb865) (o := .cells #[.int .i64 a0_0, .slice A0_1 l0_1.length c0_1, .slice A0_2 l0_2.length c0_2, .slice (some ad866) l0_3.length c0_3] 61 (0, 0)) (by (with_reducible repeat (first | refine blk_drewN ?_ _ | refine blk_drew ?_ | refine blk_alloc ?_ _)); exact BK865.out) hb); have n1_ := Aside0.mk (below_step (by repeat (first | (with_reducible first | exact HB.out | apply below_alloc | apply pw_below_drewN | apply below_drew1 | refine below_set ?_ GE865.out) | exact HB.out)) hb); have n2_ := Aside0.mk (hbox); have n3_ := Aside0.mk ((by rw [hg]; exact (below_size (by repeat (first | (with_reducible first | exact HB.out | apply below_alloc | apply pw_below_drewN | apply below_drew1 | refine below_set ?_ GE865.out) | exact HB.out))) : w.heap.size ≤ gb867)); have n4_ := Aside0.mk ((by rw [hg]; exact (below_size (by repeat (first | (with_reducible first | exact HB.out | apply below_alloc | apply pw_below_drewN | apply below_drew1 | refine below_set ?_ GE865.out) | exact HB.out))) : w.heap.size ≤ gb867)); have n5_ := Aside0.mk ((by rw [hg]; exact Nat.ne_of_lt (blk_lt (g := gb865) (o := .cells #[.int .i64 a0_0, .slice A0_1 l0_1.length c0_1, .slice A0_2 l0_2.length c0_2, .slice (some ad866) l0_3.length c0_3] 61 (0, 0)) (by (with_reducible repeat (first | refine blk_drewN ?_ _ | refine blk_drew ?_ | refine blk_alloc ?_ _)); exact BK865.out)) : gb865 ≠ gb867)); have n6_ := Aside0.mk ((by rw [hg]; exact Nat.ne_of_gt (blk_lt (g := gb865) (o := .cells #[.int .i64 a0_0, .slice A0_1 l0_1.length c0_1, .slice A0_2 l0_2.length c0_2, .slice (some ad866) l0_3.length c0_3] 61 (0, 0)) (by (with_reducible repeat (first | refine blk_drewN ?_ _ | refine blk_drew ?_ | refine blk_alloc ?_ _)); exact BK865.out)) : gb867 ≠ gb865)); clear BK865; clear HB; have BK865 := n0_; have HB := n1_; have BK867 := n2_; have GW867 := n3_; have GE867 := n4_; have NB865_867 := n5_; have NB867_865 := n6_; clear n0_ n1_ n2_ n3_ n4_ n5_ n6_; clear hb hbox hg; have hnb33 := NB867_865.out; have hnc33 := NB865_867.out; have hcz34_0 : w32.cell? ⟨gb867, 0, none⟩ = some (.int .i64 0) := (blk_cell BK867.out 0).trans rfl; have hcz34_1 : w32.cell? ⟨gb867, 1, none⟩ = some (.int .i64 0) := (blk_cell BK867.out 1).trans rfl; have hcz34_2 : w32.cell? ⟨gb867, 2, none⟩ = some (.slice none 0 0) := (blk_cell BK867.out 2).trans rfl; have hfz34_0 := blk_frozen BK867.out 0; have hfz34_1 := blk_frozen BK867.out 1; have hfz34_2 := blk_frozen BK867.out 2))
       have n0_ : Aside0 ((((w32.setCell ⟨gb867, 0, none⟩ (.int .i64 ((rd_T118 l0_3 x8_1).f0))).setCell ⟨gb867, 1, none⟩ (.int .i64 ((rd_T118 l0_3 x8_1).f1))).setCell ⟨gb867, 2, none⟩ (.slice A866_2 ((rd_T118 l0_3 x8_1).f2).length c866_2)).heap[gb865]? = some (.cells #[.int .i64 a0_0, .slice A0_1 l0_1.length c0_1, .slice A0_2 l0_2.length c0_2, .slice (some ad866) l0_3.length c0_3] 61 (0, 0))) := ⟨by (with_reducible repeat (first | refine blk_drewN ?_ _ | refine blk_drew ?_ | refine blk_alloc ?_ _)); refine blk_far ?_ NB865_867.out _; (with_reducible repeat (first | refine blk_drewN ?_ _ | refine blk_drew ?_ | refine blk_alloc ?_ _)); refine blk_far ?_ NB865_867.out _; (with_reducible repeat (first | refine blk_drewN ?_ _ | refine blk_drew ?_ | refine blk_alloc ?_ _)); refine blk_far ?_ NB865_867.out _; (with_reducible repeat (first | refine blk_drewN ?_ _ | refine blk_drew ?_ | refine blk_alloc ?_ _)); exact BK865.out⟩
       have n1_ : Aside0 ((((w32.setCell ⟨gb867, 0, none⟩ (.int .i64 ((rd_T118 l0_3 x8_1).f0))).setCell ⟨gb867, 1, none⟩ (.int .i64 ((rd_T118 l0_3 x8_1).f1))).setCell ⟨gb867, 2, none⟩ (.slice A866_2 ((rd_T118 l0_3 x8_1).f2).length c866_2)).heap[gb867]? = some (.cells #[.int .i64 ((rd_T118 l0_3 x8_1).f0), .int .i64 ((rd_T118 l0_3 x8_1).f1), .slice A866_2 ((rd_T118 l0_3 x8_1).f2).length c866_2] 118 (0, 0))) := ⟨by (with_reducible repeat (first | refine blk_drewN ?_ _ | refine blk_drew ?_ | refine blk_alloc ?_ _)); refine blk_put (cs := #[.int .i64 ((rd_T118 l0_3 x8_1).f0), .int .i64 ((rd_T118 l0_3 x8_1).f1), .slice none 0 0]) ?_ 2 _ rfl; (with_reducible repeat (first | refine blk_drewN ?_ _ | refine blk_drew ?_ | refine blk_alloc ?_ _)); refine blk_put (cs := #[.int .i64 ((rd_T118 l0_3 x8_1).f0), .int .i64 0, .slice none 0 0]) ?_ 1 _ rfl; (with_reducible repeat (first | refine blk_drewN ?_ _ | refine blk_drew ?_ | refine blk_alloc ?_ _)); refine blk_put (cs := #[.int .i64 0, .int .i64 0, .slice none 0 0]) ?_ 0 _ rfl; (with_reducible repeat (first | refine blk_drewN ?_ _ | refine blk_drew ?_ | refine blk_alloc ?_ _)); exact BK867.out⟩
       have n2_ : Aside0 (Below w.heap.size w (((w32.setCell ⟨gb867, 0, none⟩ (.int .i64 ((rd_T118 l0_3 x8_1).f0))).setCell ⟨gb867, 1, none⟩ (.int .i64 ((rd_T118 l0_3 x8_1).f1))).setCell ⟨gb867, 2, none⟩ (.slice A866_2 ((rd_T118 l0_3 x8_1).f2).length c866_2))) := ⟨by repeat (first | (with_reducible first | exact HB.out | apply below_alloc | apply pw_below_drewN | apply below_drew1 | refine below_set ?_ GE865.out | refine below_set ?_ GE867.out) | exact HB.out)⟩
       (try clear BK865)
       (try clear BK867)
       (try clear HB)
       generalize (((w32.setCell ⟨gb867, 0, none⟩ (.int .i64 ((rd_T118 l0_3 x8_1).f0))).setCell ⟨gb867, 1, none⟩ (.int .i64 ((rd_T118 l0_3 x8_1).f1))).setCell ⟨gb867, 2, none⟩ (.slice A866_2 ((rd_T118 l0_3 x8_1).f2).length c866_2)) = w35 at n0_ n1_ n2_ ⊢
       have BK865 := n0_
       have BK867 := n1_
       have HB := n2_
       clear n0_ n1_ n2_
       have n0_ := Aside0.mk (blk_drew BK865.out)
       have n1_ := Aside0.mk (blk_drew BK867.out)
       have n2_ := Aside0.mk (below_drew1 HB.out)
       clear BK865
       clear BK867
       clear HB
       have BK865 := n0_
       have BK867 := n1_
       have HB := n2_
       clear n0_ n1_ n2_
       refine start_ (n := 20) (S := fun w' => w'.cell? ⟨gb865, 0, none⟩ = some (.int .i64 a0_0) ∧ w'.cell? ⟨gb865, 1, none⟩ = some (.slice A0_1 l0_1.length c0_1) ∧ w'.cell? ⟨gb865, 2, none⟩ = some (.slice A0_2 l0_2.length c0_2) ∧ w'.cell? ⟨gb865, 3, none⟩ = some (.slice (some ad866) l0_3.length c0_3) ∧ w'.cell? ⟨gb867, 0, none⟩ = some (.int .i64 ((rd_T118 l0_3 x8_1).f0)) ∧ w'.cell? ⟨gb867, 1, none⟩ = some (.int .i64 ((rd_T118 l0_3 x8_1).f1)) ∧ w'.cell? ⟨gb867, 2, none⟩ = some (.slice A866_2 ((rd_T118 l0_3 x8_1).f2).length c866_2)) (ds := []) (bs 20 0) (by kernel_rfl) rfl rfl ⟨(blk_cell BK865.out 0).trans rfl, (blk_cell BK865.out 1).trans rfl, (blk_cell BK865.out 2).trans rfl, (blk_cell BK865.out 3).trans rfl, (blk_cell BK867.out 0).trans rfl, (blk_cell BK867.out 1).trans rfl, (blk_cell BK867.out 2).trans rfl⟩ (fun hHeld => ?_); refine with_tabW spec_GoodCampus.tab4 spec_GoodCampus.bits4 (fun HT_ HW_ => ?_)
       generalize w35.drew = w36 at BK865 BK867 HB hHeld ⊢
       refine tk_ 0 13 (bs 20 1) HT_ HW_ hHeld ?_
       refine tk_ 1 14 (bs 20 3) HT_ HW_ hHeld ?_
       refine one_ (i := 2) (N := some 15) (bs 20 7) rfl rfl (one_of HT_.out (by kernel_rfl)) (by decide) (fun K hK => ?_)
       refine goes_ Try.func98 (by kernel_rfl) rfl #[.agg #[.int .i64 a0_0, .slice A0_1 l0_1.length c0_1, .slice A0_2 l0_2.length c0_2, .slice (some ad866) l0_3.length c0_3], .agg #[.int .i64 ((rd_T118 l0_3 x8_1).f0), .int .i64 ((rd_T118 l0_3 x8_1).f1), .slice A866_2 ((rd_T118 l0_3 x8_1).f2).length c866_2]] (by rfl) rfl rfl (by (try simp only [List.map_toArray, List.map_cons, List.map_nil]); first | done | rfl | (simp only [List.length_drop, List.length_take]; rfl)) ?_
       with_reducible refine (spec_l17Place.calls k1 a0_0 _ _ l0_1 _ _ l0_2 _ _ l0_3 ((rd_T118 l0_3 x8_1).f0) ((rd_T118 l0_3 x8_1).f1) _ _ ((rd_T118 l0_3 x8_1).f2) false _ ?side1 ?side2 ?side3 ?side4 ?side5 ?side6 ?side7 ?side8 A7.out).mono ?_
       (case side1 => repeat (first | exact (Kd.C_below HR0_1.out HB.out) | (with_reducible refine Kd.C_alloc ?_ _) | (with_reducible refine Kd.C_drewN ?_ _) | (with_reducible refine Kd.C_drew ?_)))
       (case side2 => exact HC0_1.out)
       (case side3 => repeat (first | exact (Kd.C_below HR0_2.out HB.out) | (with_reducible refine Kd.C_alloc ?_ _) | (with_reducible refine Kd.C_drewN ?_ _) | (with_reducible refine Kd.C_drew ?_)))
       (case side4 => exact HC0_2.out)
       (case side5 => repeat (first | exact (Kd.C_below HR0_3.out HB.out) | (with_reducible refine Kd.C_alloc ?_ _) | (with_reducible refine Kd.C_drewN ?_ _) | (with_reducible refine Kd.C_drew ?_)))
       (case side6 => exact HC0_3.out)
       (case side7 => repeat (first | exact (Kd.C_below HR866_2.out HB.out) | (with_reducible refine Kd.C_alloc ?_ _) | (with_reducible refine Kd.C_drewN ?_ _) | (with_reducible refine Kd.C_drew ?_)))
       (case side8 => exact HC866_2.out)
       rintro e w37 ⟨rfl, hb⟩
       refine ⟨_, rfl, ?_⟩
       have n0_ := Aside0.mk (blk_below (g := gb865) (o := .cells #[.int .i64 a0_0, .slice A0_1 l0_1.length c0_1, .slice A0_2 l0_2.length c0_2, .slice (some ad866) l0_3.length c0_3] 61 (0, 0)) (by (with_reducible repeat (first | refine blk_drewN ?_ _ | refine blk_drew ?_ | refine blk_alloc ?_ _)); exact BK865.out) hb)
       have n1_ := Aside0.mk (blk_below (g := gb867) (o := .cells #[.int .i64 ((rd_T118 l0_3 x8_1).f0), .int .i64 ((rd_T118 l0_3 x8_1).f1), .slice A866_2 ((rd_T118 l0_3 x8_1).f2).length c866_2] 118 (0, 0)) (by (with_reducible repeat (first | refine blk_drewN ?_ _ | refine blk_drew ?_ | refine blk_alloc ?_ _)); exact BK867.out) hb)
       have n2_ := Aside0.mk (below_step (by repeat (first | (with_reducible first | exact HB.out | apply below_alloc | apply pw_below_drewN | apply below_drew1 | refine below_set ?_ GE865.out | refine below_set ?_ GE867.out) | exact HB.out)) hb)
       clear BK865
       clear BK867
       clear HB
       have BK865 := n0_
       have BK867 := n1_
       have HB := n2_
       clear n0_ n1_ n2_
       (try clear hb)
       (try clear hb2)
       (try clear hk)
       (try clear hi)
       refine hK.out _ _ ⟨(blk_cell BK865.out 0).trans rfl, (blk_cell BK865.out 1).trans rfl, (blk_cell BK865.out 2).trans rfl, (blk_cell BK865.out 3).trans rfl, (blk_cell BK867.out 0).trans rfl, (blk_cell BK867.out 1).trans rfl, (blk_cell BK867.out 2).trans rfl⟩ (fun hHeld => ?_)
       clear hK K
       refine norm_ (a' := ?_) ?_ ?_
       rotate_left
       ·show Act.put _ (some 15) _ = _
        simp only [Act.put, List.setIfInBounds_toArray, List.set_cons_zero, List.set_cons_succ, i64_w, i32_w]
        rfl
       refine pu_ 3 16 (bs 20 15) HT_ ?_
       refine pu_ 4 17 (bs 20 31) HT_ ?_
       refine pn_ 5 18 (bs 20 63) HT_ ?_
       refine pn_ 6 19 (bs 20 127) HT_ ?_
       refine pn_ 7 20 (bs 20 255) HT_ ?_
       refine pn_ 8 21 (bs 20 511) HT_ ?_
       refine pn_ 9 22 (bs 20 1023) HT_ ?_
       refine pn_ 10 23 (bs 20 2047) HT_ ?_
       refine pn_ 11 24 (bs 20 4095) HT_ ?_
       refine pn_ 12 25 (bs 20 8191) HT_ ?_
       refine pn_ 13 26 (bs 20 16383) HT_ ?_
       refine pn_ 14 27 (bs 20 32767) HT_ ?_
       refine pn_ 15 28 (bs 20 65535) HT_ ?_
       refine pn_ 16 29 (bs 20 131071) HT_ ?_
       refine pn_ 17 30 (bs 20 262143) HT_ ?_
       refine pn_ 18 31 (bs 20 524287) HT_ ?_
       refine pu_ 19 32 (bs 20 1048575) HT_ ?_
       refine done_ (done_of HT_.out (by kernel_rfl)) ?_
       try go_wp2
       go_ret
       exact ⟨by first | rfl | (simp [errW_none, errW_some] <;> rfl) | (simp [*, errW_none, errW_some] <;> rfl), by repeat (first | (with_reducible first | exact HB.out | apply below_alloc | apply pw_below_drewN | apply below_drew1 | refine below_set ?_ GE865.out | refine below_set ?_ GE867.out) | exact HB.out)⟩
     ·rw [if_neg c6] at H
      exact absurd H (by simp)
    ·rw [if_neg c5] at H
     exact absurd H (by simp)
   ·rw [if_neg c4] at H
    have c4b0 : decide (x8_1 < (l0_3.length : Int)) = false := decide_eq_false c4
    clear c4
    replace H := Option.bind_eq_some_iff.mp H
    obtain ⟨t870, A380, H⟩ := H
    replace H : (if t870 = true then ((spec_l1Rising.f k1 l0_2 0 (wrap64 ((l0_1.length : Int) - 1))).bind fun t871 => (if t871 = true then (some (decide ((l0_3.length : Int) ≤ 12))) else (some false))) else (some false)) = some r := H
    have A38 := Aside0.mk A380
    clear A380
    by_cases c39 : t870 = true
    ·subst c39
     have H1 : ((spec_l1Rising.f k1 l0_2 0 (wrap64 ((l0_1.length : Int) - 1))).bind fun t871 => (if t871 = true then (some (decide ((l0_3.length : Int) ≤ 12))) else (some false))) = some r := by rw [if_pos rfl] at H; exact H
     clear H
     have H := H1
     clear H1
     replace H := Option.bind_eq_some_iff.mp H
     obtain ⟨t871, A400, H⟩ := H
     replace H : (if t871 = true then (some (decide ((l0_3.length : Int) ≤ 12))) else (some false)) = some r := H
     have A40 := Aside0.mk A400
     clear A400
     by_cases c41 : t871 = true
     ·subst c41
      have H1 : (some (decide ((l0_3.length : Int) ≤ 12))) = some r := by rw [if_pos rfl] at H; exact H
      clear H
      have H := H1
      clear H1
      obtain rfl := Option.some.inj H
      have hcz42_0 : wr.cell? ⟨gb865, 0, none⟩ = some (.int .i64 a0_0) := (blk_cell BK865.out 0).trans rfl
      have hcz42_1 : wr.cell? ⟨gb865, 1, none⟩ = some (.slice A0_1 l0_1.length c0_1) := (blk_cell BK865.out 1).trans rfl
      have hcz42_2 : wr.cell? ⟨gb865, 2, none⟩ = some (.slice A0_2 l0_2.length c0_2) := (blk_cell BK865.out 2).trans rfl
      have hcz42_3 : wr.cell? ⟨gb865, 3, none⟩ = some (.slice A0_3 l0_3.length c0_3) := (blk_cell BK865.out 3).trans rfl
      have hfz42_0 := blk_frozen BK865.out 0
      have hfz42_1 := blk_frozen BK865.out 1
      have hfz42_2 := blk_frozen BK865.out 2
      have hfz42_3 := blk_frozen BK865.out 3
      go_wp2_with (first | ((with_reducible refine gate_callee (f := 62) rfl ?_); refine goesL_ (some 38) rfl rfl Try.func62 (by kernel_rfl) rfl #[.int .i64 a0_0, .slice A0_1 l0_1.length c0_1] rfl (by (try simp only [List.map_toArray, List.map_cons, List.map_nil]); first | done | rfl | (simp only [List.length_drop, List.length_take]; rfl)) ?_; (with_reducible refine (spec_GoodEdges.calls k1 a0_0 _ _ l0_1 true _ ?side1 ?side2 A38.out).mono ?_); (case side1 => repeat (first | exact (Kd.C_below HR0_1.out HB.out) | (with_reducible refine Kd.C_alloc ?_ _) | (with_reducible refine Kd.C_drewN ?_ _) | (with_reducible refine Kd.C_drew ?_))); (case side2 => exact HC0_1.out); rintro e w43 ⟨rfl, hb⟩; refine ⟨_, rfl, ?_⟩; have n0_ := Aside0.mk (blk_below (g := gb865) (o := .cells #[.int .i64 a0_0, .slice A0_1 l0_1.length c0_1, .slice A0_2 l0_2.length c0_2, .slice A0_3 l0_3.length c0_3] 61 (0, 0)) (by (with_reducible repeat (first | refine blk_drewN ?_ _ | refine blk_drew ?_ | refine blk_alloc ?_ _)); exact BK865.out) hb); have n1_ := Aside0.mk (below_step (by repeat (first | (with_reducible first | exact HB.out | apply below_alloc | apply pw_below_drewN | apply below_drew1 | refine below_set ?_ GE865.out) | exact HB.out)) hb); clear BK865; clear HB; have BK865 := n0_; have HB := n1_; clear n0_ n1_; (try clear hb); (try clear hb2); (try clear hk); (try clear hi); have hcz44_0 : w43.cell? ⟨gb865, 0, none⟩ = some (.int .i64 a0_0) := (blk_cell BK865.out 0).trans rfl; have hcz44_1 : w43.cell? ⟨gb865, 1, none⟩ = some (.slice A0_1 l0_1.length c0_1) := (blk_cell BK865.out 1).trans rfl; have hcz44_2 : w43.cell? ⟨gb865, 2, none⟩ = some (.slice A0_2 l0_2.length c0_2) := (blk_cell BK865.out 2).trans rfl; have hcz44_3 : w43.cell? ⟨gb865, 3, none⟩ = some (.slice A0_3 l0_3.length c0_3) := (blk_cell BK865.out 3).trans rfl; have hfz44_0 := blk_frozen BK865.out 0; have hfz44_1 := blk_frozen BK865.out 1; have hfz44_2 := blk_frozen BK865.out 2; have hfz44_3 := blk_frozen BK865.out 3) | (go_at_call 63; (with_reducible refine (spec_l1Rising.calls k1 _ _ l0_2 0 (wrap64 ((l0_1.length : Int) - 1)) true _ ?side1 ?side2 A40.out).mono ?_); (case side1 => repeat (first | exact (Kd.C_below HR0_2.out HB.out) | (with_reducible refine Kd.C_alloc ?_ _) | (with_reducible refine Kd.C_drewN ?_ _) | (with_reducible refine Kd.C_drew ?_))); (case side2 => exact HC0_2.out); rintro e w' ⟨rfl, ⟨nd, rfl⟩⟩))
      go_ret
      exact ⟨by first | rfl | (simp [errW_none, errW_some] <;> rfl) | (simp [*, errW_none, errW_some] <;> rfl), by repeat (first | (with_reducible first | exact HB.out | apply below_alloc | apply pw_below_drewN | apply below_drew1 | refine below_set ?_ GE865.out) | exact HB.out)⟩
     ·replace c41 := Bool.eq_false_iff.mpr c41
      subst c41
      have H1 : (some false) = some r := by rw [if_neg (show ¬ (false = true) by decide)] at H; exact H
      clear H
      have H := H1
      clear H1
      obtain rfl := Option.some.inj H
      have hcz45_0 : wr.cell? ⟨gb865, 0, none⟩ = some (.int .i64 a0_0) := (blk_cell BK865.out 0).trans rfl
      have hcz45_1 : wr.cell? ⟨gb865, 1, none⟩ = some (.slice A0_1 l0_1.length c0_1) := (blk_cell BK865.out 1).trans rfl
      have hcz45_2 : wr.cell? ⟨gb865, 2, none⟩ = some (.slice A0_2 l0_2.length c0_2) := (blk_cell BK865.out 2).trans rfl
      have hcz45_3 : wr.cell? ⟨gb865, 3, none⟩ = some (.slice A0_3 l0_3.length c0_3) := (blk_cell BK865.out 3).trans rfl
      have hfz45_0 := blk_frozen BK865.out 0
      have hfz45_1 := blk_frozen BK865.out 1
      have hfz45_2 := blk_frozen BK865.out 2
      have hfz45_3 := blk_frozen BK865.out 3
      go_wp2_with (first | ((with_reducible refine gate_callee (f := 62) rfl ?_); refine goesL_ (some 38) rfl rfl Try.func62 (by kernel_rfl) rfl #[.int .i64 a0_0, .slice A0_1 l0_1.length c0_1] rfl (by (try simp only [List.map_toArray, List.map_cons, List.map_nil]); first | done | rfl | (simp only [List.length_drop, List.length_take]; rfl)) ?_; (with_reducible refine (spec_GoodEdges.calls k1 a0_0 _ _ l0_1 true _ ?side1 ?side2 A38.out).mono ?_); (case side1 => repeat (first | exact (Kd.C_below HR0_1.out HB.out) | (with_reducible refine Kd.C_alloc ?_ _) | (with_reducible refine Kd.C_drewN ?_ _) | (with_reducible refine Kd.C_drew ?_))); (case side2 => exact HC0_1.out); rintro e w46 ⟨rfl, hb⟩; refine ⟨_, rfl, ?_⟩; have n0_ := Aside0.mk (blk_below (g := gb865) (o := .cells #[.int .i64 a0_0, .slice A0_1 l0_1.length c0_1, .slice A0_2 l0_2.length c0_2, .slice A0_3 l0_3.length c0_3] 61 (0, 0)) (by (with_reducible repeat (first | refine blk_drewN ?_ _ | refine blk_drew ?_ | refine blk_alloc ?_ _)); exact BK865.out) hb); have n1_ := Aside0.mk (below_step (by repeat (first | (with_reducible first | exact HB.out | apply below_alloc | apply pw_below_drewN | apply below_drew1 | refine below_set ?_ GE865.out) | exact HB.out)) hb); clear BK865; clear HB; have BK865 := n0_; have HB := n1_; clear n0_ n1_; (try clear hb); (try clear hb2); (try clear hk); (try clear hi); have hcz47_0 : w46.cell? ⟨gb865, 0, none⟩ = some (.int .i64 a0_0) := (blk_cell BK865.out 0).trans rfl; have hcz47_1 : w46.cell? ⟨gb865, 1, none⟩ = some (.slice A0_1 l0_1.length c0_1) := (blk_cell BK865.out 1).trans rfl; have hcz47_2 : w46.cell? ⟨gb865, 2, none⟩ = some (.slice A0_2 l0_2.length c0_2) := (blk_cell BK865.out 2).trans rfl; have hcz47_3 : w46.cell? ⟨gb865, 3, none⟩ = some (.slice A0_3 l0_3.length c0_3) := (blk_cell BK865.out 3).trans rfl; have hfz47_0 := blk_frozen BK865.out 0; have hfz47_1 := blk_frozen BK865.out 1; have hfz47_2 := blk_frozen BK865.out 2; have hfz47_3 := blk_frozen BK865.out 3) | (go_at_call 63; (with_reducible refine (spec_l1Rising.calls k1 _ _ l0_2 0 (wrap64 ((l0_1.length : Int) - 1)) false _ ?side1 ?side2 A40.out).mono ?_); (case side1 => repeat (first | exact (Kd.C_below HR0_2.out HB.out) | (with_reducible refine Kd.C_alloc ?_ _) | (with_reducible refine Kd.C_drewN ?_ _) | (with_reducible refine Kd.C_drew ?_))); (case side2 => exact HC0_2.out); rintro e w' ⟨rfl, ⟨nd, rfl⟩⟩))
      go_ret
      exact ⟨by first | rfl | (simp [errW_none, errW_some] <;> rfl) | (simp [*, errW_none, errW_some] <;> rfl), by repeat (first | (with_reducible first | exact HB.out | apply below_alloc | apply pw_below_drewN | apply below_drew1 | refine below_set ?_ GE865.out) | exact HB.out)⟩
    ·replace c39 := Bool.eq_false_iff.mpr c39
     subst c39
     have H1 : (some false) = some r := by rw [if_neg (show ¬ (false = true) by decide)] at H; exact H
     clear H
     have H := H1
     clear H1
     obtain rfl := Option.some.inj H
     have hcz48_0 : wr.cell? ⟨gb865, 0, none⟩ = some (.int .i64 a0_0) := (blk_cell BK865.out 0).trans rfl
     have hcz48_1 : wr.cell? ⟨gb865, 1, none⟩ = some (.slice A0_1 l0_1.length c0_1) := (blk_cell BK865.out 1).trans rfl
     have hcz48_2 : wr.cell? ⟨gb865, 2, none⟩ = some (.slice A0_2 l0_2.length c0_2) := (blk_cell BK865.out 2).trans rfl
     have hcz48_3 : wr.cell? ⟨gb865, 3, none⟩ = some (.slice A0_3 l0_3.length c0_3) := (blk_cell BK865.out 3).trans rfl
     have hfz48_0 := blk_frozen BK865.out 0
     have hfz48_1 := blk_frozen BK865.out 1
     have hfz48_2 := blk_frozen BK865.out 2
     have hfz48_3 := blk_frozen BK865.out 3
     go_wp2_with (first | ((with_reducible refine gate_callee (f := 62) rfl ?_); refine goesL_ (some 38) rfl rfl Try.func62 (by kernel_rfl) rfl #[.int .i64 a0_0, .slice A0_1 l0_1.length c0_1] rfl (by (try simp only [List.map_toArray, List.map_cons, List.map_nil]); first | done | rfl | (simp only [List.length_drop, List.length_take]; rfl)) ?_; (with_reducible refine (spec_GoodEdges.calls k1 a0_0 _ _ l0_1 false _ ?side1 ?side2 A38.out).mono ?_); (case side1 => repeat (first | exact (Kd.C_below HR0_1.out HB.out) | (with_reducible refine Kd.C_alloc ?_ _) | (with_reducible refine Kd.C_drewN ?_ _) | (with_reducible refine Kd.C_drew ?_))); (case side2 => exact HC0_1.out); rintro e w49 ⟨rfl, hb⟩; refine ⟨_, rfl, ?_⟩; have n0_ := Aside0.mk (blk_below (g := gb865) (o := .cells #[.int .i64 a0_0, .slice A0_1 l0_1.length c0_1, .slice A0_2 l0_2.length c0_2, .slice A0_3 l0_3.length c0_3] 61 (0, 0)) (by (with_reducible repeat (first | refine blk_drewN ?_ _ | refine blk_drew ?_ | refine blk_alloc ?_ _)); exact BK865.out) hb); have n1_ := Aside0.mk (below_step (by repeat (first | (with_reducible first | exact HB.out | apply below_alloc | apply pw_below_drewN | apply below_drew1 | refine below_set ?_ GE865.out) | exact HB.out)) hb); clear BK865; clear HB; have BK865 := n0_; have HB := n1_; clear n0_ n1_; (try clear hb); (try clear hb2); (try clear hk); (try clear hi)))
     go_ret
     exact ⟨by first | rfl | (simp [errW_none, errW_some] <;> rfl) | (simp [*, errW_none, errW_some] <;> rfl), by repeat (first | (with_reducible first | exact HB.out | apply below_alloc | apply pw_below_drewN | apply below_drew1 | refine below_set ?_ GE865.out) | exact HB.out)⟩

def laws_toPlace.f (k : Nat) (a0_0 : Int) (a0_1 : Int) (l0_2 : List Int) : Option (Int × Int × List Int) := (laws_toIntS.f k l0_2).bind fun t875 => (some (a0_0, a0_1, t875))
theorem laws_toPlace.mono : ∀ a0 a1 a2 k, LeO (laws_toPlace.f k a0 a1 a2) (laws_toPlace.f (k + 1) a0 a1 a2) := by
 intro a0 a1 a2 k
 unfold laws_toPlace.f
 repeat' first
   | (with_reducible exact laws_toIntS.mono _ _)
   | (with_reducible exact LeO.refl _)
   | (with_reducible exact LeO.none _)
   | (with_reducible refine LeO.ite ?_ ?_)
   | (with_reducible refine LeO.bind ?_ (fun _ => ?_))
   | exact laws_toIntS.mono _ _
   | exact LeO.none _
   | refine LeO.ite ?_ ?_
   | refine LeO.bind ?_ (fun _ => ?_)
set_option maxHeartbeats 8000000 in
set_option maxRecDepth 100000 in
theorem laws_toPlace.calls (k : Nat) (a0_0 : Int) (a0_1 : Int) (A0_2 : Option Addr) (c0_2 : Nat) (l0_2 : List Int) (r1 : Int) (r2 : Int) (r3 : List Int) (w : World) (hr0_2 : Kd.C (Kd.int .i64) w A0_2 l0_2.length l0_2) (hc0_2 : l0_2.length ≤ c0_2) (h : laws_toPlace.f k a0_0 a0_1 l0_2 = some (r1, r2, r3)) :
  Calls Try.prog 133 #[.agg #[.int .i64 a0_0, .int .i64 a0_1, .slice A0_2 l0_2.length c0_2]] w fun e w' => ∃ v2_ : Value, e = .returned (.agg #[.int .i64 r1, .int .i64 r2, v2_]) ∧ Kd.R (Kd.int .i64) 3 w' w.heap.size (fun _ => True) v2_ r3 ∧ Below w.heap.size w w' := by
 have hu141 := Try.underlying141
 have hu118 := Try.underlying118
 have HR0_2 := Aside0.mk hr0_2
 have HC0_2 := Aside0.mk hc0_2
 clear hr0_2 hc0_2
 have HB := Aside0.mk (Below.refl w.heap.size w)
 have H : ((laws_toIntS.f k l0_2).bind fun t875 => (some (a0_0, a0_1, t875))) = some (r1, r2, r3) := h
 clear h
 replace H := Option.bind_eq_some_iff.mp H
 obtain ⟨t875, A20, H⟩ := H
 replace H : (some (a0_0, a0_1, t875)) = some (r1, r2, r3) := H
 have A2 := Aside0.mk A20
 clear A20
 simp only [Option.some.injEq, Prod.mk.injEq] at H
 obtain ⟨rfl, rfl, rfl⟩ := H
 go_enter Try.func133, Try.ntmps133
 go_wp2_with (first | ((with_reducible refine gate_dst (N := 1) rfl ?_); refine box_event ?hg (N := 1) ?hd (cs := #[.int .i64 a0_0, .int .i64 a0_1, .slice A0_2 l0_2.length c0_2]) (t := 141) ?hr ?_; (case hd => rfl); (case hg => rfl); (case hr => first | (go_simp; done) | (go_simp; rfl)); intro gb872 hg w3 hbox hb; have n0_ := Aside0.mk (below_step (by repeat (first | (with_reducible first | exact HB.out | apply below_alloc | apply pw_below_drewN | apply below_drew1) | exact HB.out)) hb); have n1_ := Aside0.mk (hbox); have n2_ := Aside0.mk ((by rw [hg]; exact (below_size (by repeat (first | (with_reducible first | exact HB.out | apply below_alloc | apply pw_below_drewN | apply below_drew1) | exact HB.out))) : w.heap.size ≤ gb872)); have n3_ := Aside0.mk ((by rw [hg]; exact (below_size (by repeat (first | (with_reducible first | exact HB.out | apply below_alloc | apply pw_below_drewN | apply below_drew1) | exact HB.out))) : w.heap.size ≤ gb872)); clear HB; have HB := n0_; have BK872 := n1_; have GW872 := n2_; have GE872 := n3_; clear n0_ n1_ n2_ n3_; clear hb hbox hg) | ((with_reducible refine gate_dst (N := 2) rfl ?_); refine box_event ?hg (N := 2) ?hd (cs := #[.int .i64 0, .int .i64 0, .slice none 0 0]) (t := 118) ?hr ?_; (case hd => rfl); (case hg => rfl); (case hr => first | (go_simp; done) | (go_simp; rfl)); intro gb873 hg w4 hbox hb; have n0_ := Aside0.mk (blk_below (g := gb872) (o := .cells #[.int .i64 a0_0, .int .i64 a0_1, .slice A0_2 l0_2.length c0_2] 141 (0, 0)) (by (with_reducible repeat (first | refine blk_drewN ?_ _ | refine blk_drew ?_ | refine blk_alloc ?_ _)); exact BK872.out) hb); have n1_ := Aside0.mk (below_step (by repeat (first | (with_reducible first | exact HB.out | apply below_alloc | apply pw_below_drewN | apply below_drew1 | refine below_set ?_ GE872.out) | exact HB.out)) hb); have n2_ := Aside0.mk (hbox); have n3_ := Aside0.mk ((by rw [hg]; exact (below_size (by repeat (first | (with_reducible first | exact HB.out | apply below_alloc | apply pw_below_drewN | apply below_drew1 | refine below_set ?_ GE872.out) | exact HB.out))) : w.heap.size ≤ gb873)); have n4_ := Aside0.mk ((by rw [hg]; exact (below_size (by repeat (first | (with_reducible first | exact HB.out | apply below_alloc | apply pw_below_drewN | apply below_drew1 | refine below_set ?_ GE872.out) | exact HB.out))) : w.heap.size ≤ gb873)); have n5_ := Aside0.mk ((by rw [hg]; exact Nat.ne_of_lt (blk_lt (g := gb872) (o := .cells #[.int .i64 a0_0, .int .i64 a0_1, .slice A0_2 l0_2.length c0_2] 141 (0, 0)) (by (with_reducible repeat (first | refine blk_drewN ?_ _ | refine blk_drew ?_ | refine blk_alloc ?_ _)); exact BK872.out)) : gb872 ≠ gb873)); have n6_ := Aside0.mk ((by rw [hg]; exact Nat.ne_of_gt (blk_lt (g := gb872) (o := .cells #[.int .i64 a0_0, .int .i64 a0_1, .slice A0_2 l0_2.length c0_2] 141 (0, 0)) (by (with_reducible repeat (first | refine blk_drewN ?_ _ | refine blk_drew ?_ | refine blk_alloc ?_ _)); exact BK872.out)) : gb873 ≠ gb872)); clear BK872; clear HB; have BK872 := n0_; have HB := n1_; have BK873 := n2_; have GW873 := n3_; have GE873 := n4_; have NB872_873 := n5_; have NB873_872 := n6_; clear n0_ n1_ n2_ n3_ n4_ n5_ n6_; clear hb hbox hg) | ((with_reducible refine gate_dst (N := 3) rfl ?_); refine box_event ?hg (N := 3) ?hd (cs := #[.int .i64 0, .int .i64 0, .slice none 0 0]) (t := 118) ?hr ?_; (case hd => rfl); (case hg => rfl); (case hr => first | (go_simp; done) | (go_simp; rfl)); intro gb874 hg w5 hbox hb; have n0_ := Aside0.mk (blk_below (g := gb872) (o := .cells #[.int .i64 a0_0, .int .i64 a0_1, .slice A0_2 l0_2.length c0_2] 141 (0, 0)) (by (with_reducible repeat (first | refine blk_drewN ?_ _ | refine blk_drew ?_ | refine blk_alloc ?_ _)); exact BK872.out) hb); have n1_ := Aside0.mk (blk_below (g := gb873) (o := .cells #[.int .i64 0, .int .i64 0, .slice none 0 0] 118 (0, 0)) (by (with_reducible repeat (first | refine blk_drewN ?_ _ | refine blk_drew ?_ | refine blk_alloc ?_ _)); exact BK873.out) hb); have n2_ := Aside0.mk (below_step (by repeat (first | (with_reducible first | exact HB.out | apply below_alloc | apply pw_below_drewN | apply below_drew1 | refine below_set ?_ GE872.out | refine below_set ?_ GE873.out) | exact HB.out)) hb); have n3_ := Aside0.mk (hbox); have n4_ := Aside0.mk ((by rw [hg]; exact (below_size (by repeat (first | (with_reducible first | exact HB.out | apply below_alloc | apply pw_below_drewN | apply below_drew1 | refine below_set ?_ GE872.out | refine below_set ?_ GE873.out) | exact HB.out))) : w.heap.size ≤ gb874)); have n5_ := Aside0.mk ((by rw [hg]; exact (below_size (by repeat (first | (with_reducible first | exact HB.out | apply below_alloc | apply pw_below_drewN | apply below_drew1 | refine below_set ?_ GE872.out | refine below_set ?_ GE873.out) | exact HB.out))) : w.heap.size ≤ gb874)); have n6_ := Aside0.mk ((by rw [hg]; exact Nat.ne_of_lt (blk_lt (g := gb872) (o := .cells #[.int .i64 a0_0, .int .i64 a0_1, .slice A0_2 l0_2.length c0_2] 141 (0, 0)) (by (with_reducible repeat (first | refine blk_drewN ?_ _ | refine blk_drew ?_ | refine blk_alloc ?_ _)); exact BK872.out)) : gb872 ≠ gb874)); have n7_ := Aside0.mk ((by rw [hg]; exact Nat.ne_of_gt (blk_lt (g := gb872) (o := .cells #[.int .i64 a0_0, .int .i64 a0_1, .slice A0_2 l0_2.length c0_2] 141 (0, 0)) (by (with_reducible repeat (first | refine blk_drewN ?_ _ | refine blk_drew ?_ | refine blk_alloc ?_ _)); exact BK872.out)) : gb874 ≠ gb872)); have n8_ := Aside0.mk ((by rw [hg]; exact Nat.ne_of_lt (blk_lt (g := gb873) (o := .cells #[.int .i64 0, .int .i64 0, .slice none 0 0] 118 (0, 0)) (by (with_reducible repeat (first | refine blk_drewN ?_ _ | refine blk_drew ?_ | refine blk_alloc ?_ _)); exact BK873.out)) : gb873 ≠ gb874)); have n9_ := Aside0.mk ((by rw [hg]; exact Nat.ne_of_gt (blk_lt (g := gb873) (o := .cells #[.int .i64 0, .int .i64 0, .slice none 0 0] 118 (0, 0)) (by (with_reducible repeat (first | refine blk_drewN ?_ _ | refine blk_drew ?_ | refine blk_alloc ?_ _)); exact BK873.out)) : gb874 ≠ gb873)); clear BK872; clear BK873; clear HB; have BK872 := n0_; have BK873 := n1_; have HB := n2_; have BK874 := n3_; have GW874 := n4_; have GE874 := n5_; have NB872_874 := n6_; have NB874_872 := n7_; have NB873_874 := n8_; have NB874_873 := n9_; clear n0_ n1_ n2_ n3_ n4_ n5_ n6_ n7_ n8_ n9_; clear hb hbox hg; have hnb6 := NB872_873.out; have hnc6 := NB873_872.out; have hnb7 := NB872_874.out; have hnc7 := NB874_872.out; have hcz8_0 : w5.cell? ⟨gb872, 0, none⟩ = some (.int .i64 a0_0) := (blk_cell BK872.out 0).trans rfl; have hcz8_1 : w5.cell? ⟨gb872, 1, none⟩ = some (.int .i64 a0_1) := (blk_cell BK872.out 1).trans rfl; have hcz8_2 : w5.cell? ⟨gb872, 2, none⟩ = some (.slice A0_2 l0_2.length c0_2) := (blk_cell BK872.out 2).trans rfl; have hfz8_0 := blk_frozen BK872.out 0; have hfz8_1 := blk_frozen BK872.out 1; have hfz8_2 := blk_frozen BK872.out 2; have hnb9 := NB874_873.out; have hnc9 := NB873_874.out; have hcz10_0 : w5.cell? ⟨gb874, 0, none⟩ = some (.int .i64 0) := (blk_cell BK874.out 0).trans rfl; have hcz10_1 : w5.cell? ⟨gb874, 1, none⟩ = some (.int .i64 0) := (blk_cell BK874.out 1).trans rfl; have hcz10_2 : w5.cell? ⟨gb874, 2, none⟩ = some (.slice none 0 0) := (blk_cell BK874.out 2).trans rfl; have hfz10_0 := blk_frozen BK874.out 0; have hfz10_1 := blk_frozen BK874.out 1; have hfz10_2 := blk_frozen BK874.out 2) | ((with_reducible refine gate_callee (f := 18) rfl ?_); refine goesL_ (some 12) rfl rfl Try.func18 (by kernel_rfl) rfl #[.slice A0_2 l0_2.length c0_2] rfl (by (try simp only [List.map_toArray, List.map_cons, List.map_nil]); first | done | rfl | (simp only [List.length_drop, List.length_take]; rfl)) ?_; (with_reducible refine (laws_toIntS.calls k _ _ l0_2 t875 _ ?side1 ?side2 A2.out).mono ?_); (case side1 => exact Kd.C_below HR0_2.out (by repeat (first | (with_reducible first | exact HB.out | apply below_alloc | apply pw_below_drewN | apply below_drew1 | refine below_set ?_ GE872.out | refine below_set ?_ GE873.out | refine below_set ?_ GE874.out) | exact HB.out))); (case side2 => exact HC0_2.out); rintro e w11 ⟨v876, rfl, ho0, hb⟩; refine ⟨_, rfl, ?_⟩; have n0_ := Aside0.mk (Kd.R_lower ho0 (below_size (by repeat (first | (with_reducible first | exact HB.out | apply below_alloc | apply pw_below_drewN | apply below_drew1 | refine below_set ?_ GE872.out | refine below_set ?_ GE873.out | refine below_set ?_ GE874.out) | exact HB.out)))); have n1_ := Aside0.mk (blk_below (g := gb872) (o := .cells #[.int .i64 a0_0, .int .i64 a0_1, .slice A0_2 l0_2.length c0_2] 141 (0, 0)) (by (with_reducible repeat (first | refine blk_drewN ?_ _ | refine blk_drew ?_ | refine blk_alloc ?_ _)); refine blk_far ?_ NB872_874.out _; (with_reducible repeat (first | refine blk_drewN ?_ _ | refine blk_drew ?_ | refine blk_alloc ?_ _)); refine blk_far ?_ NB872_874.out _; (with_reducible repeat (first | refine blk_drewN ?_ _ | refine blk_drew ?_ | refine blk_alloc ?_ _)); exact BK872.out) hb); have n2_ := Aside0.mk (blk_below (g := gb873) (o := .cells #[.int .i64 0, .int .i64 0, .slice none 0 0] 118 (0, 0)) (by (with_reducible repeat (first | refine blk_drewN ?_ _ | refine blk_drew ?_ | refine blk_alloc ?_ _)); refine blk_far ?_ NB873_874.out _; (with_reducible repeat (first | refine blk_drewN ?_ _ | refine blk_drew ?_ | refine blk_alloc ?_ _)); refine blk_far ?_ NB873_874.out _; (with_reducible repeat (first | refine blk_drewN ?_ _ | refine blk_drew ?_ | refine blk_alloc ?_ _)); exact BK873.out) hb); have n3_ := Aside0.mk (blk_below (g := gb874) (o := .cells #[.int .i64 a0_0, .int .i64 a0_1, .slice none 0 0] 118 (0, 0)) (by (with_reducible repeat (first | refine blk_drewN ?_ _ | refine blk_drew ?_ | refine blk_alloc ?_ _)); refine blk_put (cs := #[.int .i64 a0_0, .int .i64 0, .slice none 0 0]) ?_ 1 _ rfl; (with_reducible repeat (first | refine blk_drewN ?_ _ | refine blk_drew ?_ | refine blk_alloc ?_ _)); refine blk_put (cs := #[.int .i64 0, .int .i64 0, .slice none 0 0]) ?_ 0 _ rfl; (with_reducible repeat (first | refine blk_drewN ?_ _ | refine blk_drew ?_ | refine blk_alloc ?_ _)); exact BK874.out) hb); have n4_ := Aside0.mk (below_step (by repeat (first | (with_reducible first | exact HB.out | apply below_alloc | apply pw_below_drewN | apply below_drew1 | refine below_set ?_ GE872.out | refine below_set ?_ GE873.out | refine below_set ?_ GE874.out) | exact HB.out)) hb); clear BK872; clear BK873; clear BK874; clear HB; have HO877 := n0_; have BK872 := n1_; have BK873 := n2_; have BK874 := n3_; have HB := n4_; clear n0_ n1_ n2_ n3_ n4_; (try clear hb); (try clear hb2); (try clear hk); (try clear hi); (try clear ho0); obtain ⟨Ao12, co12, eo12⟩ := Kd.R_slice HO877.out; subst eo12; have hcz13_0 : w11.cell? ⟨gb874, 0, none⟩ = some (.int .i64 a0_0) := (blk_cell BK874.out 0).trans rfl; have hcz13_1 : w11.cell? ⟨gb874, 1, none⟩ = some (.int .i64 a0_1) := (blk_cell BK874.out 1).trans rfl; have hcz13_2 : w11.cell? ⟨gb874, 2, none⟩ = some (.slice none 0 0) := (blk_cell BK874.out 2).trans rfl; have hfz13_0 := blk_frozen BK874.out 0; have hfz13_1 := blk_frozen BK874.out 1; have hfz13_2 := blk_frozen BK874.out 2; have hcz14_0 : w11.cell? ⟨gb873, 0, none⟩ = some (.int .i64 0) := (blk_cell BK873.out 0).trans rfl; have hcz14_1 : w11.cell? ⟨gb873, 1, none⟩ = some (.int .i64 0) := (blk_cell BK873.out 1).trans rfl; have hcz14_2 : w11.cell? ⟨gb873, 2, none⟩ = some (.slice none 0 0) := (blk_cell BK873.out 2).trans rfl; have hfz14_0 := blk_frozen BK873.out 0; have hfz14_1 := blk_frozen BK873.out 1; have hfz14_2 := blk_frozen BK873.out 2))
 refine bodyPost_ret (results_cell_row rfl _ _ gb873 118 #[.int .i64 a0_0, .int .i64 a0_1, .slice Ao12 t875.length co12] (0, 0) _ rfl (by (with_reducible repeat (first | refine blk_drewN ?_ _ | refine blk_drew ?_ | refine blk_alloc ?_ _)); refine blk_put (cs := #[.int .i64 a0_0, .int .i64 a0_1, .slice none 0 0]) ?_ 2 _ rfl; (with_reducible repeat (first | refine blk_drewN ?_ _ | refine blk_drew ?_ | refine blk_alloc ?_ _)); refine blk_put (cs := #[.int .i64 a0_0, .int .i64 0, .slice none 0 0]) ?_ 1 _ rfl; (with_reducible repeat (first | refine blk_drewN ?_ _ | refine blk_drew ?_ | refine blk_alloc ?_ _)); refine blk_put (cs := #[.int .i64 0, .int .i64 0, .slice none 0 0]) ?_ 0 _ rfl; (with_reducible repeat (first | refine blk_drewN ?_ _ | refine blk_drew ?_ | refine blk_alloc ?_ _)); refine blk_far ?_ NB873_874.out _; (with_reducible repeat (first | refine blk_drewN ?_ _ | refine blk_drew ?_ | refine blk_alloc ?_ _)); exact BK873.out) Try.underlying118 rfl (by kernel_rfl)) rfl ?_
 exact ⟨_, by first | rfl | (simp [errW_none, errW_some] <;> rfl) | (simp [*, errW_none, errW_some] <;> rfl), by (with_reducible repeat (first | apply Kd.R_alloc | apply Kd.R_drewN | apply Kd.R_drew)); exact Kd.R_mono (Kd.R_far (p := ⟨gb873, 2, none⟩) (Kd.R_far (p := ⟨gb873, 1, none⟩) (Kd.R_far (p := ⟨gb873, 0, none⟩) (Kd.R_far (p := ⟨gb874, 2, none⟩) (Kd.R_types (Kd.R_types HO877.out BK874.out (by decide)) BK873.out (by decide)) (fun _ hk => hk.1.2) (.slice Ao12 t875.length co12)) (fun _ hk => hk.2) (.int .i64 a0_0)) (fun _ hk => hk.2) (.int .i64 a0_1)) (fun _ hk => hk.2) (.slice Ao12 t875.length co12)) (fun _ hk => trivial), by repeat (first | (with_reducible first | exact HB.out | apply below_alloc | apply pw_below_drewN | apply below_drew1 | refine below_set ?_ GE872.out | refine below_set ?_ GE873.out | refine below_set ?_ GE874.out) | exact HB.out)⟩

def laws_toPlaceS.l0 : Nat → List (S141) → List (S118) → Int → Option ((List (S118)))
 | 0, _, _, _ => none
 | k + 1, x0, x3, x4 => if x4 < (x0.length : Int) then (if 0 ≤ x4 then ((laws_toPlace.f k ((rd_T141 x0 x4).f0) ((rd_T141 x0 x4).f1) ((rd_T141 x0 x4).f2)).bind fun bt882 => (if x4 < (x3.length : Int) then (laws_toPlaceS.l0 k x0 (x3.set (x4 : Int).toNat (⟨bt882.1, bt882.2.1, bt882.2.2⟩ : S118)) (wrap64 (x4 + 1))) else (none))) else (none)) else (some x3)
def laws_toPlaceS.f (k : Nat) (l0 : List (S141)) : Option ((List (S118))) := if 0 ≤ (l0.length : Int) then (if ((l0.length : Int) : Int).toNat ≤ 7036874417766 then (laws_toPlaceS.l0 k l0 (List.replicate ((l0.length : Int) : Int).toNat z118) 0) else (none)) else (none)
theorem laws_toPlaceS.mono_l : ∀ k, (∀ y0 y1 y2, LeO (laws_toPlaceS.l0 k y0 y1 y2) (laws_toPlaceS.l0 (k + 1) y0 y1 y2))
 | 0 => fun _ _ _ r h => by simp [laws_toPlaceS.l0] at h
 | k + 1 => by
  have ih0 := laws_toPlaceS.mono_l k
  ·intro y0 y1 y2
   unfold laws_toPlaceS.l0
   repeat' first
   | (with_reducible exact ih0 _ _ _)
   | (with_reducible exact laws_toPlace.mono _ _ _ _)
   | (with_reducible exact LeO.refl _)
   | (with_reducible exact LeO.none _)
   | (with_reducible refine LeO.ite ?_ ?_)
   | (with_reducible refine LeO.bind ?_ (fun _ => ?_))
   | exact ih0 _ _ _
   | exact laws_toPlace.mono _ _ _ _
   | exact LeO.none _
   | refine LeO.ite ?_ ?_
   | refine LeO.bind ?_ (fun _ => ?_)
theorem laws_toPlaceS.mono : ∀ a0 k, LeO (laws_toPlaceS.f k a0) (laws_toPlaceS.f (k + 1) a0) := by
 intro a0 k
 have ih0 := laws_toPlaceS.mono_l k
 unfold laws_toPlaceS.f
 repeat' first
   | (with_reducible exact ih0 _ _ _)
   | (with_reducible exact laws_toPlace.mono _ _ _ _)
   | (with_reducible exact LeO.refl _)
   | (with_reducible exact LeO.none _)
   | (with_reducible refine LeO.ite ?_ ?_)
   | (with_reducible refine LeO.bind ?_ (fun _ => ?_))
   | exact ih0 _ _ _
   | exact laws_toPlace.mono _ _ _ _
   | exact LeO.none _
   | refine LeO.ite ?_ ?_
   | refine LeO.bind ?_ (fun _ => ?_)
set_option maxHeartbeats 8000000 in
set_option maxRecDepth 100000 in
theorem laws_toPlaceS.calls (k : Nat) (A0 : Option Addr) (c0 : Nat) (l0 : List (S141)) (r : List (S118)) (w : World) (hr0 : Kd.C k141 w A0 l0.length l0) (hc0 : l0.length ≤ c0) (h : laws_toPlaceS.f k l0 = some r) :
  Calls Try.prog 99 #[.slice A0 l0.length c0] w fun e w' => ∃ v0_ : Value, e = .returned (v0_) ∧ Kd.S k118 118 w' w.heap.size (fun _ => True) v0_ r ∧ Below w.heap.size w w' := by
 have hu141 := Try.underlying141
 have hu118 := Try.underlying118
 have HR0 := Aside0.mk hr0
 have HC0 := Aside0.mk hc0
 clear hr0 hc0
 have HB := Aside0.mk (Below.refl w.heap.size w)
 have H : (if 0 ≤ (l0.length : Int) then (if ((l0.length : Int) : Int).toNat ≤ 7036874417766 then (laws_toPlaceS.l0 k l0 (List.replicate ((l0.length : Int) : Int).toNat z118) 0) else (none)) else (none)) = some r := h
 clear h
 by_cases c2 : 0 ≤ (l0.length : Int)
 ·rw [if_pos c2] at H
  have c2b0 := eq_true c2
  have c2b1 : decide (0 ≤ (l0.length : Int)) = true := decide_eq_true c2
  clear c2
  by_cases c3 : ((l0.length : Int) : Int).toNat ≤ 7036874417766
  ·rw [if_pos c3] at H
   have c3b0 := eq_true c3
   have c3b1 : decide (((l0.length : Int) : Int).toNat ≤ 7036874417766) = true := decide_eq_true c3
   clear c3
   obtain ⟨y878, hy878⟩ : ∃ y_ : List (S118), y_ = (List.replicate ((l0.length : Int) : Int).toNat z118) := ⟨_, rfl⟩
   replace H : (laws_toPlaceS.l0 k l0 y878 0) = some r := by first | (rw [hy878]; with_reducible exact H) | (have H2_ := (Option.bind_some _ _).symm.trans H; rw [hy878]; with_reducible exact H2_) | (have H2_ := (Option.bind_some _ _).symm.trans H; with_reducible exact H2_) | with_reducible exact H | (rw [hy878]; exact H) | exact H
   have Ny878 := Aside0.mk hy878
   clear hy878
   have H' := Aside0.mk H
   clear H
   go_enter Try.func99, Try.ntmps99
   go_wp2_with (first | ((with_reducible refine gate_dst (N := 7) rfl ?_); refine Kd.S_make k118 _ 118 rfl (N := 7) rfl 59 _ _ rfl (l0.length : Int) rfl rfl Try.underlying59 (.agg #[(.int .i64 0), (.int .i64 0), (.slice none 0 0)]) 40 info118 rfl (by decide) (by omega) z118 (ok := fun _ => True) (okp := fun _ => True) (k118_mkM _ _ _ z118 (Kd.R_nil _ _ _ _ _)) (fun _ hk => hk) trivial (of_decide_eq_true (by first | (with_reducible assumption) | assumption)) (Nat.le_trans (Nat.mul_le_mul_right _ (of_decide_eq_true (by first | (with_reducible assumption) | assumption) : (l0.length : Int).toNat ≤ 7036874417766)) (by omega)) (Below.refl _ _) (Nat.le_refl _) ?_; intro v879 w4 ho5 hb hg_ hnew_; clear hg_ hnew_; (first | rw [← Ny878.out] at ho5 | (simp only [Int.reduceToNat] at ho5; rw [← Ny878.out] at ho5)); have n0_ := Aside0.mk (Kd.S_lower ho5 (below_size (by repeat (first | (with_reducible first | exact HB.out | apply below_alloc | apply pw_below_drewN | apply below_drew1) | exact HB.out)))); have n1_ := Aside0.mk (below_step (by repeat (first | (with_reducible first | exact HB.out | apply below_alloc | apply pw_below_drewN | apply below_drew1) | exact HB.out)) hb); clear HB; have HO880 := n0_; have HB := n1_; clear n0_ n1_; clear hb ho5))
   go_loopg [4] k (fun kq v4 w' => ∃ (x3_1 : List (S118)) (x4_1 : Int), v4 = .int .i64 x4_1 ∧ Aside0 (laws_toPlaceS.l0 kq l0 x3_1 x4_1 = some r) ∧ Aside0 (kq ≤ k) ∧ Aside0 (Kd.S k118 118 w' w.heap.size (fun _ => True) v879 x3_1) ∧ Aside0 (Below w.heap.size w w'))
   case atStart => exact ⟨(y878), (0), (by first | rfl | (simp; done) | (simp [*]; done)), H', ⟨Nat.le_refl _⟩, ⟨by (with_reducible repeat (first | apply Kd.S_alloc | apply Kd.S_drewN | apply Kd.S_drew)); exact HO880.out⟩, ⟨by repeat (first | (with_reducible first | exact HB.out | apply below_alloc | apply pw_below_drewN | apply below_drew1) | exact HB.out)⟩⟩
   case round =>
    clear H'
    try clear c2
    try clear c2b0
    try clear c2b1
    try clear p2
    try clear c3
    try clear c3b0
    try clear c3b1
    obtain ⟨x3_1, x4_1, rfl, HA, HK1, HO_3, HB⟩ := hrel
    cases gk with
    | zero => exact absurd HA.out (by simp [laws_toPlaceS.l0])
    | succ k1 =>
     have H := HA.out
     clear HA
     simp only [laws_toPlaceS.l0] at H
     by_cases c6 : x4_1 < (l0.length : Int)
     ·rw [if_pos c6] at H
      have c6b0 : decide (x4_1 < (l0.length : Int)) = true := decide_eq_true c6
      clear c6
      by_cases c7 : 0 ≤ x4_1
      ·rw [if_pos c7] at H
       have c7b0 : decide (0 ≤ x4_1) = true := decide_eq_true c7
       clear c7
       replace H := Option.bind_eq_some_iff.mp H
       obtain ⟨⟨t882, t883, t884⟩, A80, H⟩ := H
       replace H : (if x4_1 < (x3_1.length : Int) then (laws_toPlaceS.l0 k1 l0 (x3_1.set (x4_1 : Int).toNat (⟨t882, t883, t884⟩ : S118)) (wrap64 (x4_1 + 1))) else (none)) = some r := H
       have A8 := Aside0.mk A80
       clear A80
       by_cases c9 : x4_1 < (x3_1.length : Int)
       ·rw [if_pos c9] at H
        have c9b0 : decide (x4_1 < (x3_1.length : Int)) = true := decide_eq_true c9
        clear c9
        obtain ⟨y887, hy887⟩ : ∃ y_ : List (S118), y_ = (x3_1.set (x4_1 : Int).toNat (⟨t882, t883, t884⟩ : S118)) := ⟨_, rfl⟩
        replace H : (laws_toPlaceS.l0 k1 l0 y887 (wrap64 (x4_1 + 1))) = some r := by first | (rw [hy887]; with_reducible exact H) | (have H2_ := (Option.bind_some _ _).symm.trans H; rw [hy887]; with_reducible exact H2_) | (have H2_ := (Option.bind_some _ _).symm.trans H; with_reducible exact H2_) | with_reducible exact H | (rw [hy887]; exact H) | exact H
        have Ny887 := Aside0.mk hy887
        clear hy887
        have H' := Aside0.mk H
        clear H
        have p881 : 0 ≤ (x4_1 : Int) := of_decide_eq_true (by first | (with_reducible assumption) | assumption)
        have q881 : x4_1 < (l0.length : Int) := of_decide_eq_true (by first | (with_reducible assumption) | assumption)
        obtain ⟨ad881, A881_2, c881_2, e881, hx881_0, hx881_1, hx881_2, hl881_2, hi881_2⟩ := at_T141 HR0.out x4_1 p881 q881
        cases e881
        replace hx881_0 := (HB.out.cell (World.block_lt_of_cell? w _ hx881_0)).trans hx881_0
        replace hx881_1 := (HB.out.cell (World.block_lt_of_cell? w _ hx881_1)).trans hx881_1
        replace hx881_2 := (HB.out.cell (World.block_lt_of_cell? w _ hx881_2)).trans hx881_2
        have HR881_2 := Aside0.mk hi881_2
        have HC881_2 := Aside0.mk hl881_2
        clear hi881_2 hl881_2
        replace p881 := eq_true p881
        replace q881 := eq_true q881
        go_wp2_with (first | ((with_reducible refine gate_callee (f := 133) rfl ?_); refine goesL_ (some 20) rfl rfl Try.func133 (by kernel_rfl) rfl #[.agg #[.int .i64 ((rd_T141 l0 x4_1).f0), .int .i64 ((rd_T141 l0 x4_1).f1), .slice A881_2 ((rd_T141 l0 x4_1).f2).length c881_2]] rfl (by (try simp only [List.map_toArray, List.map_cons, List.map_nil]); first | done | rfl | (simp only [List.length_drop, List.length_take]; rfl)) ?_; (with_reducible refine (laws_toPlace.calls k1 ((rd_T141 l0 x4_1).f0) ((rd_T141 l0 x4_1).f1) _ _ ((rd_T141 l0 x4_1).f2) t882 t883 t884 _ ?side1 ?side2 A8.out).mono ?_); (case side1 => repeat (first | exact (Kd.C_below HR881_2.out HB.out) | (with_reducible refine Kd.C_alloc ?_ _) | (with_reducible refine Kd.C_drewN ?_ _) | (with_reducible refine Kd.C_drew ?_))); (case side2 => exact HC881_2.out); rintro e w11 ⟨v885, rfl, ho0, hb⟩; refine ⟨_, rfl, ?_⟩; have n0_ := Aside0.mk (Kd.S_elder' (by (with_reducible repeat (first | apply Kd.S_alloc | apply Kd.S_drewN | apply Kd.S_drew)); exact HO_3.out) (Kd.R_base ho0) hb); have n1_ := Aside0.mk (Kd.R_lower ho0 (below_size (by repeat (first | (with_reducible first | exact HB.out | apply below_alloc | apply pw_below_drewN | apply below_drew1) | exact HB.out)))); have n2_ := Aside0.mk (below_step (by repeat (first | (with_reducible first | exact HB.out | apply below_alloc | apply pw_below_drewN | apply below_drew1) | exact HB.out)) hb); clear HO_3; clear HB; have HO_3 := n0_; have HO886 := n1_; have HB := n2_; clear n0_ n1_ n2_; (try clear hb); (try clear hb2); (try clear hk); (try clear hi); (try clear ho0); have p10 : 0 ≤ (x4_1 : Int) := of_decide_eq_true (by first | (with_reducible assumption) | assumption); have q10 : (x4_1 : Int) < ((x3_1.length : Int) : Int) := of_decide_eq_true (by first | (with_reducible assumption) | assumption); obtain ⟨go10, co10, eo10, gb10, gl10, cl10, HG10⟩ := Kd.S_form HO_3.out (by omega); (first | cases eo10 | (injection eo10 with ea_ en_ ec_; (first | subst ea_ | (injection ea_ with ea_; subst ea_)); subst ec_; clear en_)); have GB10 := Aside0.mk gb10; have GG10 := Aside0.mk HG10; clear gb10 gl10 HG10; obtain ⟨_, ce10, hcl10, hM10, hcc10, hfr10, _, _⟩ := Kd.S_elem HO_3.out z118 (x4_1 : Int) p10 q10; obtain ⟨ve10_2, rfl, ge10_2⟩ := k118_openM hM10; have hx10_0 : w11.cell? ⟨go10, (x4_1 : Int).toNat * 3, none⟩ = some (.int .i64 ((rd_T118 x3_1 x4_1).f0)) := hcc10 0 _ rfl; have hx10_1 : w11.cell? ⟨go10, (x4_1 : Int).toNat * 3 + 1, none⟩ = some (.int .i64 ((rd_T118 x3_1 x4_1).f1)) := hcc10 1 _ rfl; have hx10_2 : w11.cell? ⟨go10, (x4_1 : Int).toNat * 3 + 2, none⟩ = some (ve10_2) := hcc10 2 _ rfl; have hf10_0 : w11.frozen? ⟨go10, (x4_1 : Int).toNat * 3, none⟩ = false := hfr10 0; have hf10_1 : w11.frozen? ⟨go10, (x4_1 : Int).toNat * 3 + 1, none⟩ = false := hfr10 1; have hf10_2 : w11.frozen? ⟨go10, (x4_1 : Int).toNat * 3 + 2, none⟩ = false := hfr10 2; clear hcl10 hcc10 hfr10 hM10; replace p10 := eq_true p10; replace q10 := eq_true q10; have n_ := Aside0.mk (Kd.S_mono (ok' := (fun k_ => some k_ ≠ (v885 : Value).ownBlock)) HO_3.out (fun k_ hk => hk.2)); clear HO_3; have HO_3 := n_; clear n_; have HX12 := Aside0.mk (show Kd.S k118 118 w11 w.heap.size (fun k_ => ((fun _ => True)) k_ ∧ ¬ ((fun k_ => some k_ = (v885 : Value).ownBlock)) k_) (.slice (some ⟨go10, 0, none⟩) x3_1.length co10) x3_1 from (by (with_reducible repeat (first | apply Kd.S_alloc | apply Kd.S_drewN | apply Kd.S_drew)); exact Kd.S_mono HO_3.out (fun k_ hk => ⟨trivial, fun e_ => hk e_⟩))); obtain ⟨oki12, ce12, hcl12, hM12, hcc12, hfr12, hoki12, hH12⟩ := Kd.S_elem HX12.out z118 (x4_1 : Int) (of_decide_eq_true (by first | (with_reducible assumption) | assumption)) (by have h_ : (x4_1 : Int) < ((x3_1.length : Int) : Int) := of_decide_eq_true (by first | (with_reducible assumption) | assumption); first | exact h_ | (have e_ := (Kd.S_reads' HO_3.out).1; omega) | simpa using h_); obtain ⟨ve12_2, rfl, ge12_2⟩ := k118_openM hM12; have HP12 := Kd.S_seg hH12 (of_decide_eq_true (by first | (with_reducible assumption) | assumption)) (by have h_ : (x4_1 : Int) < ((x3_1.length : Int) : Int) := of_decide_eq_true (by first | (with_reducible assumption) | assumption); first | exact h_ | (have e_ := (Kd.S_reads' HO_3.out).1; omega) | simpa using h_) (seg := [.int .i64 t882, .int .i64 t883, v885]) (j := 0) (show 3 ≤ 3 from by decide) (x' := (⟨t882, t883, t884⟩ : S118)) (k118_mkM _ _ _ (⟨t882, t883, t884⟩ : S118) (Kd.R_mono (Kd.R_tight rfl (Kd.R_mono (ok' := fun k_ => ((fun _ => True)) k_ ∧ k_ ≠ go10) (Kd.R_apart' (HO886.out) (Kd.S_typed HO_3.out) (by decide)) (fun k_ hk => ⟨trivial, fun e_ => (hk.2) (by rw [e_]; rfl)⟩))) (fun _ h_ => Or.inr (h_)))) (fun _ hk => hk) (fun k_ hk_ => ((Kd.R_mono (ok' := fun k_ => ((fun _ => True)) k_ ∧ k_ ≠ go10) (Kd.R_apart' (HO886.out) (Kd.S_typed HO_3.out) (by decide)) (fun k_ hk => ⟨trivial, fun e_ => (hk.2) (by rw [e_]; rfl)⟩))).1 k_ hk_.symm); have hx12_0 := hcc12 0 _ rfl; (try simp only [show (k118).sz = 3 from rfl, Nat.mul_one, Nat.add_zero] at hx12_0); have hf12_0 := hfr12 0; (try simp only [show (k118).sz = 3 from rfl, Nat.mul_one, Nat.add_zero] at hf12_0); have hx12_1 := hcc12 1 _ rfl; (try simp only [show (k118).sz = 3 from rfl, Nat.mul_one, Nat.add_zero] at hx12_1); have hf12_1 := hfr12 1; (try simp only [show (k118).sz = 3 from rfl, Nat.mul_one, Nat.add_zero] at hf12_1); have hx12_2 := hcc12 2 _ rfl; (try simp only [show (k118).sz = 3 from rfl, Nat.mul_one, Nat.add_zero] at hx12_2); have hf12_2 := hfr12 2; (try simp only [show (k118).sz = 3 from rfl, Nat.mul_one, Nat.add_zero] at hf12_2); clear hcl12 hcc12 hfr12 hM12 hoki12 hH12) | ((with_reducible refine gate_store (t := 118) (p := 21) rfl ?_); refine store_event (t := 118) (p := 21) (v := ?vo_w13) (w1 := (((w11.setCell ⟨go10, (x4_1 : Int).toNat * 3, none⟩ (.int .i64 t882)).setCell ⟨go10, (x4_1 : Int).toNat * 3 + 1, none⟩ (.int .i64 t883)).setCell ⟨go10, (x4_1 : Int).toNat * 3 + 2, none⟩ (v885))) ?hg ?ho ?hn ?hr ?_; (case ho => rfl); (case hg => rfl); (case hn => rfl); (case hr => first | (go_simp; done) | (go_simp; rfl) | (obtain ⟨_, _, eo_⟩ := Kd.R_slice HO886.out; rw [eo_]; go_simp; done) | (obtain ⟨_, _, eo_⟩ := Kd.R_slice HO886.out; rw [eo_]; go_simp; rfl)); intro w13 hw; have hg : w11.grownBy w13 (some go10) := (by rw [hw]; exact HP12.2); have hp_ : Kd.S k118 118 w13 w.heap.size (fun _ => True) (.slice (some ⟨go10, 0, none⟩) x3_1.length co10) y887 := (by rw [hw, Ny887.out]; exact HP12.1); clear HP12; have n0_ := Aside0.mk (hp_); have n1_ := Aside0.mk ((by rw [hw]; exact below_set (below_set (below_set (HB.out) GB10.out) GB10.out) GB10.out : Below w.heap.size w w13)); clear HO_3; clear HB; clear HO886; have HO_3 := n0_; have HB := n1_; clear n0_ n1_; clear hg hw hp_))
        go_roundg k1
        case measure => have := HK1.out; omega
        case rel => exact ⟨(y887), (wrap64 (x4_1 + 1)), (by first | rfl | (simp; done) | (simp [*]; done)), H', ⟨by have := HK1.out; omega⟩, ⟨by (with_reducible repeat (first | apply Kd.S_alloc | apply Kd.S_drewN | apply Kd.S_drew)); exact HO_3.out⟩, ⟨by repeat (first | (with_reducible first | exact HB.out | apply below_alloc | apply pw_below_drewN | apply below_drew1) | exact HB.out)⟩⟩
       ·rw [if_neg c9] at H
        exact absurd H (by simp)
      ·rw [if_neg c7] at H
       exact absurd H (by simp)
     ·rw [if_neg c6] at H
      have c6b0 : decide (x4_1 < (l0.length : Int)) = false := decide_eq_false c6
      clear c6
      obtain rfl := Option.some.inj H
      go_wp2
      go_ret
      exact ⟨_, by first | rfl | (simp [errW_none, errW_some] <;> rfl) | (simp [*, errW_none, errW_some] <;> rfl), by (with_reducible repeat (first | apply Kd.S_alloc | apply Kd.S_drewN | apply Kd.S_drew)); exact HO_3.out, by repeat (first | (with_reducible first | exact HB.out | apply below_alloc | apply pw_below_drewN | apply below_drew1) | exact HB.out)⟩
  ·rw [if_neg c3] at H
   exact absurd H (by simp)
 ·rw [if_neg c2] at H
  exact absurd H (by simp)

end Go.Proofs.Ytnoklicihomfoaa.P
