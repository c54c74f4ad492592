import Derived.Test.YtenedmcobknefaaF0
import Derived.Test.YtenedmcobknefaaF4
namespace Go.Proofs.Ytenedmcobknefaa.P
open Go.RowKit Go.Proofs.YtenedmcobknefaaW.PrintWords Go.Proofs.YtenedmcobknefaaW.PrintLast Go.Proofs.YtenedmcobknefaaW.PrintMore
attribute [local go_sem] max2_int min2_int max_two min_two max_three min_three max_four min_four   -- for this text's walks alone
set_option linter.unusedVariables false
set_option linter.unusedSimpArgs false
attribute [local go_sem high] eqA27

mutual
def impl_GoodTable.j0 : Nat → Bool → Int → List (S27) → Option (Bool)
 | 0, _, _, _ => none
 | k + 1, x16, x254000, x254001 => if x16 = true then (some false) else (impl_GoodTable.l0 k x254001 (x254001.length : Int) 0 x254000 x254001)
def impl_GoodTable.l0 : Nat → List (S27) → Int → Int → Int → List (S27) → Option (Bool)
 | 0, _, _, _, _, _ => none
 | k + 1, x18, x19, x20, x254000, x254001 => if x20 < x19 then (if 0 ≤ x20 then (if x20 < (x18.length : Int) then ((impl_isSeen.f ((rd_T27 x18 x20).f0) ((rd_T27 x18 x20).f1) ((rd_T27 x18 x20).f2)).bind fun t257 => (if t257 = true then ((impl_row.f k x254001 ((rd_T27 x18 x20).f0)).bind fun t258 => (if t258 < x20 then (some false) else (if x20 > 0 then (if 0 ≤ (wrap64 (x20 - 1)) then (if (wrap64 (x20 - 1)) < (x254001.length : Int) then (if ((rd_T27 x254001 (wrap64 (x20 - 1))).f2) < ((rd_T27 x18 x20).f2) then (some false) else (impl_GoodTable.l0 k x18 x19 (wrap64 (x20 + 1)) x254000 x254001)) else (none)) else (none)) else (impl_GoodTable.l0 k x18 x19 (wrap64 (x20 + 1)) x254000 x254001)))) else (some false))) else (none)) else (none)) else (some true)
end
def impl_GoodTable.f (k : Nat) (a0_0 : Int) (l0_1 : List (S27)) : Option (Bool) := (impl_in.f a0_0 1 8).bind fun t254 => (if t254 = true then (impl_GoodTable.j0 k (decide ((l0_1.length : Int) > a0_0)) a0_0 l0_1) else (impl_GoodTable.j0 k true a0_0 l0_1))
theorem impl_GoodTable.mono_l : ∀ k, (∀ y0 y1 y2, LeO (impl_GoodTable.j0 k y0 y1 y2) (impl_GoodTable.j0 (k + 1) y0 y1 y2)) ∧ (∀ y0 y1 y2 y3 y4, LeO (impl_GoodTable.l0 k y0 y1 y2 y3 y4) (impl_GoodTable.l0 (k + 1) y0 y1 y2 y3 y4))
 | 0 => ⟨fun _ _ _ r h => by simp [impl_GoodTable.j0] at h, fun _ _ _ _ _ r h => by simp [impl_GoodTable.l0] at h⟩
 | k + 1 => by
  obtain ⟨ih0, ih1⟩ := impl_GoodTable.mono_l k
  refine ⟨?_, ?_⟩
  ·intro y0 y1 y2
   unfold impl_GoodTable.j0
   repeat' first
   | (with_reducible exact ih0 _ _ _)
   | (with_reducible exact ih1 _ _ _ _ _)
   | (with_reducible exact impl_row.mono _ _ _)
   | with_reducible first | exact LeO.refl _ | exact LeO.none _ | refine LeO.ite ?_ ?_ | refine LeO.bind ?_ fun _ => ?_
  ·intro y0 y1 y2 y3 y4
   unfold impl_GoodTable.l0
   repeat' first
   | (with_reducible exact ih0 _ _ _)
   | (with_reducible exact ih1 _ _ _ _ _)
   | (with_reducible exact impl_row.mono _ _ _)
   | with_reducible first | exact LeO.refl _ | exact LeO.none _ | refine LeO.ite ?_ ?_ | refine LeO.bind ?_ fun _ => ?_
theorem impl_GoodTable.mono : ∀ a0 a1 k, LeO (impl_GoodTable.f k a0 a1) (impl_GoodTable.f (k + 1) a0 a1) := by
 intro a0 a1 k
 obtain ⟨ih0, ih1⟩ := impl_GoodTable.mono_l k
 unfold impl_GoodTable.f
 repeat' first
   | (with_reducible exact ih0 _ _ _)
   | (with_reducible exact ih1 _ _ _ _ _)
   | (with_reducible exact impl_row.mono _ _ _)
   | with_reducible first | exact LeO.refl _ | exact LeO.none _ | refine LeO.ite ?_ ?_ | refine LeO.bind ?_ fun _ => ?_
def impl_GoodTable.T6 : Bool × List (List Nat × List Nat) := (true, [([], []), ([0], [0]), ([1], [1]), ([2, 1], [2]), ([3], [3]), ([4, 3], [3, 4]), ([3], [3]), ([6, 3], [3, 6]), ([5, 7, 3, 3], [3, 5, 7]), ([3], [3]), ([8, 9, 3], [3, 8, 9]), ([3, 10], [3, 10]), ([11, 8], [11]), ([12], [12]), ([13, 12], [12, 13]), ([14, 12, 12], [12, 14]), ([15], [15]), ([16, 15], [15, 16]), ([15], [15]), ([18, 15], [15, 18]), ([17, 19, 15], [15, 17, 19]), ([20, 15], [15, 20]), ([21, 15], [15, 21]), ([15], [15]), ([23, 15], [15, 23]), ([22, 24, 15], [15, 22, 24]), ([15, 25, 12], [12, 15, 25]), ([12, 26], [12, 26])])
def impl_GoodTable.B6 : List Nat := [0, 1, 3, 7, 15, 31, 15, 79, 255, 15, 1023, 2047, 4095, 8191, 16383, 32767, 65535, 131071, 65535, 327679, 1048575, 2097151, 4194303, 65535, 8454143, 33554431, 67108863, 134217727]
theorem impl_GoodTable.tab6 : rtab .any (opsOf Try.f8 6) = impl_GoodTable.T6 := by kernel_rfl
theorem impl_GoodTable.bits6 : waitsOk impl_GoodTable.T6.2 impl_GoodTable.B6 = true := by kernel_rfl
set_option maxHeartbeats 8000000 in
set_option maxRecDepth 100000 in
theorem impl_GoodTable.calls (k : Nat) (a0_0 : Int) (A0_1 : Option Addr) (c0_1 : Nat) (l0_1 : List (S27)) (r : Bool) (w : World) (hr0_1 : Kd.C k27 w A0_1 l0_1.length l0_1) (hc0_1 : l0_1.length ≤ c0_1) (h : impl_GoodTable.f k a0_0 l0_1 = some r) :
  Calls Try.prog 8 #[.agg #[.int .i64 a0_0, .slice A0_1 l0_1.length c0_1]] w fun e w' => e = .returned (.bool r) ∧ Below w.heap.size w w' := by
 have hu25 := Try.underlying25
 have hu27 := Try.underlying27
 have HR0_1 := Aside0.mk hr0_1
 have HC0_1 := Aside0.mk hc0_1
 clear hr0_1 hc0_1
 have HB := Aside0.mk (Below.refl w.heap.size w)
 have H : ((impl_in.f a0_0 1 8).bind fun t254 => (if t254 = true then (impl_GoodTable.j0 k (decide ((l0_1.length : Int) > a0_0)) a0_0 l0_1) else (impl_GoodTable.j0 k true a0_0 l0_1))) = some r := h
 clear h
 have HC2 := Aside0.mk H
 clear H
 go_enter Try.func8, Try.ntmps8
 go_upto_region 1 with (first | ((with_reducible refine gate_dst (N := 1) rfl ?_); (try (refine gate_guard (by rfl) ?_; dsimp only)); refine box_event ?hg (N := 1) ?hd (cs := #[.int .i64 a0_0, .slice A0_1 l0_1.length c0_1]) (t := 25) ?hr ?_; (case hd => rfl); (case hg => rfl); (case hr => first | (go_simp; done) | (go_simp; rfl)); intro gb253 hg w3 hbox hb; have BK253 := Aside0.mk (hbox); have GW253 := gw_ hg HB; have GE253 := gw_ hg HB; replace HB := bst_ HB hb; clear hb hbox hg))
 (try simp only [Act.put, List.setIfInBounds_toArray, List.set_cons_zero, List.set_cons_succ])
 go_cut [16] (fun v16 wc => ∃ (kq : Nat) (x16_1 : Bool), v16 = .bool x16_1 ∧ Aside0 (impl_GoodTable.j0 kq x16_1 a0_0 l0_1 = some r) ∧ Aside0 (kq ≤ k) ∧ Aside0 (wc.heap[gb253]? = some (.cells #[.int .i64 a0_0, (.slice A0_1 l0_1.length c0_1)] 25 (0, 0))) ∧ Aside0 (Below w.heap.size w wc))
 case first =>
  have H := HC2.out
  clear HC2
  replace H := Option.bind_eq_some_iff.mp H
  obtain ⟨t254, A40, H⟩ := H
  replace H : (if t254 = true then (impl_GoodTable.j0 k (decide ((l0_1.length : Int) > a0_0)) a0_0 l0_1) else (impl_GoodTable.j0 k true a0_0 l0_1)) = some r := H
  have A4 := Aside0.mk A40
  clear A40
  by_cases c5 : t254 = true
  ·subst c5
   rw [if_pos rfl] at H
   have H' := Aside0.mk H
   clear H
   have hcz6_0 : w3.cell? ⟨gb253, 0, none⟩ = some (.int .i64 a0_0) := bc_ BK253 0
   have hcz6_1 : w3.cell? ⟨gb253, 1, none⟩ = some (.slice A0_1 l0_1.length c0_1) := bc_ BK253 1
   have hfz6_0 := blk_frozen BK253.out 0
   have hfz6_1 := blk_frozen BK253.out 1
   go_wp2_with (first | (refine goesL_ (some 7) rfl rfl Try.func26 (by kernel_rfl) rfl #[.int .i64 a0_0, .int .i64 1, .int .i64 8] rfl tm_ ?_; (with_reducible refine (impl_in.calls a0_0 1 8 true _ A4.out).mono ?_); rintro e w' ⟨rfl, ⟨nd, rfl⟩⟩; refine ⟨_, rfl, ?_⟩))
   go_meet
   case rel => exact ⟨_, (decide ((l0_1.length : Int) > a0_0)), (by first | rfl | (simp; done) | (simp [*]; done)), H', ⟨by first | omega | exact Nat.le_refl _⟩, ⟨by (with_reducible repeat (first | refine blk_drewN ?_ _ | refine blk_drew ?_ | refine blk_alloc ?_ _)); exact BK253.out⟩, ⟨hB HB⟩⟩
  replace c5 := Bool.eq_false_iff.mpr c5
  subst c5
  rw [if_neg (show ¬ (false = true) by decide)] at H
  have H' := Aside0.mk H
  clear H
  have hcz7_0 : w3.cell? ⟨gb253, 0, none⟩ = some (.int .i64 a0_0) := bc_ BK253 0
  have hcz7_1 : w3.cell? ⟨gb253, 1, none⟩ = some (.slice A0_1 l0_1.length c0_1) := bc_ BK253 1
  have hfz7_0 := blk_frozen BK253.out 0
  have hfz7_1 := blk_frozen BK253.out 1
  go_wp2_with (first | (refine goesL_ (some 7) rfl rfl Try.func26 (by kernel_rfl) rfl #[.int .i64 a0_0, .int .i64 1, .int .i64 8] rfl tm_ ?_; (with_reducible refine (impl_in.calls a0_0 1 8 false _ A4.out).mono ?_); rintro e w' ⟨rfl, ⟨nd, rfl⟩⟩; refine ⟨_, rfl, ?_⟩))
  go_meet
  case rel => exact ⟨_, (true), (by first | rfl | (simp; done) | (simp [*]; done)), H', ⟨by first | omega | exact Nat.le_refl _⟩, ⟨by (with_reducible repeat (first | refine blk_drewN ?_ _ | refine blk_drew ?_ | refine blk_alloc ?_ _)); exact BK253.out⟩, ⟨hB HB⟩⟩
 case rest =>
  clear HC2
  obtain ⟨kq, x16_1, rfl, HA, HJ1, BK253, HB⟩ := hcut
  cases kq with
  | zero => exact absurd HA.out (by simp [impl_GoodTable.j0])
  | succ kj1 =>
   have H := HA.out
   clear HA
   simp only [impl_GoodTable.j0] at H
   by_cases c8 : x16_1 = true
   ·subst c8
    rw [if_pos rfl] at H
    obtain rfl := Option.some.inj H
    go_wp2
    go_ret
    exact ⟨rt_, hB HB⟩
   replace c8 := Bool.eq_false_iff.mpr c8
   subst c8
   rw [if_neg (show ¬ (false = true) by decide)] at H
   have H' := Aside0.mk H
   clear H
   have hcz9_0 : wc.cell? ⟨gb253, 0, none⟩ = some (.int .i64 a0_0) := bc_ BK253 0
   have hcz9_1 : wc.cell? ⟨gb253, 1, none⟩ = some (.slice A0_1 l0_1.length c0_1) := bc_ BK253 1
   have hfz9_0 := blk_frozen BK253.out 0
   have hfz9_1 := blk_frozen BK253.out 1
   go_wp2
   go_loopg [20] kj1 (fun kq v20 w' => ∃ (x20_2 : Int), v20 = .int .i64 x20_2 ∧ Aside0 (impl_GoodTable.l0 kq l0_1 (l0_1.length : Int) x20_2 a0_0 l0_1 = some r) ∧ Aside0 (kq ≤ kj1) ∧ Aside0 (w'.heap[gb253]? = some (.cells #[.int .i64 a0_0, (.slice A0_1 l0_1.length c0_1)] 25 (0, 0))) ∧ Aside0 (Below w.heap.size w w'))
   case atStart => exact ⟨(0), (by first | rfl | (simp; done) | (simp [*]; done)), H', ⟨Nat.le_refl _⟩, ⟨by (with_reducible repeat (first | refine blk_drewN ?_ _ | refine blk_drew ?_ | refine blk_alloc ?_ _)); exact BK253.out⟩, ⟨hB HB⟩⟩
   case round =>
    clear H'
    try clear c8
    try clear hcz9_0
    try clear hcz9_1
    try clear hfz9_0
    try clear hfz9_1
    obtain ⟨x20_2, rfl, HA, HK2, BK253, HB⟩ := hrel
    cases gk with
    | zero => exact absurd HA.out (by simp [impl_GoodTable.l0])
    | succ k2 =>
     have H := HA.out
     clear HA
     simp only [impl_GoodTable.l0] at H
     by_cases c10 : x20_2 < (l0_1.length : Int)
     rotate_left
     ·rw [if_neg c10] at H
      have c10b0 : decide (x20_2 < (l0_1.length : Int)) = false := decide_eq_false c10
      clear c10
      obtain rfl := Option.some.inj H
      go_wp2
      go_ret
      exact ⟨rt_, hB HB⟩
     rw [if_pos c10] at H
     have c10b0 : decide (x20_2 < (l0_1.length : Int)) = true := decide_eq_true c10
     clear c10
     by_cases c11 : 0 ≤ x20_2
     rotate_left
     ·rw [if_neg c11] at H
      exact absurd H (by simp)
     rw [if_pos c11] at H
     have c11b0 : decide (0 ≤ x20_2) = true := decide_eq_true c11
     clear c11
     by_cases c12 : x20_2 < (l0_1.length : Int)
     rotate_left
     ·rw [if_neg c12] at H
      exact absurd H (by simp)
     rw [if_pos c12] at H
     have c12b0 : decide (x20_2 < (l0_1.length : Int)) = true := decide_eq_true c12
     clear c12
     replace H := Option.bind_eq_some_iff.mp H
     obtain ⟨t257, A130, H⟩ := H
     replace H : (if t257 = true then ((impl_row.f k2 l0_1 ((rd_T27 l0_1 x20_2).f0)).bind fun t258 => (if t258 < x20_2 then (some false) else (if x20_2 > 0 then (if 0 ≤ (wrap64 (x20_2 - 1)) then (if (wrap64 (x20_2 - 1)) < (l0_1.length : Int) then (if ((rd_T27 l0_1 (wrap64 (x20_2 - 1))).f2) < ((rd_T27 l0_1 x20_2).f2) then (some false) else (impl_GoodTable.l0 k2 l0_1 (l0_1.length : Int) (wrap64 (x20_2 + 1)) a0_0 l0_1)) else (none)) else (none)) else (impl_GoodTable.l0 k2 l0_1 (l0_1.length : Int) (wrap64 (x20_2 + 1)) a0_0 l0_1)))) else (some false)) = some r := H
     have A13 := Aside0.mk A130
     clear A130
     by_cases c14 : t257 = true
     rotate_left
     ·replace c14 := Bool.eq_false_iff.mpr c14
      subst c14
      rw [if_neg (show ¬ (false = true) by decide)] at H
      obtain rfl := Option.some.inj H
      have p255 : 0 ≤ (x20_2 : Int) := od_
      have q255 : x20_2 < (l0_1.length : Int) := od_
      obtain ⟨ad255, e255, hx255_0, hx255_1, hx255_2⟩ := at_T27 HR0_1.out x20_2 p255 q255
      cases e255
      replace hx255_0 := hc_ HB hx255_0
      replace hx255_1 := hc_ HB hx255_1
      replace hx255_2 := hc_ HB hx255_2
      replace p255 := eq_true p255
      replace q255 := eq_true q255
      try go_wp2_with (first | ((with_reducible refine gate_dst (N := 4) rfl ?_); (try (refine gate_guard (by rfl) ?_; dsimp only)); refine box_event ?hg (N := 4) ?hd (cs := #[.int .i64 0, .int .i64 0, .int .i64 0]) (t := 27) ?hr ?_; (case hd => rfl); (case hg => rfl); (case hr => first | (go_simp; done) | (go_simp; rfl)); intro gb256 hg w50 hbox hb; have BK256 := Aside0.mk (hbox); have GW256 := gw_ hg HB; have GE256 := gw_ hg HB; have NB253_256 := nl_ hg BK253; have NB256_253 := ng_ hg BK253; replace BK253 := bb_ BK253 hb; replace HB := bst_ HB hb; clear hb hbox hg; have hnb51 := NB256_253.out; have hnc51 := NB253_256.out; obtain ⟨hcz52_0, hcz52_1, hcz52_2⟩ := bcs3_ BK256; have hfz52_0 := blk_frozen BK256.out 0; have hfz52_1 := blk_frozen BK256.out 1; have hfz52_2 := blk_frozen BK256.out 2))
      have n0_ : Aside0 ((((w50.setCell ⟨gb256, 0, none⟩ (.int .i64 ((rd_T27 l0_1 x20_2).f0))).setCell ⟨gb256, 1, none⟩ (.int .i64 ((rd_T27 l0_1 x20_2).f1))).setCell ⟨gb256, 2, none⟩ (.int .i64 ((rd_T27 l0_1 x20_2).f2))).heap[gb253]? = some (.cells #[.int .i64 a0_0, .slice (some ad255) l0_1.length c0_1] 25 (0, 0))) := ⟨by (with_reducible repeat (first | refine blk_drewN ?_ _ | refine blk_drew ?_ | refine blk_alloc ?_ _)); refine blk_far ?_ NB253_256.out _; (with_reducible repeat (first | refine blk_drewN ?_ _ | refine blk_drew ?_ | refine blk_alloc ?_ _)); refine blk_far ?_ NB253_256.out _; (with_reducible repeat (first | refine blk_drewN ?_ _ | refine blk_drew ?_ | refine blk_alloc ?_ _)); refine blk_far ?_ NB253_256.out _; (with_reducible repeat (first | refine blk_drewN ?_ _ | refine blk_drew ?_ | refine blk_alloc ?_ _)); exact BK253.out⟩
      have n1_ : Aside0 ((((w50.setCell ⟨gb256, 0, none⟩ (.int .i64 ((rd_T27 l0_1 x20_2).f0))).setCell ⟨gb256, 1, none⟩ (.int .i64 ((rd_T27 l0_1 x20_2).f1))).setCell ⟨gb256, 2, none⟩ (.int .i64 ((rd_T27 l0_1 x20_2).f2))).heap[gb256]? = some (.cells #[.int .i64 ((rd_T27 l0_1 x20_2).f0), .int .i64 ((rd_T27 l0_1 x20_2).f1), .int .i64 ((rd_T27 l0_1 x20_2).f2)] 27 (0, 0))) := ⟨by (with_reducible repeat (first | refine blk_drewN ?_ _ | refine blk_drew ?_ | refine blk_alloc ?_ _)); refine blk_put (cs := #[.int .i64 ((rd_T27 l0_1 x20_2).f0), .int .i64 ((rd_T27 l0_1 x20_2).f1), .int .i64 0]) ?_ 2 _ rfl; (with_reducible repeat (first | refine blk_drewN ?_ _ | refine blk_drew ?_ | refine blk_alloc ?_ _)); refine blk_put (cs := #[.int .i64 ((rd_T27 l0_1 x20_2).f0), .int .i64 0, .int .i64 0]) ?_ 1 _ rfl; (with_reducible repeat (first | refine blk_drewN ?_ _ | refine blk_drew ?_ | refine blk_alloc ?_ _)); refine blk_put (cs := #[.int .i64 0, .int .i64 0, .int .i64 0]) ?_ 0 _ rfl; (with_reducible repeat (first | refine blk_drewN ?_ _ | refine blk_drew ?_ | refine blk_alloc ?_ _)); exact BK256.out⟩
      have n2_ : Aside0 (Below w.heap.size w (((w50.setCell ⟨gb256, 0, none⟩ (.int .i64 ((rd_T27 l0_1 x20_2).f0))).setCell ⟨gb256, 1, none⟩ (.int .i64 ((rd_T27 l0_1 x20_2).f1))).setCell ⟨gb256, 2, none⟩ (.int .i64 ((rd_T27 l0_1 x20_2).f2)))) := ⟨hB HB⟩
      (try clear BK253)
      (try clear BK256)
      (try clear HB)
      generalize (((w50.setCell ⟨gb256, 0, none⟩ (.int .i64 ((rd_T27 l0_1 x20_2).f0))).setCell ⟨gb256, 1, none⟩ (.int .i64 ((rd_T27 l0_1 x20_2).f1))).setCell ⟨gb256, 2, none⟩ (.int .i64 ((rd_T27 l0_1 x20_2).f2))) = w53 at n0_ n1_ n2_ ⊢
      have BK253 := n0_
      have BK256 := n1_
      have HB := n2_
      clear n0_ n1_ n2_
      replace BK253 := bd_ BK253
      replace BK256 := bd_ BK256
      replace HB := Aside0.mk (below_drew1 HB.out)
      refine start_ (n := 28) (S := fun w' => w'.cell? ⟨gb256, 0, none⟩ = some (.int .i64 ((rd_T27 l0_1 x20_2).f0)) ∧ w'.cell? ⟨gb256, 1, none⟩ = some (.int .i64 ((rd_T27 l0_1 x20_2).f1)) ∧ w'.cell? ⟨gb256, 2, none⟩ = some (.int .i64 ((rd_T27 l0_1 x20_2).f2))) (ds := []) (bs 28 0) (by kernel_rfl) rfl rfl ⟨bc_ BK256 0, bc_ BK256 1, bc_ BK256 2⟩ (fun hHeld => ?_); refine with_tabW impl_GoodTable.tab6 impl_GoodTable.bits6 (fun HT_ HW_ => ?_)
      generalize w53.drew = w54 at BK253 BK256 HB hHeld ⊢
      refine tk_ 0 25 (bs 28 1) HT_ HW_ hHeld ?_
      refine on_ 1 (some 26) (bs 28 3) HT_ (fun K hK => ?_)
      refine goes_ Try.func22 (by kernel_rfl) rfl #[.agg #[.int .i64 ((rd_T27 l0_1 x20_2).f0), .int .i64 ((rd_T27 l0_1 x20_2).f1), .int .i64 ((rd_T27 l0_1 x20_2).f2)]] (by rfl) rfl rfl tm_ ?_
      with_reducible refine (impl_isSeen.calls ((rd_T27 l0_1 x20_2).f0) ((rd_T27 l0_1 x20_2).f1) ((rd_T27 l0_1 x20_2).f2) false _ A13.out).mono ?_
      rintro e w55 ⟨rfl, hb⟩
      refine ⟨_, rfl, ?_⟩
      replace BK253 := bb_ BK253 hb
      replace BK256 := bb_ BK256 hb
      replace HB := bst_ HB hb
      clear hb
      refine hK.out _ _ ⟨bc_ BK256 0, bc_ BK256 1, bc_ BK256 2⟩ (fun hHeld => ?_)
      clear hK K
      refine nm_ 26 ?_
      refine pu_ 2 27 (bs 28 7) HT_ ?_
      refine pu_ 3 28 (bs 28 15) HT_ ?_
      refine pn_ 4 29 (bs 28 31) HT_ ?_
      refine pn_ 5 30 (bs 28 63) HT_ ?_
      refine pn_ 6 31 (bs 28 127) HT_ ?_
      refine pn_ 7 32 (bs 28 255) HT_ ?_
      refine pn_ 8 33 (bs 28 511) HT_ ?_
      refine pn_ 9 34 (bs 28 1023) HT_ ?_
      refine pn_ 10 35 (bs 28 2047) HT_ ?_
      refine pu_ 11 36 (bs 28 4095) HT_ ?_
      refine pu_ 12 37 (bs 28 8191) HT_ ?_
      refine pn_ 13 38 (bs 28 16383) HT_ ?_
      refine pn_ 14 39 (bs 28 32767) HT_ ?_
      refine pn_ 15 40 (bs 28 65535) HT_ ?_
      refine pn_ 16 41 (bs 28 131071) HT_ ?_
      refine pn_ 17 42 (bs 28 262143) HT_ ?_
      refine pn_ 18 43 (bs 28 524287) HT_ ?_
      refine pn_ 19 44 (bs 28 1048575) HT_ ?_
      refine pn_ 20 45 (bs 28 2097151) HT_ ?_
      refine pn_ 21 46 (bs 28 4194303) HT_ ?_
      refine pn_ 22 47 (bs 28 8388607) HT_ ?_
      refine pn_ 23 48 (bs 28 16777215) HT_ ?_
      refine pn_ 24 49 (bs 28 33554431) HT_ ?_
      refine pn_ 25 50 (bs 28 67108863) HT_ ?_
      refine pn_ 26 51 (bs 28 134217727) HT_ ?_
      refine pu_ 27 52 (bs 28 268435455) HT_ ?_
      refine done_ (done_of HT_.out (by kernel_rfl)) ?_
      try go_wp2
      go_ret
      exact ⟨rt_, hB HB⟩
     subst c14
     rw [if_pos rfl] at H
     replace H := Option.bind_eq_some_iff.mp H
     obtain ⟨t258, A150, H⟩ := H
     replace H : (if t258 < x20_2 then (some false) else (if x20_2 > 0 then (if 0 ≤ (wrap64 (x20_2 - 1)) then (if (wrap64 (x20_2 - 1)) < (l0_1.length : Int) then (if ((rd_T27 l0_1 (wrap64 (x20_2 - 1))).f2) < ((rd_T27 l0_1 x20_2).f2) then (some false) else (impl_GoodTable.l0 k2 l0_1 (l0_1.length : Int) (wrap64 (x20_2 + 1)) a0_0 l0_1)) else (none)) else (none)) else (impl_GoodTable.l0 k2 l0_1 (l0_1.length : Int) (wrap64 (x20_2 + 1)) a0_0 l0_1))) = some r := H
     have A15 := Aside0.mk A150
     clear A150
     by_cases c16 : t258 < x20_2
     ·rw [if_pos c16] at H
      have c16b0 : decide (t258 < x20_2) = true := decide_eq_true c16
      clear c16
      obtain rfl := Option.some.inj H
      have p255 : 0 ≤ (x20_2 : Int) := od_
      have q255 : x20_2 < (l0_1.length : Int) := od_
      obtain ⟨ad255, e255, hx255_0, hx255_1, hx255_2⟩ := at_T27 HR0_1.out x20_2 p255 q255
      cases e255
      replace hx255_0 := hc_ HB hx255_0
      replace hx255_1 := hc_ HB hx255_1
      replace hx255_2 := hc_ HB hx255_2
      replace p255 := eq_true p255
      replace q255 := eq_true q255
      try go_wp2_with (first | ((with_reducible refine gate_dst (N := 4) rfl ?_); (try (refine gate_guard (by rfl) ?_; dsimp only)); refine box_event ?hg (N := 4) ?hd (cs := #[.int .i64 0, .int .i64 0, .int .i64 0]) (t := 27) ?hr ?_; (case hd => rfl); (case hg => rfl); (case hr => first | (go_simp; done) | (go_simp; rfl)); intro gb256 hg w17 hbox hb; have BK256 := Aside0.mk (hbox); have GW256 := gw_ hg HB; have GE256 := gw_ hg HB; have NB253_256 := nl_ hg BK253; have NB256_253 := ng_ hg BK253; replace BK253 := bb_ BK253 hb; replace HB := bst_ HB hb; clear hb hbox hg; have hnb18 := NB256_253.out; have hnc18 := NB253_256.out; obtain ⟨hcz19_0, hcz19_1, hcz19_2⟩ := bcs3_ BK256; have hfz19_0 := blk_frozen BK256.out 0; have hfz19_1 := blk_frozen BK256.out 1; have hfz19_2 := blk_frozen BK256.out 2))
      have n0_ : Aside0 ((((w17.setCell ⟨gb256, 0, none⟩ (.int .i64 ((rd_T27 l0_1 x20_2).f0))).setCell ⟨gb256, 1, none⟩ (.int .i64 ((rd_T27 l0_1 x20_2).f1))).setCell ⟨gb256, 2, none⟩ (.int .i64 ((rd_T27 l0_1 x20_2).f2))).heap[gb253]? = some (.cells #[.int .i64 a0_0, .slice (some ad255) l0_1.length c0_1] 25 (0, 0))) := ⟨by (with_reducible repeat (first | refine blk_drewN ?_ _ | refine blk_drew ?_ | refine blk_alloc ?_ _)); refine blk_far ?_ NB253_256.out _; (with_reducible repeat (first | refine blk_drewN ?_ _ | refine blk_drew ?_ | refine blk_alloc ?_ _)); refine blk_far ?_ NB253_256.out _; (with_reducible repeat (first | refine blk_drewN ?_ _ | refine blk_drew ?_ | refine blk_alloc ?_ _)); refine blk_far ?_ NB253_256.out _; (with_reducible repeat (first | refine blk_drewN ?_ _ | refine blk_drew ?_ | refine blk_alloc ?_ _)); exact BK253.out⟩
      have n1_ : Aside0 ((((w17.setCell ⟨gb256, 0, none⟩ (.int .i64 ((rd_T27 l0_1 x20_2).f0))).setCell ⟨gb256, 1, none⟩ (.int .i64 ((rd_T27 l0_1 x20_2).f1))).setCell ⟨gb256, 2, none⟩ (.int .i64 ((rd_T27 l0_1 x20_2).f2))).heap[gb256]? = some (.cells #[.int .i64 ((rd_T27 l0_1 x20_2).f0), .int .i64 ((rd_T27 l0_1 x20_2).f1), .int .i64 ((rd_T27 l0_1 x20_2).f2)] 27 (0, 0))) := ⟨by (with_reducible repeat (first | refine blk_drewN ?_ _ | refine blk_drew ?_ | refine blk_alloc ?_ _)); refine blk_put (cs := #[.int .i64 ((rd_T27 l0_1 x20_2).f0), .int .i64 ((rd_T27 l0_1 x20_2).f1), .int .i64 0]) ?_ 2 _ rfl; (with_reducible repeat (first | refine blk_drewN ?_ _ | refine blk_drew ?_ | refine blk_alloc ?_ _)); refine blk_put (cs := #[.int .i64 ((rd_T27 l0_1 x20_2).f0), .int .i64 0, .int .i64 0]) ?_ 1 _ rfl; (with_reducible repeat (first | refine blk_drewN ?_ _ | refine blk_drew ?_ | refine blk_alloc ?_ _)); refine blk_put (cs := #[.int .i64 0, .int .i64 0, .int .i64 0]) ?_ 0 _ rfl; (with_reducible repeat (first | refine blk_drewN ?_ _ | refine blk_drew ?_ | refine blk_alloc ?_ _)); exact BK256.out⟩
      have n2_ : Aside0 (Below w.heap.size w (((w17.setCell ⟨gb256, 0, none⟩ (.int .i64 ((rd_T27 l0_1 x20_2).f0))).setCell ⟨gb256, 1, none⟩ (.int .i64 ((rd_T27 l0_1 x20_2).f1))).setCell ⟨gb256, 2, none⟩ (.int .i64 ((rd_T27 l0_1 x20_2).f2)))) := ⟨hB HB⟩
      (try clear BK253)
      (try clear BK256)
      (try clear HB)
      generalize (((w17.setCell ⟨gb256, 0, none⟩ (.int .i64 ((rd_T27 l0_1 x20_2).f0))).setCell ⟨gb256, 1, none⟩ (.int .i64 ((rd_T27 l0_1 x20_2).f1))).setCell ⟨gb256, 2, none⟩ (.int .i64 ((rd_T27 l0_1 x20_2).f2))) = w20 at n0_ n1_ n2_ ⊢
      have BK253 := n0_
      have BK256 := n1_
      have HB := n2_
      clear n0_ n1_ n2_
      replace BK253 := bd_ BK253
      replace BK256 := bd_ BK256
      replace HB := Aside0.mk (below_drew1 HB.out)
      refine start_ (n := 28) (S := fun w' => w'.cell? ⟨gb256, 0, none⟩ = some (.int .i64 ((rd_T27 l0_1 x20_2).f0)) ∧ w'.cell? ⟨gb256, 1, none⟩ = some (.int .i64 ((rd_T27 l0_1 x20_2).f1)) ∧ w'.cell? ⟨gb256, 2, none⟩ = some (.int .i64 ((rd_T27 l0_1 x20_2).f2)) ∧ w'.cell? ⟨gb253, 0, none⟩ = some (.int .i64 a0_0) ∧ w'.cell? ⟨gb253, 1, none⟩ = some (.slice (some ad255) l0_1.length c0_1)) (ds := []) (bs 28 0) (by kernel_rfl) rfl rfl ⟨bc_ BK256 0, bc_ BK256 1, bc_ BK256 2, bc_ BK253 0, bc_ BK253 1⟩ (fun hHeld => ?_); refine with_tabW impl_GoodTable.tab6 impl_GoodTable.bits6 (fun HT_ HW_ => ?_)
      generalize w20.drew = w21 at BK253 BK256 HB hHeld ⊢
      refine tk_ 0 25 (bs 28 1) HT_ HW_ hHeld ?_
      refine on_ 1 (some 26) (bs 28 3) HT_ (fun K hK => ?_)
      refine goes_ Try.func22 (by kernel_rfl) rfl #[.agg #[.int .i64 ((rd_T27 l0_1 x20_2).f0), .int .i64 ((rd_T27 l0_1 x20_2).f1), .int .i64 ((rd_T27 l0_1 x20_2).f2)]] (by rfl) rfl rfl tm_ ?_
      with_reducible refine (impl_isSeen.calls ((rd_T27 l0_1 x20_2).f0) ((rd_T27 l0_1 x20_2).f1) ((rd_T27 l0_1 x20_2).f2) true _ A13.out).mono ?_
      rintro e w22 ⟨rfl, hb⟩
      refine ⟨_, rfl, ?_⟩
      replace BK253 := bb_ BK253 hb
      replace BK256 := bb_ BK256 hb
      replace HB := bst_ HB hb
      clear hb
      refine hK.out _ _ ⟨bc_ BK256 0, bc_ BK256 1, bc_ BK256 2, bc_ BK253 0, bc_ BK253 1⟩ (fun hHeld => ?_)
      clear hK K
      refine nm_ 26 ?_
      refine pu_ 2 27 (bs 28 7) HT_ ?_
      refine pu_ 3 28 (bs 28 15) HT_ ?_
      refine pu_ 4 29 (bs 28 31) HT_ ?_
      refine pu_ 6 31 (bs 28 95) HT_ ?_
      refine pu_ 9 34 (bs 28 607) HT_ ?_
      refine tk_ 5 30 (bs 28 639) HT_ HW_ hHeld ?_
      refine tk_ 7 32 (bs 28 767) HT_ HW_ hHeld ?_
      refine on_ 8 (some 33) (bs 28 1023) HT_ (fun K hK => ?_)
      refine goes_ Try.func27 (by kernel_rfl) rfl #[.slice (some ad255) l0_1.length c0_1, .int .i64 ((rd_T27 l0_1 x20_2).f0)] (by rfl) rfl rfl tm_ ?_
      with_reducible refine (impl_row.calls k2 _ _ l0_1 ((rd_T27 l0_1 x20_2).f0) t258 _ ?side1 ?side2 A15.out).mono ?_
      (case side1 => exact cb_ HR0_1 HB)
      (case side2 => exact HC0_1.out)
      rintro e w23 ⟨rfl, hb⟩
      refine ⟨_, rfl, ?_⟩
      replace BK253 := bb_ BK253 hb
      replace BK256 := bb_ BK256 hb
      replace HB := bst_ HB hb
      clear hb
      refine hK.out _ _ ⟨bc_ BK256 0, bc_ BK256 1, bc_ BK256 2, bc_ BK253 0, bc_ BK253 1⟩ (fun hHeld => ?_)
      clear hK K
      refine nm_ 33 ?_
      refine pu_ 10 35 (bs 28 2047) HT_ ?_
      refine pu_ 11 36 (bs 28 4095) HT_ ?_
      refine pu_ 12 37 (bs 28 8191) HT_ ?_
      refine pn_ 13 38 (bs 28 16383) HT_ ?_
      refine pn_ 14 39 (bs 28 32767) HT_ ?_
      refine pn_ 15 40 (bs 28 65535) HT_ ?_
      refine pn_ 16 41 (bs 28 131071) HT_ ?_
      refine pn_ 17 42 (bs 28 262143) HT_ ?_
      refine pn_ 18 43 (bs 28 524287) HT_ ?_
      refine pn_ 19 44 (bs 28 1048575) HT_ ?_
      refine pn_ 20 45 (bs 28 2097151) HT_ ?_
      refine pn_ 21 46 (bs 28 4194303) HT_ ?_
      refine pn_ 22 47 (bs 28 8388607) HT_ ?_
      refine pn_ 23 48 (bs 28 16777215) HT_ ?_
      refine pn_ 24 49 (bs 28 33554431) HT_ ?_
      refine pn_ 25 50 (bs 28 67108863) HT_ ?_
      refine pn_ 26 51 (bs 28 134217727) HT_ ?_
      refine pu_ 27 52 (bs 28 268435455) HT_ ?_
      refine done_ (done_of HT_.out (by kernel_rfl)) ?_
      try go_wp2
      go_ret
      exact ⟨rt_, hB HB⟩
     rw [if_neg c16] at H
     have c16b0 : decide (t258 < x20_2) = false := decide_eq_false c16
     clear c16
     by_cases c24 : x20_2 > 0
     rotate_left
     ·rw [if_neg c24] at H
      have c24b0 : decide (0 < x20_2) = false := decide_eq_false c24
      clear c24
      have H' := Aside0.mk H
      clear H
      have p255 : 0 ≤ (x20_2 : Int) := od_
      have q255 : x20_2 < (l0_1.length : Int) := od_
      obtain ⟨ad255, e255, hx255_0, hx255_1, hx255_2⟩ := at_T27 HR0_1.out x20_2 p255 q255
      cases e255
      replace hx255_0 := hc_ HB hx255_0
      replace hx255_1 := hc_ HB hx255_1
      replace hx255_2 := hc_ HB hx255_2
      replace p255 := eq_true p255
      replace q255 := eq_true q255
      try go_wp2_with (first | ((with_reducible refine gate_dst (N := 4) rfl ?_); (try (refine gate_guard (by rfl) ?_; dsimp only)); refine box_event ?hg (N := 4) ?hd (cs := #[.int .i64 0, .int .i64 0, .int .i64 0]) (t := 27) ?hr ?_; (case hd => rfl); (case hg => rfl); (case hr => first | (go_simp; done) | (go_simp; rfl)); intro gb256 hg w43 hbox hb; have BK256 := Aside0.mk (hbox); have GW256 := gw_ hg HB; have GE256 := gw_ hg HB; have NB253_256 := nl_ hg BK253; have NB256_253 := ng_ hg BK253; replace BK253 := bb_ BK253 hb; replace HB := bst_ HB hb; clear hb hbox hg; have hnb44 := NB256_253.out; have hnc44 := NB253_256.out; obtain ⟨hcz45_0, hcz45_1, hcz45_2⟩ := bcs3_ BK256; have hfz45_0 := blk_frozen BK256.out 0; have hfz45_1 := blk_frozen BK256.out 1; have hfz45_2 := blk_frozen BK256.out 2))
      have n0_ : Aside0 ((((w43.setCell ⟨gb256, 0, none⟩ (.int .i64 ((rd_T27 l0_1 x20_2).f0))).setCell ⟨gb256, 1, none⟩ (.int .i64 ((rd_T27 l0_1 x20_2).f1))).setCell ⟨gb256, 2, none⟩ (.int .i64 ((rd_T27 l0_1 x20_2).f2))).heap[gb253]? = some (.cells #[.int .i64 a0_0, .slice (some ad255) l0_1.length c0_1] 25 (0, 0))) := ⟨by (with_reducible repeat (first | refine blk_drewN ?_ _ | refine blk_drew ?_ | refine blk_alloc ?_ _)); refine blk_far ?_ NB253_256.out _; (with_reducible repeat (first | refine blk_drewN ?_ _ | refine blk_drew ?_ | refine blk_alloc ?_ _)); refine blk_far ?_ NB253_256.out _; (with_reducible repeat (first | refine blk_drewN ?_ _ | refine blk_drew ?_ | refine blk_alloc ?_ _)); refine blk_far ?_ NB253_256.out _; (with_reducible repeat (first | refine blk_drewN ?_ _ | refine blk_drew ?_ | refine blk_alloc ?_ _)); exact BK253.out⟩
      have n1_ : Aside0 ((((w43.setCell ⟨gb256, 0, none⟩ (.int .i64 ((rd_T27 l0_1 x20_2).f0))).setCell ⟨gb256, 1, none⟩ (.int .i64 ((rd_T27 l0_1 x20_2).f1))).setCell ⟨gb256, 2, none⟩ (.int .i64 ((rd_T27 l0_1 x20_2).f2))).heap[gb256]? = some (.cells #[.int .i64 ((rd_T27 l0_1 x20_2).f0), .int .i64 ((rd_T27 l0_1 x20_2).f1), .int .i64 ((rd_T27 l0_1 x20_2).f2)] 27 (0, 0))) := ⟨by (with_reducible repeat (first | refine blk_drewN ?_ _ | refine blk_drew ?_ | refine blk_alloc ?_ _)); refine blk_put (cs := #[.int .i64 ((rd_T27 l0_1 x20_2).f0), .int .i64 ((rd_T27 l0_1 x20_2).f1), .int .i64 0]) ?_ 2 _ rfl; (with_reducible repeat (first | refine blk_drewN ?_ _ | refine blk_drew ?_ | refine blk_alloc ?_ _)); refine blk_put (cs := #[.int .i64 ((rd_T27 l0_1 x20_2).f0), .int .i64 0, .int .i64 0]) ?_ 1 _ rfl; (with_reducible repeat (first | refine blk_drewN ?_ _ | refine blk_drew ?_ | refine blk_alloc ?_ _)); refine blk_put (cs := #[.int .i64 0, .int .i64 0, .int .i64 0]) ?_ 0 _ rfl; (with_reducible repeat (first | refine blk_drewN ?_ _ | refine blk_drew ?_ | refine blk_alloc ?_ _)); exact BK256.out⟩
      have n2_ : Aside0 (Below w.heap.size w (((w43.setCell ⟨gb256, 0, none⟩ (.int .i64 ((rd_T27 l0_1 x20_2).f0))).setCell ⟨gb256, 1, none⟩ (.int .i64 ((rd_T27 l0_1 x20_2).f1))).setCell ⟨gb256, 2, none⟩ (.int .i64 ((rd_T27 l0_1 x20_2).f2)))) := ⟨hB HB⟩
      (try clear BK253)
      (try clear BK256)
      (try clear HB)
      generalize (((w43.setCell ⟨gb256, 0, none⟩ (.int .i64 ((rd_T27 l0_1 x20_2).f0))).setCell ⟨gb256, 1, none⟩ (.int .i64 ((rd_T27 l0_1 x20_2).f1))).setCell ⟨gb256, 2, none⟩ (.int .i64 ((rd_T27 l0_1 x20_2).f2))) = w46 at n0_ n1_ n2_ ⊢
      have BK253 := n0_
      have BK256 := n1_
      have HB := n2_
      clear n0_ n1_ n2_
      replace BK253 := bd_ BK253
      replace BK256 := bd_ BK256
      replace HB := Aside0.mk (below_drew1 HB.out)
      refine start_ (n := 28) (S := fun w' => w'.cell? ⟨gb256, 0, none⟩ = some (.int .i64 ((rd_T27 l0_1 x20_2).f0)) ∧ w'.cell? ⟨gb256, 1, none⟩ = some (.int .i64 ((rd_T27 l0_1 x20_2).f1)) ∧ w'.cell? ⟨gb256, 2, none⟩ = some (.int .i64 ((rd_T27 l0_1 x20_2).f2)) ∧ w'.cell? ⟨gb253, 0, none⟩ = some (.int .i64 a0_0) ∧ w'.cell? ⟨gb253, 1, none⟩ = some (.slice (some ad255) l0_1.length c0_1)) (ds := []) (bs 28 0) (by kernel_rfl) rfl rfl ⟨bc_ BK256 0, bc_ BK256 1, bc_ BK256 2, bc_ BK253 0, bc_ BK253 1⟩ (fun hHeld => ?_); refine with_tabW impl_GoodTable.tab6 impl_GoodTable.bits6 (fun HT_ HW_ => ?_)
      generalize w46.drew = w47 at BK253 BK256 HB hHeld ⊢
      refine tk_ 0 25 (bs 28 1) HT_ HW_ hHeld ?_
      refine on_ 1 (some 26) (bs 28 3) HT_ (fun K hK => ?_)
      refine goes_ Try.func22 (by kernel_rfl) rfl #[.agg #[.int .i64 ((rd_T27 l0_1 x20_2).f0), .int .i64 ((rd_T27 l0_1 x20_2).f1), .int .i64 ((rd_T27 l0_1 x20_2).f2)]] (by rfl) rfl rfl tm_ ?_
      with_reducible refine (impl_isSeen.calls ((rd_T27 l0_1 x20_2).f0) ((rd_T27 l0_1 x20_2).f1) ((rd_T27 l0_1 x20_2).f2) true _ A13.out).mono ?_
      rintro e w48 ⟨rfl, hb⟩
      refine ⟨_, rfl, ?_⟩
      replace BK253 := bb_ BK253 hb
      replace BK256 := bb_ BK256 hb
      replace HB := bst_ HB hb
      clear hb
      refine hK.out _ _ ⟨bc_ BK256 0, bc_ BK256 1, bc_ BK256 2, bc_ BK253 0, bc_ BK253 1⟩ (fun hHeld => ?_)
      clear hK K
      refine nm_ 26 ?_
      refine pu_ 2 27 (bs 28 7) HT_ ?_
      refine pu_ 3 28 (bs 28 15) HT_ ?_
      refine pu_ 4 29 (bs 28 31) HT_ ?_
      refine pu_ 6 31 (bs 28 95) HT_ ?_
      refine pu_ 9 34 (bs 28 607) HT_ ?_
      refine tk_ 5 30 (bs 28 639) HT_ HW_ hHeld ?_
      refine tk_ 7 32 (bs 28 767) HT_ HW_ hHeld ?_
      refine on_ 8 (some 33) (bs 28 1023) HT_ (fun K hK => ?_)
      refine goes_ Try.func27 (by kernel_rfl) rfl #[.slice (some ad255) l0_1.length c0_1, .int .i64 ((rd_T27 l0_1 x20_2).f0)] (by rfl) rfl rfl tm_ ?_
      with_reducible refine (impl_row.calls k2 _ _ l0_1 ((rd_T27 l0_1 x20_2).f0) t258 _ ?side1 ?side2 A15.out).mono ?_
      (case side1 => exact cb_ HR0_1 HB)
      (case side2 => exact HC0_1.out)
      rintro e w49 ⟨rfl, hb⟩
      refine ⟨_, rfl, ?_⟩
      replace BK253 := bb_ BK253 hb
      replace BK256 := bb_ BK256 hb
      replace HB := bst_ HB hb
      clear hb
      refine hK.out _ _ ⟨bc_ BK256 0, bc_ BK256 1, bc_ BK256 2, bc_ BK253 0, bc_ BK253 1⟩ (fun hHeld => ?_)
      clear hK K
      refine nm_ 33 ?_
      refine pu_ 10 35 (bs 28 2047) HT_ ?_
      refine pu_ 11 36 (bs 28 4095) HT_ ?_
      refine pu_ 12 37 (bs 28 8191) HT_ ?_
      refine pu_ 13 38 (bs 28 16383) HT_ ?_
      refine pu_ 14 39 (bs 28 32767) HT_ ?_
      refine pu_ 15 40 (bs 28 65535) HT_ ?_
      refine pn_ 16 41 (bs 28 131071) HT_ ?_
      refine pn_ 17 42 (bs 28 262143) HT_ ?_
      refine pn_ 18 43 (bs 28 524287) HT_ ?_
      refine pn_ 19 44 (bs 28 1048575) HT_ ?_
      refine pn_ 20 45 (bs 28 2097151) HT_ ?_
      refine pn_ 21 46 (bs 28 4194303) HT_ ?_
      refine pn_ 22 47 (bs 28 8388607) HT_ ?_
      refine pn_ 23 48 (bs 28 16777215) HT_ ?_
      refine pn_ 24 49 (bs 28 33554431) HT_ ?_
      refine pn_ 25 50 (bs 28 67108863) HT_ ?_
      refine pu_ 26 51 (bs 28 134217727) HT_ ?_
      refine pu_ 27 52 (bs 28 268435455) HT_ ?_
      refine done_ (done_of HT_.out (by kernel_rfl)) ?_
      try go_wp2
      go_roundg k2
      case measure => have := HJ1.out; have := HK2.out; omega
      case rel => exact ⟨(wrap64 (x20_2 + 1)), (by first | rfl | (simp; done) | (simp [*]; done)), H', ⟨by have := HJ1.out; have := HK2.out; omega⟩, ⟨by (with_reducible repeat (first | refine blk_drewN ?_ _ | refine blk_drew ?_ | refine blk_alloc ?_ _)); exact BK253.out⟩, ⟨hB HB⟩⟩
     rw [if_pos c24] at H
     have c24b0 : decide (0 < x20_2) = true := decide_eq_true c24
     clear c24
     obtain ⟨ji25, hji25⟩ : ∃ j_ : Int, (wrap64 (x20_2 - 1)) = j_ := ⟨_, rfl⟩
     replace H : (if 0 ≤ (ji25) then (if (ji25) < (l0_1.length : Int) then (if ((rd_T27 l0_1 (ji25)).f2) < ((rd_T27 l0_1 x20_2).f2) then (some false) else (impl_GoodTable.l0 k2 l0_1 (l0_1.length : Int) (wrap64 (x20_2 + 1)) a0_0 l0_1)) else (none)) else (none)) = some r := by first | (rw [hji25] at H; exact H) | (simp only [hji25] at H ⊢; exact H)
     (try rw [hji25] at A13)
     (try rw [hji25] at A15)
     have hji25w : (IntKind.i64.wrap (x20_2 - 1)) = ji25 := (i64_w _).trans hji25
     by_cases c26 : 0 ≤ (ji25)
     rotate_left
     ·rw [if_neg c26] at H
      exact absurd H (by simp)
     rw [if_pos c26] at H
     have c26b0 : decide (0 ≤ (ji25)) = true := decide_eq_true c26
     clear c26
     by_cases c27 : (ji25) < (l0_1.length : Int)
     rotate_left
     ·rw [if_neg c27] at H
      exact absurd H (by simp)
     rw [if_pos c27] at H
     have c27b0 : decide ((ji25) < (l0_1.length : Int)) = true := decide_eq_true c27
     clear c27
     by_cases c28 : ((rd_T27 l0_1 (ji25)).f2) < ((rd_T27 l0_1 x20_2).f2)
     rotate_left
     ·rw [if_neg c28] at H
      have c28b0 : decide (((rd_T27 l0_1 (ji25)).f2) < ((rd_T27 l0_1 x20_2).f2)) = false := decide_eq_false c28
      clear c28
      have H' := Aside0.mk H
      clear H
      have p255 : 0 ≤ (x20_2 : Int) := od_
      have q255 : x20_2 < (l0_1.length : Int) := od_
      obtain ⟨ad255, e255, hx255_0, hx255_1, hx255_2⟩ := at_T27 HR0_1.out x20_2 p255 q255
      cases e255
      replace hx255_0 := hc_ HB hx255_0
      replace hx255_1 := hc_ HB hx255_1
      replace hx255_2 := hc_ HB hx255_2
      replace p255 := eq_true p255
      replace q255 := eq_true q255
      try go_wp2_with (first | ((with_reducible refine gate_dst (N := 4) rfl ?_); (try (refine gate_guard (by rfl) ?_; dsimp only)); refine box_event ?hg (N := 4) ?hd (cs := #[.int .i64 0, .int .i64 0, .int .i64 0]) (t := 27) ?hr ?_; (case hd => rfl); (case hg => rfl); (case hr => first | (go_simp; done) | (go_simp; rfl)); intro gb256 hg w36 hbox hb; have BK256 := Aside0.mk (hbox); have GW256 := gw_ hg HB; have GE256 := gw_ hg HB; have NB253_256 := nl_ hg BK253; have NB256_253 := ng_ hg BK253; replace BK253 := bb_ BK253 hb; replace HB := bst_ HB hb; clear hb hbox hg; have hnb37 := NB256_253.out; have hnc37 := NB253_256.out; obtain ⟨hcz38_0, hcz38_1, hcz38_2⟩ := bcs3_ BK256; have hfz38_0 := blk_frozen BK256.out 0; have hfz38_1 := blk_frozen BK256.out 1; have hfz38_2 := blk_frozen BK256.out 2))
      have n0_ : Aside0 ((((w36.setCell ⟨gb256, 0, none⟩ (.int .i64 ((rd_T27 l0_1 x20_2).f0))).setCell ⟨gb256, 1, none⟩ (.int .i64 ((rd_T27 l0_1 x20_2).f1))).setCell ⟨gb256, 2, none⟩ (.int .i64 ((rd_T27 l0_1 x20_2).f2))).heap[gb253]? = some (.cells #[.int .i64 a0_0, .slice (some ad255) l0_1.length c0_1] 25 (0, 0))) := ⟨by (with_reducible repeat (first | refine blk_drewN ?_ _ | refine blk_drew ?_ | refine blk_alloc ?_ _)); refine blk_far ?_ NB253_256.out _; (with_reducible repeat (first | refine blk_drewN ?_ _ | refine blk_drew ?_ | refine blk_alloc ?_ _)); refine blk_far ?_ NB253_256.out _; (with_reducible repeat (first | refine blk_drewN ?_ _ | refine blk_drew ?_ | refine blk_alloc ?_ _)); refine blk_far ?_ NB253_256.out _; (with_reducible repeat (first | refine blk_drewN ?_ _ | refine blk_drew ?_ | refine blk_alloc ?_ _)); exact BK253.out⟩
      have n1_ : Aside0 ((((w36.setCell ⟨gb256, 0, none⟩ (.int .i64 ((rd_T27 l0_1 x20_2).f0))).setCell ⟨gb256, 1, none⟩ (.int .i64 ((rd_T27 l0_1 x20_2).f1))).setCell ⟨gb256, 2, none⟩ (.int .i64 ((rd_T27 l0_1 x20_2).f2))).heap[gb256]? = some (.cells #[.int .i64 ((rd_T27 l0_1 x20_2).f0), .int .i64 ((rd_T27 l0_1 x20_2).f1), .int .i64 ((rd_T27 l0_1 x20_2).f2)] 27 (0, 0))) := ⟨by (with_reducible repeat (first | refine blk_drewN ?_ _ | refine blk_drew ?_ | refine blk_alloc ?_ _)); refine blk_put (cs := #[.int .i64 ((rd_T27 l0_1 x20_2).f0), .int .i64 ((rd_T27 l0_1 x20_2).f1), .int .i64 0]) ?_ 2 _ rfl; (with_reducible repeat (first | refine blk_drewN ?_ _ | refine blk_drew ?_ | refine blk_alloc ?_ _)); refine blk_put (cs := #[.int .i64 ((rd_T27 l0_1 x20_2).f0), .int .i64 0, .int .i64 0]) ?_ 1 _ rfl; (with_reducible repeat (first | refine blk_drewN ?_ _ | refine blk_drew ?_ | refine blk_alloc ?_ _)); refine blk_put (cs := #[.int .i64 0, .int .i64 0, .int .i64 0]) ?_ 0 _ rfl; (with_reducible repeat (first | refine blk_drewN ?_ _ | refine blk_drew ?_ | refine blk_alloc ?_ _)); exact BK256.out⟩
      have n2_ : Aside0 (Below w.heap.size w (((w36.setCell ⟨gb256, 0, none⟩ (.int .i64 ((rd_T27 l0_1 x20_2).f0))).setCell ⟨gb256, 1, none⟩ (.int .i64 ((rd_T27 l0_1 x20_2).f1))).setCell ⟨gb256, 2, none⟩ (.int .i64 ((rd_T27 l0_1 x20_2).f2)))) := ⟨hB HB⟩
      (try clear BK253)
      (try clear BK256)
      (try clear HB)
      generalize (((w36.setCell ⟨gb256, 0, none⟩ (.int .i64 ((rd_T27 l0_1 x20_2).f0))).setCell ⟨gb256, 1, none⟩ (.int .i64 ((rd_T27 l0_1 x20_2).f1))).setCell ⟨gb256, 2, none⟩ (.int .i64 ((rd_T27 l0_1 x20_2).f2))) = w39 at n0_ n1_ n2_ ⊢
      have BK253 := n0_
      have BK256 := n1_
      have HB := n2_
      clear n0_ n1_ n2_
      replace BK253 := bd_ BK253
      replace BK256 := bd_ BK256
      replace HB := Aside0.mk (below_drew1 HB.out)
      have p259 : 0 ≤ ((ji25) : Int) := od_
      have q259 : (ji25) < (l0_1.length : Int) := od_
      obtain ⟨ad259, e259, hx259_0, hx259_1, hx259_2⟩ := at_T27 HR0_1.out (ji25) p259 q259
      have hw259_2 := hx259_2
      have hw259_1 := hx259_1
      have hw259_0 := hx259_0
      obtain rfl : ad255 = ad259 := (by injection e259)
      replace hx259_0 := hc_ HB hx259_0
      replace hx259_1 := hc_ HB hx259_1
      replace hx259_2 := hc_ HB hx259_2
      replace p259 := eq_true p259
      replace q259 := eq_true q259
      refine start_ (n := 28) (S := fun w' => w'.cell? ⟨gb256, 0, none⟩ = some (.int .i64 ((rd_T27 l0_1 x20_2).f0)) ∧ w'.cell? ⟨gb256, 1, none⟩ = some (.int .i64 ((rd_T27 l0_1 x20_2).f1)) ∧ w'.cell? ⟨gb256, 2, none⟩ = some (.int .i64 ((rd_T27 l0_1 x20_2).f2)) ∧ w'.cell? ⟨gb253, 0, none⟩ = some (.int .i64 a0_0) ∧ w'.cell? ⟨gb253, 1, none⟩ = some (.slice (some ad255) l0_1.length c0_1) ∧ w'.cell? (ad255.add (((ji25)).toNat * 3)) = some (.int .i64 ((rd_T27 l0_1 (ji25)).f0)) ∧ w'.cell? ⟨(ad255.add (((ji25)).toNat * 3)).block, (ad255.add (((ji25)).toNat * 3)).off + 1, none⟩ = some (.int .i64 ((rd_T27 l0_1 (ji25)).f1)) ∧ w'.cell? ⟨(ad255.add (((ji25)).toNat * 3)).block, (ad255.add (((ji25)).toNat * 3)).off + 2, none⟩ = some (.int .i64 ((rd_T27 l0_1 (ji25)).f2))) (ds := []) (bs 28 0) (by kernel_rfl) rfl rfl ⟨bc_ BK256 0, bc_ BK256 1, bc_ BK256 2, bc_ BK253 0, bc_ BK253 1, ((HB.out.cell (World.block_lt_of_cell? w _ hw259_0)).trans hw259_0), ((HB.out.cell (World.block_lt_of_cell? w _ hw259_1)).trans hw259_1), ((HB.out.cell (World.block_lt_of_cell? w _ hw259_2)).trans hw259_2)⟩ (fun hHeld => ?_); refine with_tabW impl_GoodTable.tab6 impl_GoodTable.bits6 (fun HT_ HW_ => ?_)
      generalize w39.drew = w40 at BK253 BK256 HB hx259_0 hx259_1 hx259_2 hHeld ⊢
      refine tk_ 0 25 (bs 28 1) HT_ HW_ hHeld ?_
      refine on_ 1 (some 26) (bs 28 3) HT_ (fun K hK => ?_)
      refine goes_ Try.func22 (by kernel_rfl) rfl #[.agg #[.int .i64 ((rd_T27 l0_1 x20_2).f0), .int .i64 ((rd_T27 l0_1 x20_2).f1), .int .i64 ((rd_T27 l0_1 x20_2).f2)]] (by rfl) rfl rfl tm_ ?_
      with_reducible refine (impl_isSeen.calls ((rd_T27 l0_1 x20_2).f0) ((rd_T27 l0_1 x20_2).f1) ((rd_T27 l0_1 x20_2).f2) true _ A13.out).mono ?_
      rintro e w41 ⟨rfl, hb⟩
      refine ⟨_, rfl, ?_⟩
      replace BK253 := bb_ BK253 hb
      replace BK256 := bb_ BK256 hb
      replace HB := bst_ HB hb
      clear hb
      refine hK.out _ _ ⟨bc_ BK256 0, bc_ BK256 1, bc_ BK256 2, bc_ BK253 0, bc_ BK253 1, ((HB.out.cell (World.block_lt_of_cell? w _ hw259_0)).trans hw259_0), ((HB.out.cell (World.block_lt_of_cell? w _ hw259_1)).trans hw259_1), ((HB.out.cell (World.block_lt_of_cell? w _ hw259_2)).trans hw259_2)⟩ (fun hHeld => ?_)
      clear hK K
      refine nm_ 26 ?_
      refine pu_ 2 27 (bs 28 7) HT_ ?_
      refine pu_ 3 28 (bs 28 15) HT_ ?_
      refine pu_ 4 29 (bs 28 31) HT_ ?_
      refine pu_ 6 31 (bs 28 95) HT_ ?_
      refine pu_ 9 34 (bs 28 607) HT_ ?_
      refine tk_ 5 30 (bs 28 639) HT_ HW_ hHeld ?_
      refine tk_ 7 32 (bs 28 767) HT_ HW_ hHeld ?_
      refine on_ 8 (some 33) (bs 28 1023) HT_ (fun K hK => ?_)
      refine goes_ Try.func27 (by kernel_rfl) rfl #[.slice (some ad255) l0_1.length c0_1, .int .i64 ((rd_T27 l0_1 x20_2).f0)] (by rfl) rfl rfl tm_ ?_
      with_reducible refine (impl_row.calls k2 _ _ l0_1 ((rd_T27 l0_1 x20_2).f0) t258 _ ?side1 ?side2 A15.out).mono ?_
      (case side1 => exact cb_ HR0_1 HB)
      (case side2 => exact HC0_1.out)
      rintro e w42 ⟨rfl, hb⟩
      refine ⟨_, rfl, ?_⟩
      replace BK253 := bb_ BK253 hb
      replace BK256 := bb_ BK256 hb
      replace HB := bst_ HB hb
      clear hb
      refine hK.out _ _ ⟨bc_ BK256 0, bc_ BK256 1, bc_ BK256 2, bc_ BK253 0, bc_ BK253 1, ((HB.out.cell (World.block_lt_of_cell? w _ hw259_0)).trans hw259_0), ((HB.out.cell (World.block_lt_of_cell? w _ hw259_1)).trans hw259_1), ((HB.out.cell (World.block_lt_of_cell? w _ hw259_2)).trans hw259_2)⟩ (fun hHeld => ?_)
      clear hK K
      refine nm_ 33 ?_
      refine pu_ 10 35 (bs 28 2047) HT_ ?_
      refine pu_ 11 36 (bs 28 4095) HT_ ?_
      refine pu_ 12 37 (bs 28 8191) HT_ ?_
      refine pu_ 13 38 (bs 28 16383) HT_ ?_
      refine pu_ 14 39 (bs 28 32767) HT_ ?_
      refine pu_ 15 40 (bs 28 65535) HT_ ?_
      refine pu_ 16 41 (bs 28 131071) HT_ ?_
      refine pu_ 18 43 (bs 28 393215) HT_ ?_
      refine pu_ 19 44 (bs 28 917503) HT_ ?_
      refine pu_ 23 48 (bs 28 9306111) HT_ ?_
      refine tk_ 17 42 (bs 28 9437183) HT_ HW_ hHeld ?_
      refine pu_ 20 45 (bs 28 10485759) HT_ ?_
      refine pu_ 21 46 (bs 28 12582911) HT_ ?_
      refine tk_ 22 47 (bs 28 16777215) HT_ HW_ hHeld ?_
      refine tk_ 24 49 (bs 28 33554431) HT_ HW_ hHeld ?_
      refine pu_ 25 50 (bs 28 67108863) HT_ ?_
      refine pu_ 26 51 (bs 28 134217727) HT_ ?_
      refine pu_ 27 52 (bs 28 268435455) HT_ ?_
      refine done_ (done_of HT_.out (by kernel_rfl)) ?_
      try go_wp2
      go_roundg k2
      case measure => have := HJ1.out; have := HK2.out; omega
      case rel => exact ⟨(wrap64 (x20_2 + 1)), (by first | rfl | (simp; done) | (simp [*]; done)), H', ⟨by have := HJ1.out; have := HK2.out; omega⟩, ⟨by (with_reducible repeat (first | refine blk_drewN ?_ _ | refine blk_drew ?_ | refine blk_alloc ?_ _)); exact BK253.out⟩, ⟨hB HB⟩⟩
     rw [if_pos c28] at H
     have c28b0 : decide (((rd_T27 l0_1 (ji25)).f2) < ((rd_T27 l0_1 x20_2).f2)) = true := decide_eq_true c28
     clear c28
     obtain rfl := Option.some.inj H
     have p255 : 0 ≤ (x20_2 : Int) := od_
     have q255 : x20_2 < (l0_1.length : Int) := od_
     obtain ⟨ad255, e255, hx255_0, hx255_1, hx255_2⟩ := at_T27 HR0_1.out x20_2 p255 q255
     cases e255
     replace hx255_0 := hc_ HB hx255_0
     replace hx255_1 := hc_ HB hx255_1
     replace hx255_2 := hc_ HB hx255_2
     replace p255 := eq_true p255
     replace q255 := eq_true q255
     try go_wp2_with (first | ((with_reducible refine gate_dst (N := 4) rfl ?_); (try (refine gate_guard (by rfl) ?_; dsimp only)); refine box_event ?hg (N := 4) ?hd (cs := #[.int .i64 0, .int .i64 0, .int .i64 0]) (t := 27) ?hr ?_; (case hd => rfl); (case hg => rfl); (case hr => first | (go_simp; done) | (go_simp; rfl)); intro gb256 hg w29 hbox hb; have BK256 := Aside0.mk (hbox); have GW256 := gw_ hg HB; have GE256 := gw_ hg HB; have NB253_256 := nl_ hg BK253; have NB256_253 := ng_ hg BK253; replace BK253 := bb_ BK253 hb; replace HB := bst_ HB hb; clear hb hbox hg; have hnb30 := NB256_253.out; have hnc30 := NB253_256.out; obtain ⟨hcz31_0, hcz31_1, hcz31_2⟩ := bcs3_ BK256; have hfz31_0 := blk_frozen BK256.out 0; have hfz31_1 := blk_frozen BK256.out 1; have hfz31_2 := blk_frozen BK256.out 2))
     have n0_ : Aside0 ((((w29.setCell ⟨gb256, 0, none⟩ (.int .i64 ((rd_T27 l0_1 x20_2).f0))).setCell ⟨gb256, 1, none⟩ (.int .i64 ((rd_T27 l0_1 x20_2).f1))).setCell ⟨gb256, 2, none⟩ (.int .i64 ((rd_T27 l0_1 x20_2).f2))).heap[gb253]? = some (.cells #[.int .i64 a0_0, .slice (some ad255) l0_1.length c0_1] 25 (0, 0))) := ⟨by (with_reducible repeat (first | refine blk_drewN ?_ _ | refine blk_drew ?_ | refine blk_alloc ?_ _)); refine blk_far ?_ NB253_256.out _; (with_reducible repeat (first | refine blk_drewN ?_ _ | refine blk_drew ?_ | refine blk_alloc ?_ _)); refine blk_far ?_ NB253_256.out _; (with_reducible repeat (first | refine blk_drewN ?_ _ | refine blk_drew ?_ | refine blk_alloc ?_ _)); refine blk_far ?_ NB253_256.out _; (with_reducible repeat (first | refine blk_drewN ?_ _ | refine blk_drew ?_ | refine blk_alloc ?_ _)); exact BK253.out⟩
     have n1_ : Aside0 ((((w29.setCell ⟨gb256, 0, none⟩ (.int .i64 ((rd_T27 l0_1 x20_2).f0))).setCell ⟨gb256, 1, none⟩ (.int .i64 ((rd_T27 l0_1 x20_2).f1))).setCell ⟨gb256, 2, none⟩ (.int .i64 ((rd_T27 l0_1 x20_2).f2))).heap[gb256]? = some (.cells #[.int .i64 ((rd_T27 l0_1 x20_2).f0), .int .i64 ((rd_T27 l0_1 x20_2).f1), .int .i64 ((rd_T27 l0_1 x20_2).f2)] 27 (0, 0))) := ⟨by (with_reducible repeat (first | refine blk_drewN ?_ _ | refine blk_drew ?_ | refine blk_alloc ?_ _)); refine blk_put (cs := #[.int .i64 ((rd_T27 l0_1 x20_2).f0), .int .i64 ((rd_T27 l0_1 x20_2).f1), .int .i64 0]) ?_ 2 _ rfl; (with_reducible repeat (first | refine blk_drewN ?_ _ | refine blk_drew ?_ | refine blk_alloc ?_ _)); refine blk_put (cs := #[.int .i64 ((rd_T27 l0_1 x20_2).f0), .int .i64 0, .int .i64 0]) ?_ 1 _ rfl; (with_reducible repeat (first | refine blk_drewN ?_ _ | refine blk_drew ?_ | refine blk_alloc ?_ _)); refine blk_put (cs := #[.int .i64 0, .int .i64 0, .int .i64 0]) ?_ 0 _ rfl; (with_reducible repeat (first | refine blk_drewN ?_ _ | refine blk_drew ?_ | refine blk_alloc ?_ _)); exact BK256.out⟩
     have n2_ : Aside0 (Below w.heap.size w (((w29.setCell ⟨gb256, 0, none⟩ (.int .i64 ((rd_T27 l0_1 x20_2).f0))).setCell ⟨gb256, 1, none⟩ (.int .i64 ((rd_T27 l0_1 x20_2).f1))).setCell ⟨gb256, 2, none⟩ (.int .i64 ((rd_T27 l0_1 x20_2).f2)))) := ⟨hB HB⟩
     (try clear BK253)
     (try clear BK256)
     (try clear HB)
     generalize (((w29.setCell ⟨gb256, 0, none⟩ (.int .i64 ((rd_T27 l0_1 x20_2).f0))).setCell ⟨gb256, 1, none⟩ (.int .i64 ((rd_T27 l0_1 x20_2).f1))).setCell ⟨gb256, 2, none⟩ (.int .i64 ((rd_T27 l0_1 x20_2).f2))) = w32 at n0_ n1_ n2_ ⊢
     have BK253 := n0_
     have BK256 := n1_
     have HB := n2_
     clear n0_ n1_ n2_
     replace BK253 := bd_ BK253
     replace BK256 := bd_ BK256
     replace HB := Aside0.mk (below_drew1 HB.out)
     have p259 : 0 ≤ ((ji25) : Int) := od_
     have q259 : (ji25) < (l0_1.length : Int) := od_
     obtain ⟨ad259, e259, hx259_0, hx259_1, hx259_2⟩ := at_T27 HR0_1.out (ji25) p259 q259
     have hw259_2 := hx259_2
     have hw259_1 := hx259_1
     have hw259_0 := hx259_0
     obtain rfl : ad255 = ad259 := (by injection e259)
     replace hx259_0 := hc_ HB hx259_0
     replace hx259_1 := hc_ HB hx259_1
     replace hx259_2 := hc_ HB hx259_2
     replace p259 := eq_true p259
     replace q259 := eq_true q259
     refine start_ (n := 28) (S := fun w' => w'.cell? ⟨gb256, 0, none⟩ = some (.int .i64 ((rd_T27 l0_1 x20_2).f0)) ∧ w'.cell? ⟨gb256, 1, none⟩ = some (.int .i64 ((rd_T27 l0_1 x20_2).f1)) ∧ w'.cell? ⟨gb256, 2, none⟩ = some (.int .i64 ((rd_T27 l0_1 x20_2).f2)) ∧ w'.cell? ⟨gb253, 0, none⟩ = some (.int .i64 a0_0) ∧ w'.cell? ⟨gb253, 1, none⟩ = some (.slice (some ad255) l0_1.length c0_1) ∧ w'.cell? (ad255.add (((ji25)).toNat * 3)) = some (.int .i64 ((rd_T27 l0_1 (ji25)).f0)) ∧ w'.cell? ⟨(ad255.add (((ji25)).toNat * 3)).block, (ad255.add (((ji25)).toNat * 3)).off + 1, none⟩ = some (.int .i64 ((rd_T27 l0_1 (ji25)).f1)) ∧ w'.cell? ⟨(ad255.add (((ji25)).toNat * 3)).block, (ad255.add (((ji25)).toNat * 3)).off + 2, none⟩ = some (.int .i64 ((rd_T27 l0_1 (ji25)).f2))) (ds := []) (bs 28 0) (by kernel_rfl) rfl rfl ⟨bc_ BK256 0, bc_ BK256 1, bc_ BK256 2, bc_ BK253 0, bc_ BK253 1, ((HB.out.cell (World.block_lt_of_cell? w _ hw259_0)).trans hw259_0), ((HB.out.cell (World.block_lt_of_cell? w _ hw259_1)).trans hw259_1), ((HB.out.cell (World.block_lt_of_cell? w _ hw259_2)).trans hw259_2)⟩ (fun hHeld => ?_); refine with_tabW impl_GoodTable.tab6 impl_GoodTable.bits6 (fun HT_ HW_ => ?_)
     generalize w32.drew = w33 at BK253 BK256 HB hx259_0 hx259_1 hx259_2 hHeld ⊢
     refine tk_ 0 25 (bs 28 1) HT_ HW_ hHeld ?_
     refine on_ 1 (some 26) (bs 28 3) HT_ (fun K hK => ?_)
     refine goes_ Try.func22 (by kernel_rfl) rfl #[.agg #[.int .i64 ((rd_T27 l0_1 x20_2).f0), .int .i64 ((rd_T27 l0_1 x20_2).f1), .int .i64 ((rd_T27 l0_1 x20_2).f2)]] (by rfl) rfl rfl tm_ ?_
     with_reducible refine (impl_isSeen.calls ((rd_T27 l0_1 x20_2).f0) ((rd_T27 l0_1 x20_2).f1) ((rd_T27 l0_1 x20_2).f2) true _ A13.out).mono ?_
     rintro e w34 ⟨rfl, hb⟩
     refine ⟨_, rfl, ?_⟩
     replace BK253 := bb_ BK253 hb
     replace BK256 := bb_ BK256 hb
     replace HB := bst_ HB hb
     clear hb
     refine hK.out _ _ ⟨bc_ BK256 0, bc_ BK256 1, bc_ BK256 2, bc_ BK253 0, bc_ BK253 1, ((HB.out.cell (World.block_lt_of_cell? w _ hw259_0)).trans hw259_0), ((HB.out.cell (World.block_lt_of_cell? w _ hw259_1)).trans hw259_1), ((HB.out.cell (World.block_lt_of_cell? w _ hw259_2)).trans hw259_2)⟩ (fun hHeld => ?_)
     clear hK K
     refine nm_ 26 ?_
     refine pu_ 2 27 (bs 28 7) HT_ ?_
     refine pu_ 3 28 (bs 28 15) HT_ ?_
     refine pu_ 4 29 (bs 28 31) HT_ ?_
     refine pu_ 6 31 (bs 28 95) HT_ ?_
     refine pu_ 9 34 (bs 28 607) HT_ ?_
     refine tk_ 5 30 (bs 28 639) HT_ HW_ hHeld ?_
     refine tk_ 7 32 (bs 28 767) HT_ HW_ hHeld ?_
     refine on_ 8 (some 33) (bs 28 1023) HT_ (fun K hK => ?_)
     refine goes_ Try.func27 (by kernel_rfl) rfl #[.slice (some ad255) l0_1.length c0_1, .int .i64 ((rd_T27 l0_1 x20_2).f0)] (by rfl) rfl rfl tm_ ?_
     with_reducible refine (impl_row.calls k2 _ _ l0_1 ((rd_T27 l0_1 x20_2).f0) t258 _ ?side1 ?side2 A15.out).mono ?_
     (case side1 => exact cb_ HR0_1 HB)
     (case side2 => exact HC0_1.out)
     rintro e w35 ⟨rfl, hb⟩
     refine ⟨_, rfl, ?_⟩
     replace BK253 := bb_ BK253 hb
     replace BK256 := bb_ BK256 hb
     replace HB := bst_ HB hb
     clear hb
     refine hK.out _ _ ⟨bc_ BK256 0, bc_ BK256 1, bc_ BK256 2, bc_ BK253 0, bc_ BK253 1, ((HB.out.cell (World.block_lt_of_cell? w _ hw259_0)).trans hw259_0), ((HB.out.cell (World.block_lt_of_cell? w _ hw259_1)).trans hw259_1), ((HB.out.cell (World.block_lt_of_cell? w _ hw259_2)).trans hw259_2)⟩ (fun hHeld => ?_)
     clear hK K
     refine nm_ 33 ?_
     refine pu_ 10 35 (bs 28 2047) HT_ ?_
     refine pu_ 11 36 (bs 28 4095) HT_ ?_
     refine pu_ 12 37 (bs 28 8191) HT_ ?_
     refine pu_ 13 38 (bs 28 16383) HT_ ?_
     refine pu_ 14 39 (bs 28 32767) HT_ ?_
     refine pu_ 15 40 (bs 28 65535) HT_ ?_
     refine pu_ 16 41 (bs 28 131071) HT_ ?_
     refine pu_ 18 43 (bs 28 393215) HT_ ?_
     refine pu_ 19 44 (bs 28 917503) HT_ ?_
     refine pu_ 23 48 (bs 28 9306111) HT_ ?_
     refine tk_ 17 42 (bs 28 9437183) HT_ HW_ hHeld ?_
     refine pu_ 20 45 (bs 28 10485759) HT_ ?_
     refine pu_ 21 46 (bs 28 12582911) HT_ ?_
     refine tk_ 22 47 (bs 28 16777215) HT_ HW_ hHeld ?_
     refine tk_ 24 49 (bs 28 33554431) HT_ HW_ hHeld ?_
     refine pu_ 25 50 (bs 28 67108863) HT_ ?_
     refine pu_ 26 51 (bs 28 134217727) HT_ ?_
     refine pu_ 27 52 (bs 28 268435455) HT_ ?_
     refine done_ (done_of HT_.out (by kernel_rfl)) ?_
     try go_wp2
     go_ret
     exact ⟨by first | rfl | (simp [errW_none, errW_some] <;> rfl) | (simp only [← hji25]; first | rfl | (simp [errW_none, errW_some] <;> rfl)) | (simp [*, errW_none, errW_some] <;> rfl), hB HB⟩

def impl_Table_kept.l0 (p_ : Int → Int → Int → Option Bool) : Nat → List (S27) → Int → Int → Int → List (S27) → Option (Int × (List (S27)))
 | 0, _, _, _, _, _ => none
 | k + 1, x12, x13, x14, x263000, x263001 => if x14 < x13 then (if 0 ≤ x14 then (if x14 < (x12.length : Int) then ((p_ ((rd_T27 x12 x14).f0) ((rd_T27 x12 x14).f1) ((rd_T27 x12 x14).f2)).bind fun t265 => (if t265 = true then (if x263001.length < 5864062014805 then (impl_Table_kept.l0 p_ k x12 x13 (wrap64 (x14 + 1)) x263000 (x263001 ++ [(⟨(rd_T27 x12 x14).f0, (rd_T27 x12 x14).f1, (rd_T27 x12 x14).f2⟩ : S27)])) else (none)) else (impl_Table_kept.l0 p_ k x12 x13 (wrap64 (x14 + 1)) x263000 x263001))) else (none)) else (none)) else (some (x263000, x263001))
def impl_Table_kept.f (k : Nat) (a0_0 : Int) (l0_1 : List (S27)) (p_ : Int → Int → Int → Option Bool) : Option (Int × (List (S27))) := impl_Table_kept.l0 p_ k l0_1 (l0_1.length : Int) 0 a0_0 ([] : List (S27))
theorem impl_Table_kept.mono_l (p_ : Int → Int → Int → Option Bool) : ∀ k, (∀ y0 y1 y2 y3 y4, LeO (impl_Table_kept.l0 p_ k y0 y1 y2 y3 y4) (impl_Table_kept.l0 p_ (k + 1) y0 y1 y2 y3 y4))
 | 0 => fun _ _ _ _ _ r h => by simp [impl_Table_kept.l0] at h
 | k + 1 => by
  have ih0 := impl_Table_kept.mono_l p_ k
  ·intro y0 y1 y2 y3 y4
   unfold impl_Table_kept.l0
   repeat' first
   | (with_reducible exact ih0 _ _ _ _ _)
   | with_reducible first | exact LeO.refl _ | exact LeO.none _ | refine LeO.ite ?_ ?_ | refine LeO.bind ?_ fun _ => ?_
theorem impl_Table_kept.mono : ∀ a0 a1 a2 k, LeO (impl_Table_kept.f k a0 a1 a2) (impl_Table_kept.f (k + 1) a0 a1 a2) := by
 intro a0 a1 a2 k
 have ih0 := impl_Table_kept.mono_l a2 k
 unfold impl_Table_kept.f
 repeat' first
   | (with_reducible exact ih0 _ _ _ _ _)
   | with_reducible first | exact LeO.refl _ | exact LeO.none _ | refine LeO.ite ?_ ?_ | refine LeO.bind ?_ fun _ => ?_
set_option maxHeartbeats 8000000 in
set_option maxRecDepth 100000 in
theorem impl_Table_kept.calls36 (k : Nat) (a0_0 : Int) (A0_1 : Option Addr) (c0_1 : Nat) (l0_1 : List (S27)) (p_ : Int → Int → Int → Option Bool) (gB0 : Nat) (r1 : Int) (r2 : List (S27)) (w : World) (hr0_1 : Kd.C k27 w A0_1 l0_1.length l0_1) (hc0_1 : l0_1.length ≤ c0_1) (hp_ : ∀ (W : World) (x y z : Int) (t : Bool), Below w.heap.size w W → p_ x y z = some t → Calls Try.prog 36 #[.agg #[.int .i64 x, .int .i64 y, .int .i64 z], .pointer (some ⟨gB0, 0, none⟩)] W fun e w' => e = .returned (.bool t) ∧ Below W.heap.size W w') (h : impl_Table_kept.f k a0_0 l0_1 p_ = some (r1, r2)) :
  Calls Try.prog 29 #[.agg #[.int .i64 a0_0, .slice A0_1 l0_1.length c0_1], .func (.func 36) #[] #[.pointer (some ⟨gB0, 0, none⟩)]] w fun e w' => ∃ v1_ : Value, e = .returned (.agg #[.int .i64 r1, v1_]) ∧ Kd.R k27 27 w' w.heap.size (fun _ => True) v1_ r2 ∧ Below w.heap.size w w' := by
 have HP_ := Aside0.mk hp_
 clear hp_
 have hu25 := Try.underlying25
 have hu27 := Try.underlying27
 have HR0_1 := Aside0.mk hr0_1
 have HC0_1 := Aside0.mk hc0_1
 clear hr0_1 hc0_1
 have HB := Aside0.mk (Below.refl w.heap.size w)
 have H : (impl_Table_kept.l0 p_ k l0_1 (l0_1.length : Int) 0 a0_0 ([] : List (S27))) = some (r1, r2) := h
 clear h
 have H' := Aside0.mk H
 clear H
 go_enter Try.func29, Try.ntmps29
 go_wp2_with (first | ((with_reducible refine gate_dst (N := 2) rfl ?_); refine box_event ?hg (N := 2) ?hd (cs := #[.int .i64 a0_0, .slice A0_1 l0_1.length c0_1]) (t := 25) ?hr ?_; (case hd => rfl); (case hg => rfl); (case hr => first | (go_simp; done) | (go_simp; rfl)); intro gb260 hg w3 hbox hb; have BK260 := Aside0.mk (hbox); have GW260 := gw_ hg HB; have GE260 := gw_ hg HB; replace HB := bst_ HB hb; clear hb hbox hg) | ((with_reducible refine gate_dst (N := 4) rfl ?_); refine box_event ?hg (N := 4) ?hd (cs := #[.int .i64 0, .slice none 0 0]) (t := 25) ?hr ?_; (case hd => rfl); (case hg => rfl); (case hr => first | (go_simp; done) | (go_simp; rfl)); intro gb261 hg w4 hbox hb; have BK261 := Aside0.mk (hbox); have GW261 := gw_ hg HB; have GE261 := gw_ hg HB; have NB260_261 := nl_ hg BK260; have NB261_260 := ng_ hg BK260; replace BK260 := bb_ BK260 hb; replace HB := bst_ HB hb; clear hb hbox hg; have hnb5 := NB260_261.out; have hnc5 := NB261_260.out; obtain ⟨hcz6_0, hcz6_1⟩ := bcs2_ BK260) | ((with_reducible refine gate_dst (N := 5) rfl ?_); refine box_event ?hg (N := 5) ?hd (cs := #[.int .i64 0, .slice none 0 0]) (t := 25) ?hr ?_; (case hd => rfl); (case hg => rfl); (case hr => first | (go_simp; done) | (go_simp; rfl)); intro gb262 hg w7 hbox hb; have BK262 := Aside0.mk (hbox); have GW262 := gw_ hg HB; have GE262 := gw_ hg HB; have NB260_262 := nl_ hg BK260; have NB262_260 := ng_ hg BK260; have NB261_262 := nl_ hg BK261; have NB262_261 := ng_ hg BK261; replace BK260 := bb_ BK260 hb; replace BK261 := bb_ BK261 hb; replace HB := bst_ HB hb; clear hb hbox hg; have hnb8 := NB262_260.out; have hnc8 := NB260_262.out; have hnb9 := NB262_261.out; have hnc9 := NB261_262.out; obtain ⟨hcz10_0, hcz10_1⟩ := bcs2_ BK262; have hfz10_0 := blk_frozen BK262.out 0; have hfz10_1 := blk_frozen BK262.out 1; obtain ⟨hcz11_0, hcz11_1⟩ := bcs2_ BK260))
 go_loopg [14] k (fun kq v14 w' => ∃ (x14_1 : Int) (x263001_1 : List (S27)) (u263001 : Value), v14 = .int .i64 x14_1 ∧ Aside0 (impl_Table_kept.l0 p_ kq l0_1 (l0_1.length : Int) x14_1 a0_0 x263001_1 = some (r1, r2)) ∧ Aside0 (kq ≤ k) ∧ Aside0 (Kd.R k27 27 w' w.heap.size (fun _ => True) u263001 x263001_1) ∧ Aside0 (w'.heap[gb260]? = some (.cells #[.int .i64 a0_0, (.slice A0_1 l0_1.length c0_1)] 25 (0, 0))) ∧ Aside0 (w'.heap[gb261]? = some (.cells #[.int .i64 0, (.slice none 0 0)] 25 (0, 0))) ∧ Aside0 (w'.heap[gb262]? = some (.cells #[.int .i64 a0_0, u263001] 25 (0, 0))) ∧ Aside0 (Below w.heap.size w w'))
 case atStart => exact ⟨(0), (([] : List (S27))), (.slice none 0 0), (by first | rfl | (simp; done) | (simp [*]; done)), H', ⟨Nat.le_refl _⟩, ⟨by first | exact Kd.R_nil _ _ _ _ _ | exact Kd.N_nil _ _ _ _ _ | exact Kd.V_nil _ _ _ _ _ | exact Kd.Q_nil _ _ _ _ _ | exact Kd.S_nil _ _ _ _ _⟩, ⟨by (with_reducible repeat (first | refine blk_drewN ?_ _ | refine blk_drew ?_ | refine blk_alloc ?_ _)); refine blk_far ?_ NB260_262.out _; (with_reducible repeat (first | refine blk_drewN ?_ _ | refine blk_drew ?_ | refine blk_alloc ?_ _)); refine blk_far ?_ NB260_262.out _; (with_reducible repeat (first | refine blk_drewN ?_ _ | refine blk_drew ?_ | refine blk_alloc ?_ _)); exact BK260.out⟩, ⟨by (with_reducible repeat (first | refine blk_drewN ?_ _ | refine blk_drew ?_ | refine blk_alloc ?_ _)); refine blk_far ?_ NB261_262.out _; (with_reducible repeat (first | refine blk_drewN ?_ _ | refine blk_drew ?_ | refine blk_alloc ?_ _)); refine blk_far ?_ NB261_262.out _; (with_reducible repeat (first | refine blk_drewN ?_ _ | refine blk_drew ?_ | refine blk_alloc ?_ _)); exact BK261.out⟩, ⟨by (with_reducible repeat (first | refine blk_drewN ?_ _ | refine blk_drew ?_ | refine blk_alloc ?_ _)); refine blk_put (cs := #[.int .i64 a0_0, .slice none 0 0]) ?_ 1 _ rfl; (with_reducible repeat (first | refine blk_drewN ?_ _ | refine blk_drew ?_ | refine blk_alloc ?_ _)); refine blk_put (cs := #[.int .i64 0, .slice none 0 0]) ?_ 0 _ rfl; (with_reducible repeat (first | refine blk_drewN ?_ _ | refine blk_drew ?_ | refine blk_alloc ?_ _)); exact BK262.out⟩, ⟨hB HB⟩⟩
 case round =>
  clear H'
  try clear hcz10_0
  try clear hcz10_1
  try clear hcz11_0
  try clear hcz11_1
  try clear hcz6_0
  try clear hcz6_1
  try clear hfz10_0
  try clear hfz10_1
  try clear hfz11_0
  try clear hfz11_1
  try clear hfz6_0
  try clear hfz6_1
  obtain ⟨x14_1, x263001_1, u263001, rfl, HA, HK1, HO_263001, BK260, BK261, BK262, HB⟩ := hrel
  cases gk with
  | zero => exact absurd HA.out (by simp [impl_Table_kept.l0])
  | succ k1 =>
   have H := HA.out
   clear HA
   simp only [impl_Table_kept.l0] at H
   by_cases c12 : x14_1 < (l0_1.length : Int)
   rotate_left
   ·rw [if_neg c12] at H
    have c12b0 : decide (x14_1 < (l0_1.length : Int)) = false := decide_eq_false c12
    clear c12
    simp only [Option.some.injEq, Prod.mk.injEq] at H
    obtain ⟨rfl, rfl⟩ := H
    have hnb37 := NB262_260.out
    have hnc37 := NB260_262.out
    have hnb38 := NB262_261.out
    have hnc38 := NB261_262.out
    have hcz39_0 : wr.cell? ⟨gb262, 0, none⟩ = some (.int .i64 a0_0) := bc_ BK262 0
    have hcz39_1 : wr.cell? ⟨gb262, 1, none⟩ = some (u263001) := bc_ BK262 1
    have hfz39_0 := blk_frozen BK262.out 0
    have hfz39_1 := blk_frozen BK262.out 1
    have hnb40 := NB261_260.out
    have hnc40 := NB260_261.out
    have hcz41_0 : wr.cell? ⟨gb261, 0, none⟩ = some (.int .i64 0) := bc_ BK261 0
    have hcz41_1 : wr.cell? ⟨gb261, 1, none⟩ = some (.slice none 0 0) := bc_ BK261 1
    have hfz41_0 := blk_frozen BK261.out 0
    have hfz41_1 := blk_frozen BK261.out 1
    obtain ⟨Ao42, co42, eo42⟩ := Kd.R_slice HO_263001.out
    subst eo42
    go_wp2
    refine bodyPost_ret (results_cell_row rfl _ _ gb261 25 #[.int .i64 a0_0, .slice Ao42 x263001_1.length co42] (0, 0) _ rfl (by (with_reducible repeat (first | refine blk_drewN ?_ _ | refine blk_drew ?_ | refine blk_alloc ?_ _)); refine blk_put (cs := #[.int .i64 a0_0, .slice none 0 0]) ?_ 1 _ rfl; (with_reducible repeat (first | refine blk_drewN ?_ _ | refine blk_drew ?_ | refine blk_alloc ?_ _)); refine blk_put (cs := #[.int .i64 0, .slice none 0 0]) ?_ 0 _ rfl; (with_reducible repeat (first | refine blk_drewN ?_ _ | refine blk_drew ?_ | refine blk_alloc ?_ _)); exact BK261.out) Try.underlying25 rfl (by kernel_rfl)) rfl ?_
    exact ⟨_, rt_, by (with_reducible repeat (first | apply Kd.R_alloc | apply Kd.R_drewN | apply Kd.R_drew)); exact Kd.R_mono (fs2_ HO_263001.out BK261.out) (fun _ hk => trivial), hB HB⟩
   rw [if_pos c12] at H
   have c12b0 : decide (x14_1 < (l0_1.length : Int)) = true := decide_eq_true c12
   clear c12
   by_cases c13 : 0 ≤ x14_1
   rotate_left
   ·rw [if_neg c13] at H
    exact absurd H (by simp)
   rw [if_pos c13] at H
   have c13b0 : decide (0 ≤ x14_1) = true := decide_eq_true c13
   clear c13
   by_cases c14 : x14_1 < (l0_1.length : Int)
   rotate_left
   ·rw [if_neg c14] at H
    exact absurd H (by simp)
   rw [if_pos c14] at H
   have c14b0 : decide (x14_1 < (l0_1.length : Int)) = true := decide_eq_true c14
   clear c14
   replace H := Option.bind_eq_some_iff.mp H
   obtain ⟨t265, A150, H⟩ := H
   replace H : (if t265 = true then (if x263001_1.length < 5864062014805 then (impl_Table_kept.l0 p_ k1 l0_1 (l0_1.length : Int) (wrap64 (x14_1 + 1)) a0_0 (x263001_1 ++ [(⟨(rd_T27 l0_1 x14_1).f0, (rd_T27 l0_1 x14_1).f1, (rd_T27 l0_1 x14_1).f2⟩ : S27)])) else (none)) else (impl_Table_kept.l0 p_ k1 l0_1 (l0_1.length : Int) (wrap64 (x14_1 + 1)) a0_0 x263001_1)) = some (r1, r2) := H
   have A15 := Aside0.mk A150
   clear A150
   by_cases c16 : t265 = true
   rotate_left
   ·replace c16 := Bool.eq_false_iff.mpr c16
    subst c16
    rw [if_neg (show ¬ (false = true) by decide)] at H
    have H' := Aside0.mk H
    clear H
    have p263 : 0 ≤ (x14_1 : Int) := od_
    have q263 : x14_1 < (l0_1.length : Int) := od_
    obtain ⟨ad263, e263, hx263_0, hx263_1, hx263_2⟩ := at_T27 HR0_1.out x14_1 p263 q263
    cases e263
    replace hx263_0 := hc_ HB hx263_0
    replace hx263_1 := hc_ HB hx263_1
    replace hx263_2 := hc_ HB hx263_2
    replace p263 := eq_true p263
    replace q263 := eq_true q263
    go_wp2_with (first | ((with_reducible refine gate_dst (N := 7) rfl ?_); refine box_event ?hg (N := 7) ?hd (cs := #[.int .i64 0, .int .i64 0, .int .i64 0]) (t := 27) ?hr ?_; (case hd => rfl); (case hg => rfl); (case hr => first | (go_simp; done) | (go_simp; rfl)); intro gb264 hg w31 hbox hb; have BK264 := Aside0.mk (hbox); have GW264 := gw_ hg HB; have GE264 := gw_ hg HB; have NB260_264 := nl_ hg BK260; have NB264_260 := ng_ hg BK260; have NB261_264 := nl_ hg BK261; have NB264_261 := ng_ hg BK261; have NB262_264 := nl_ hg BK262; have NB264_262 := ng_ hg BK262; replace HO_263001 := Aside0.mk (Kd.R_below (Kd.R_elderB (ra HO_263001.out) gb264 (Nat.le_of_eq hg.symm)) hb); replace BK260 := bb_ BK260 hb; replace BK261 := bb_ BK261 hb; replace BK262 := bb_ BK262 hb; replace HB := bst_ HB hb; clear hb hbox hg; have hnb32 := NB264_260.out; have hnc32 := NB260_264.out; have hnb33 := NB264_261.out; have hnc33 := NB261_264.out; have hnb34 := NB264_262.out; have hnc34 := NB262_264.out; obtain ⟨hcz35_0, hcz35_1, hcz35_2⟩ := bcs3_ BK264; have hfz35_0 := blk_frozen BK264.out 0; have hfz35_1 := blk_frozen BK264.out 1; have hfz35_2 := blk_frozen BK264.out 2) | (go_at_call 36; refine (HP_.out _ ((rd_T27 l0_1 x14_1).f0) ((rd_T27 l0_1 x14_1).f1) ((rd_T27 l0_1 x14_1).f2) false ?hb_ A15.out).mono ?_; (case hb_ => exact hB HB); rintro e w36 ⟨rfl, hb⟩; replace HO_263001 := Aside0.mk (Kd.R_below (ra (Kd.R_mono (Kd.R_far (p := ⟨gb264, 2, none⟩) (Kd.R_far (p := ⟨gb264, 1, none⟩) (Kd.R_far (p := ⟨gb264, 0, none⟩) (Kd.R_mono HO_263001.out (fun k_ hk => (⟨hk, hk.2⟩ : _ ∧ k_ ≠ gb264))) (fun _ hk => hk.2) (.int .i64 ((rd_T27 l0_1 x14_1).f0))) (fun _ hk => hk.2) (.int .i64 ((rd_T27 l0_1 x14_1).f1))) (fun _ hk => hk.2) (.int .i64 ((rd_T27 l0_1 x14_1).f2))) (fun _ h_ => h_.1))) hb); replace BK260 := Aside0.mk (blk_below (bx BK260) hb); replace BK261 := Aside0.mk (blk_below (bx BK261) hb); replace BK262 := Aside0.mk (blk_below (bx BK262) hb); replace BK264 := Aside0.mk (blk_below (g := gb264) (o := .cells #[.int .i64 ((rd_T27 l0_1 x14_1).f0), .int .i64 ((rd_T27 l0_1 x14_1).f1), .int .i64 ((rd_T27 l0_1 x14_1).f2)] 27 (0, 0)) (by (with_reducible repeat (first | refine blk_drewN ?_ _ | refine blk_drew ?_ | refine blk_alloc ?_ _)); refine blk_put (cs := #[.int .i64 ((rd_T27 l0_1 x14_1).f0), .int .i64 ((rd_T27 l0_1 x14_1).f1), .int .i64 0]) ?_ 2 _ rfl; (with_reducible repeat (first | refine blk_drewN ?_ _ | refine blk_drew ?_ | refine blk_alloc ?_ _)); refine blk_put (cs := #[.int .i64 ((rd_T27 l0_1 x14_1).f0), .int .i64 0, .int .i64 0]) ?_ 1 _ rfl; (with_reducible repeat (first | refine blk_drewN ?_ _ | refine blk_drew ?_ | refine blk_alloc ?_ _)); refine blk_put (cs := #[.int .i64 0, .int .i64 0, .int .i64 0]) ?_ 0 _ rfl; (with_reducible repeat (first | refine blk_drewN ?_ _ | refine blk_drew ?_ | refine blk_alloc ?_ _)); exact BK264.out) hb); replace HB := bst_ HB hb; clear hb))
    go_roundg k1
    case measure => have := HK1.out; omega
    case rel => exact ⟨(wrap64 (x14_1 + 1)), (x263001_1), (u263001), (by first | rfl | (simp; done) | (simp [*]; done)), H', ⟨by have := HK1.out; omega⟩, rm_ HO_263001 (fun _ hk => trivial), ⟨by (with_reducible repeat (first | refine blk_drewN ?_ _ | refine blk_drew ?_ | refine blk_alloc ?_ _)); exact BK260.out⟩, ⟨by (with_reducible repeat (first | refine blk_drewN ?_ _ | refine blk_drew ?_ | refine blk_alloc ?_ _)); exact BK261.out⟩, ⟨by (with_reducible repeat (first | refine blk_drewN ?_ _ | refine blk_drew ?_ | refine blk_alloc ?_ _)); exact BK262.out⟩, ⟨hB HB⟩⟩
   subst c16
   rw [if_pos rfl] at H
   by_cases c17 : x263001_1.length < 5864062014805
   rotate_left
   ·rw [if_neg c17] at H
    exact absurd H (by simp)
   rw [if_pos c17] at H
   have LMc17 := Aside0.mk c17
   clear c17
   obtain ⟨y266, hy266⟩ : ∃ y_ : List (S27), y_ = (x263001_1 ++ [(⟨(rd_T27 l0_1 x14_1).f0, (rd_T27 l0_1 x14_1).f1, (rd_T27 l0_1 x14_1).f2⟩ : S27)]) := ⟨_, rfl⟩
   replace H : (impl_Table_kept.l0 p_ k1 l0_1 (l0_1.length : Int) (wrap64 (x14_1 + 1)) a0_0 y266) = some (r1, r2) := by first | (rw [hy266]; with_reducible exact H) | (have H2_ := (Option.bind_some _ _).symm.trans H; rw [hy266]; with_reducible exact H2_) | (have H2_ := (Option.bind_some _ _).symm.trans H; with_reducible exact H2_) | with_reducible exact H | (rw [hy266]; exact H) | exact H
   have Ny266 := Aside0.mk hy266
   clear hy266
   have H' := Aside0.mk H
   clear H
   have p263 : 0 ≤ (x14_1 : Int) := od_
   have q263 : x14_1 < (l0_1.length : Int) := od_
   obtain ⟨ad263, e263, hx263_0, hx263_1, hx263_2⟩ := at_T27 HR0_1.out x14_1 p263 q263
   cases e263
   replace hx263_0 := hc_ HB hx263_0
   replace hx263_1 := hc_ HB hx263_1
   replace hx263_2 := hc_ HB hx263_2
   replace p263 := eq_true p263
   replace q263 := eq_true q263
   go_wp2_with (first | ((with_reducible refine gate_dst (N := 7) rfl ?_); refine box_event ?hg (N := 7) ?hd (cs := #[.int .i64 0, .int .i64 0, .int .i64 0]) (t := 27) ?hr ?_; (case hd => rfl); (case hg => rfl); (case hr => first | (go_simp; done) | (go_simp; rfl)); intro gb264 hg w18 hbox hb; have BK264 := Aside0.mk (hbox); have GW264 := gw_ hg HB; have GE264 := gw_ hg HB; have NB260_264 := nl_ hg BK260; have NB264_260 := ng_ hg BK260; have NB261_264 := nl_ hg BK261; have NB264_261 := ng_ hg BK261; have NB262_264 := nl_ hg BK262; have NB264_262 := ng_ hg BK262; replace HO_263001 := Aside0.mk (Kd.R_below (Kd.R_elderB (ra HO_263001.out) gb264 (Nat.le_of_eq hg.symm)) hb); replace BK260 := bb_ BK260 hb; replace BK261 := bb_ BK261 hb; replace BK262 := bb_ BK262 hb; replace HB := bst_ HB hb; clear hb hbox hg; have hnb19 := NB264_260.out; have hnc19 := NB260_264.out; have hnb20 := NB264_261.out; have hnc20 := NB261_264.out; have hnb21 := NB264_262.out; have hnc21 := NB262_264.out; obtain ⟨hcz22_0, hcz22_1, hcz22_2⟩ := bcs3_ BK264; have hfz22_0 := blk_frozen BK264.out 0; have hfz22_1 := blk_frozen BK264.out 1; have hfz22_2 := blk_frozen BK264.out 2) | (go_at_call 36; refine (HP_.out _ ((rd_T27 l0_1 x14_1).f0) ((rd_T27 l0_1 x14_1).f1) ((rd_T27 l0_1 x14_1).f2) true ?hb_ A15.out).mono ?_; (case hb_ => exact hB HB); rintro e w23 ⟨rfl, hb⟩; replace HO_263001 := Aside0.mk (Kd.R_below (ra (Kd.R_mono (Kd.R_far (p := ⟨gb264, 2, none⟩) (Kd.R_far (p := ⟨gb264, 1, none⟩) (Kd.R_far (p := ⟨gb264, 0, none⟩) (Kd.R_mono HO_263001.out (fun k_ hk => (⟨hk, hk.2⟩ : _ ∧ k_ ≠ gb264))) (fun _ hk => hk.2) (.int .i64 ((rd_T27 l0_1 x14_1).f0))) (fun _ hk => hk.2) (.int .i64 ((rd_T27 l0_1 x14_1).f1))) (fun _ hk => hk.2) (.int .i64 ((rd_T27 l0_1 x14_1).f2))) (fun _ h_ => h_.1))) hb); replace BK260 := Aside0.mk (blk_below (bx BK260) hb); replace BK261 := Aside0.mk (blk_below (bx BK261) hb); replace BK262 := Aside0.mk (blk_below (bx BK262) hb); replace BK264 := Aside0.mk (blk_below (g := gb264) (o := .cells #[.int .i64 ((rd_T27 l0_1 x14_1).f0), .int .i64 ((rd_T27 l0_1 x14_1).f1), .int .i64 ((rd_T27 l0_1 x14_1).f2)] 27 (0, 0)) (by (with_reducible repeat (first | refine blk_drewN ?_ _ | refine blk_drew ?_ | refine blk_alloc ?_ _)); refine blk_put (cs := #[.int .i64 ((rd_T27 l0_1 x14_1).f0), .int .i64 ((rd_T27 l0_1 x14_1).f1), .int .i64 0]) ?_ 2 _ rfl; (with_reducible repeat (first | refine blk_drewN ?_ _ | refine blk_drew ?_ | refine blk_alloc ?_ _)); refine blk_put (cs := #[.int .i64 ((rd_T27 l0_1 x14_1).f0), .int .i64 0, .int .i64 0]) ?_ 1 _ rfl; (with_reducible repeat (first | refine blk_drewN ?_ _ | refine blk_drew ?_ | refine blk_alloc ?_ _)); refine blk_put (cs := #[.int .i64 0, .int .i64 0, .int .i64 0]) ?_ 0 _ rfl; (with_reducible repeat (first | refine blk_drewN ?_ _ | refine blk_drew ?_ | refine blk_alloc ?_ _)); exact BK264.out) hb); replace HB := bst_ HB hb; clear hb; have hnb24 := NB262_260.out; have hnc24 := NB260_262.out; have hnb25 := NB262_261.out; have hnc25 := NB261_262.out; obtain ⟨hcz26_0, hcz26_1⟩ := bcs2_ BK262; have hfz26_0 := blk_frozen BK262.out 0; have hfz26_1 := blk_frozen BK262.out 1; obtain ⟨hcz27_0, hcz27_1, hcz27_2⟩ := bcs3_ BK264; have hfz27_0 := blk_frozen BK264.out 0; have hfz27_1 := blk_frozen BK264.out 1; have hfz27_2 := blk_frozen BK264.out 2) | ((with_reducible refine gate_builtin (b := .append) (xs := #[.tmp 22, .tmp 24]) rfl ?_); at_builtin; refine Kd.R_append k27 (w0 := w) w.heap.size rfl (.tmp 22) (.tmp 24) 23 27 (.agg #[(.int .i64 0), (.int .i64 0), (.int .i64 0)]) 24 rfl Try.underlying23 info27 rfl (by decide) (by omega) u263001 x263001_1 (⟨(rd_T27 l0_1 x14_1).f0, (rd_T27 l0_1 x14_1).f1, (rd_T27 l0_1 x14_1).f2⟩ : S27) [.int .i64 ((rd_T27 l0_1 x14_1).f0), .int .i64 ((rd_T27 l0_1 x14_1).f1), .int .i64 ((rd_T27 l0_1 x14_1).f2)] (fun k_ => k_ ≠ gb264) (fun _ => False) rfl rfl ?aP (fun _ hk => hk.elim) ?aF ?aO ?aB ?aS ?aL ?_; (case aP => exact k27_mkM _ _ _ (⟨(rd_T27 l0_1 x14_1).f0, (rd_T27 l0_1 x14_1).f1, (rd_T27 l0_1 x14_1).f2⟩ : S27)); (case aB => exact (hB HB)); (case aF => exact (fun k_ hk => Kd.freshB (g := gb264) (o := .cells #[.int .i64 ((rd_T27 l0_1 x14_1).f0), .int .i64 ((rd_T27 l0_1 x14_1).f1), .int .i64 ((rd_T27 l0_1 x14_1).f2)] 27 (0, 0)) (ba BK264.out) k_ hk)); (case aO => exact (rm_ HO_263001 (fun _ hk => hk.2)).out); (case aS => exact (below_size (hB HB))); (case aL => have := LMc17.out; omega); intro v267 w28 ho hb hg hat; rw [← Ny266.out] at ho; have HO268 := Aside0.mk (ho); replace BK260 := Aside0.mk (blk_grown (g := gb260) (o := .cells #[.int .i64 a0_0, .slice (some ad263) l0_1.length c0_1] 25 (0, 0)) (ba BK260.out) hg (Kd.R_ne HO_263001.out BK260.out (by decide))); replace BK261 := Aside0.mk (blk_grown (g := gb261) (o := .cells #[.int .i64 0, .slice none 0 0] 25 (0, 0)) (ba BK261.out) hg (Kd.R_ne HO_263001.out BK261.out (by decide))); replace BK262 := Aside0.mk (blk_grown (g := gb262) (o := .cells #[.int .i64 a0_0, u263001] 25 (0, 0)) (ba BK262.out) hg (Kd.R_ne HO_263001.out BK262.out (by decide))); replace BK264 := Aside0.mk (blk_grown (g := gb264) (o := .cells #[.int .i64 ((rd_T27 l0_1 x14_1).f0), .int .i64 ((rd_T27 l0_1 x14_1).f1), .int .i64 ((rd_T27 l0_1 x14_1).f2)] 27 (0, 0)) (ba BK264.out) hg (Kd.R_away HO_263001.out (fun _ hk => hk.2))); replace HB := Aside0.mk (hb); clear HO_263001; clear ho hb hg hat; obtain ⟨Ao29, co29, eo29⟩ := Kd.R_slice HO268.out; subst eo29; obtain ⟨hcz30_0, hcz30_1⟩ := bcs2_ BK262; have hfz30_0 := blk_frozen BK262.out 0; have hfz30_1 := blk_frozen BK262.out 1))
   go_roundg k1
   case measure => have := HK1.out; omega
   case rel => exact ⟨(wrap64 (x14_1 + 1)), (y266), (.slice Ao29 y266.length co29), (by first | rfl | (simp; done) | (simp [*]; done)), H', ⟨by have := HK1.out; omega⟩, ⟨by (with_reducible repeat (first | apply Kd.R_alloc | apply Kd.R_drewN | apply Kd.R_drew)); exact Kd.R_mono (Kd.R_far (p := ⟨gb262, 1, none⟩) (Kd.R_types HO268.out BK262.out (by decide)) (fun _ hk => hk.2) (.slice Ao29 y266.length co29)) (fun _ hk => trivial)⟩, ⟨by (with_reducible repeat (first | refine blk_drewN ?_ _ | refine blk_drew ?_ | refine blk_alloc ?_ _)); refine blk_far ?_ NB260_262.out _; (with_reducible repeat (first | refine blk_drewN ?_ _ | refine blk_drew ?_ | refine blk_alloc ?_ _)); exact BK260.out⟩, ⟨by (with_reducible repeat (first | refine blk_drewN ?_ _ | refine blk_drew ?_ | refine blk_alloc ?_ _)); refine blk_far ?_ NB261_262.out _; (with_reducible repeat (first | refine blk_drewN ?_ _ | refine blk_drew ?_ | refine blk_alloc ?_ _)); exact BK261.out⟩, ⟨by (with_reducible repeat (first | refine blk_drewN ?_ _ | refine blk_drew ?_ | refine blk_alloc ?_ _)); refine blk_put (cs := #[.int .i64 a0_0, u263001]) ?_ 1 _ rfl; (with_reducible repeat (first | refine blk_drewN ?_ _ | refine blk_drew ?_ | refine blk_alloc ?_ _)); exact BK262.out⟩, ⟨hB HB⟩⟩
set_option maxHeartbeats 8000000 in
set_option maxRecDepth 100000 in
theorem impl_Table_kept.calls30 (k : Nat) (a0_0 : Int) (A0_1 : Option Addr) (c0_1 : Nat) (l0_1 : List (S27)) (p_ : Int → Int → Int → Option Bool) (gB0 : Nat) (r1 : Int) (r2 : List (S27)) (w : World) (hr0_1 : Kd.C k27 w A0_1 l0_1.length l0_1) (hc0_1 : l0_1.length ≤ c0_1) (hp_ : ∀ (W : World) (x y z : Int) (t : Bool), Below w.heap.size w W → p_ x y z = some t → Calls Try.prog 30 #[.agg #[.int .i64 x, .int .i64 y, .int .i64 z], .pointer (some ⟨gB0, 0, none⟩)] W fun e w' => e = .returned (.bool t) ∧ Below W.heap.size W w') (h : impl_Table_kept.f k a0_0 l0_1 p_ = some (r1, r2)) :
  Calls Try.prog 29 #[.agg #[.int .i64 a0_0, .slice A0_1 l0_1.length c0_1], .func (.func 30) #[] #[.pointer (some ⟨gB0, 0, none⟩)]] w fun e w' => ∃ v1_ : Value, e = .returned (.agg #[.int .i64 r1, v1_]) ∧ Kd.R k27 27 w' w.heap.size (fun _ => True) v1_ r2 ∧ Below w.heap.size w w' := by
 have HP_ := Aside0.mk hp_
 clear hp_
 have hu25 := Try.underlying25
 have hu27 := Try.underlying27
 have HR0_1 := Aside0.mk hr0_1
 have HC0_1 := Aside0.mk hc0_1
 clear hr0_1 hc0_1
 have HB := Aside0.mk (Below.refl w.heap.size w)
 have H : (impl_Table_kept.l0 p_ k l0_1 (l0_1.length : Int) 0 a0_0 ([] : List (S27))) = some (r1, r2) := h
 clear h
 have H' := Aside0.mk H
 clear H
 go_enter Try.func29, Try.ntmps29
 go_wp2_with (first | ((with_reducible refine gate_dst (N := 2) rfl ?_); refine box_event ?hg (N := 2) ?hd (cs := #[.int .i64 a0_0, .slice A0_1 l0_1.length c0_1]) (t := 25) ?hr ?_; (case hd => rfl); (case hg => rfl); (case hr => first | (go_simp; done) | (go_simp; rfl)); intro gb260 hg w3 hbox hb; have BK260 := Aside0.mk (hbox); have GW260 := gw_ hg HB; have GE260 := gw_ hg HB; replace HB := bst_ HB hb; clear hb hbox hg) | ((with_reducible refine gate_dst (N := 4) rfl ?_); refine box_event ?hg (N := 4) ?hd (cs := #[.int .i64 0, .slice none 0 0]) (t := 25) ?hr ?_; (case hd => rfl); (case hg => rfl); (case hr => first | (go_simp; done) | (go_simp; rfl)); intro gb261 hg w4 hbox hb; have BK261 := Aside0.mk (hbox); have GW261 := gw_ hg HB; have GE261 := gw_ hg HB; have NB260_261 := nl_ hg BK260; have NB261_260 := ng_ hg BK260; replace BK260 := bb_ BK260 hb; replace HB := bst_ HB hb; clear hb hbox hg; have hnb5 := NB260_261.out; have hnc5 := NB261_260.out; obtain ⟨hcz6_0, hcz6_1⟩ := bcs2_ BK260) | ((with_reducible refine gate_dst (N := 5) rfl ?_); refine box_event ?hg (N := 5) ?hd (cs := #[.int .i64 0, .slice none 0 0]) (t := 25) ?hr ?_; (case hd => rfl); (case hg => rfl); (case hr => first | (go_simp; done) | (go_simp; rfl)); intro gb262 hg w7 hbox hb; have BK262 := Aside0.mk (hbox); have GW262 := gw_ hg HB; have GE262 := gw_ hg HB; have NB260_262 := nl_ hg BK260; have NB262_260 := ng_ hg BK260; have NB261_262 := nl_ hg BK261; have NB262_261 := ng_ hg BK261; replace BK260 := bb_ BK260 hb; replace BK261 := bb_ BK261 hb; replace HB := bst_ HB hb; clear hb hbox hg; have hnb8 := NB262_260.out; have hnc8 := NB260_262.out; have hnb9 := NB262_261.out; have hnc9 := NB261_262.out; obtain ⟨hcz10_0, hcz10_1⟩ := bcs2_ BK262; have hfz10_0 := blk_frozen BK262.out 0; have hfz10_1 := blk_frozen BK262.out 1; obtain ⟨hcz11_0, hcz11_1⟩ := bcs2_ BK260))
 go_loopg [14] k (fun kq v14 w' => ∃ (x14_1 : Int) (x263001_1 : List (S27)) (u263001 : Value), v14 = .int .i64 x14_1 ∧ Aside0 (impl_Table_kept.l0 p_ kq l0_1 (l0_1.length : Int) x14_1 a0_0 x263001_1 = some (r1, r2)) ∧ Aside0 (kq ≤ k) ∧ Aside0 (Kd.R k27 27 w' w.heap.size (fun _ => True) u263001 x263001_1) ∧ Aside0 (w'.heap[gb260]? = some (.cells #[.int .i64 a0_0, (.slice A0_1 l0_1.length c0_1)] 25 (0, 0))) ∧ Aside0 (w'.heap[gb261]? = some (.cells #[.int .i64 0, (.slice none 0 0)] 25 (0, 0))) ∧ Aside0 (w'.heap[gb262]? = some (.cells #[.int .i64 a0_0, u263001] 25 (0, 0))) ∧ Aside0 (Below w.heap.size w w'))
 case atStart => exact ⟨(0), (([] : List (S27))), (.slice none 0 0), (by first | rfl | (simp; done) | (simp [*]; done)), H', ⟨Nat.le_refl _⟩, ⟨by first | exact Kd.R_nil _ _ _ _ _ | exact Kd.N_nil _ _ _ _ _ | exact Kd.V_nil _ _ _ _ _ | exact Kd.Q_nil _ _ _ _ _ | exact Kd.S_nil _ _ _ _ _⟩, ⟨by (with_reducible repeat (first | refine blk_drewN ?_ _ | refine blk_drew ?_ | refine blk_alloc ?_ _)); refine blk_far ?_ NB260_262.out _; (with_reducible repeat (first | refine blk_drewN ?_ _ | refine blk_drew ?_ | refine blk_alloc ?_ _)); refine blk_far ?_ NB260_262.out _; (with_reducible repeat (first | refine blk_drewN ?_ _ | refine blk_drew ?_ | refine blk_alloc ?_ _)); exact BK260.out⟩, ⟨by (with_reducible repeat (first | refine blk_drewN ?_ _ | refine blk_drew ?_ | refine blk_alloc ?_ _)); refine blk_far ?_ NB261_262.out _; (with_reducible repeat (first | refine blk_drewN ?_ _ | refine blk_drew ?_ | refine blk_alloc ?_ _)); refine blk_far ?_ NB261_262.out _; (with_reducible repeat (first | refine blk_drewN ?_ _ | refine blk_drew ?_ | refine blk_alloc ?_ _)); exact BK261.out⟩, ⟨by (with_reducible repeat (first | refine blk_drewN ?_ _ | refine blk_drew ?_ | refine blk_alloc ?_ _)); refine blk_put (cs := #[.int .i64 a0_0, .slice none 0 0]) ?_ 1 _ rfl; (with_reducible repeat (first | refine blk_drewN ?_ _ | refine blk_drew ?_ | refine blk_alloc ?_ _)); refine blk_put (cs := #[.int .i64 0, .slice none 0 0]) ?_ 0 _ rfl; (with_reducible repeat (first | refine blk_drewN ?_ _ | refine blk_drew ?_ | refine blk_alloc ?_ _)); exact BK262.out⟩, ⟨hB HB⟩⟩
 case round =>
  clear H'
  try clear hcz10_0
  try clear hcz10_1
  try clear hcz11_0
  try clear hcz11_1
  try clear hcz6_0
  try clear hcz6_1
  try clear hfz10_0
  try clear hfz10_1
  try clear hfz11_0
  try clear hfz11_1
  try clear hfz6_0
  try clear hfz6_1
  obtain ⟨x14_1, x263001_1, u263001, rfl, HA, HK1, HO_263001, BK260, BK261, BK262, HB⟩ := hrel
  cases gk with
  | zero => exact absurd HA.out (by simp [impl_Table_kept.l0])
  | succ k1 =>
   have H := HA.out
   clear HA
   simp only [impl_Table_kept.l0] at H
   by_cases c12 : x14_1 < (l0_1.length : Int)
   rotate_left
   ·rw [if_neg c12] at H
    have c12b0 : decide (x14_1 < (l0_1.length : Int)) = false := decide_eq_false c12
    clear c12
    simp only [Option.some.injEq, Prod.mk.injEq] at H
    obtain ⟨rfl, rfl⟩ := H
    have hnb37 := NB262_260.out
    have hnc37 := NB260_262.out
    have hnb38 := NB262_261.out
    have hnc38 := NB261_262.out
    have hcz39_0 : wr.cell? ⟨gb262, 0, none⟩ = some (.int .i64 a0_0) := bc_ BK262 0
    have hcz39_1 : wr.cell? ⟨gb262, 1, none⟩ = some (u263001) := bc_ BK262 1
    have hfz39_0 := blk_frozen BK262.out 0
    have hfz39_1 := blk_frozen BK262.out 1
    have hnb40 := NB261_260.out
    have hnc40 := NB260_261.out
    have hcz41_0 : wr.cell? ⟨gb261, 0, none⟩ = some (.int .i64 0) := bc_ BK261 0
    have hcz41_1 : wr.cell? ⟨gb261, 1, none⟩ = some (.slice none 0 0) := bc_ BK261 1
    have hfz41_0 := blk_frozen BK261.out 0
    have hfz41_1 := blk_frozen BK261.out 1
    obtain ⟨Ao42, co42, eo42⟩ := Kd.R_slice HO_263001.out
    subst eo42
    go_wp2
    refine bodyPost_ret (results_cell_row rfl _ _ gb261 25 #[.int .i64 a0_0, .slice Ao42 x263001_1.length co42] (0, 0) _ rfl (by (with_reducible repeat (first | refine blk_drewN ?_ _ | refine blk_drew ?_ | refine blk_alloc ?_ _)); refine blk_put (cs := #[.int .i64 a0_0, .slice none 0 0]) ?_ 1 _ rfl; (with_reducible repeat (first | refine blk_drewN ?_ _ | refine blk_drew ?_ | refine blk_alloc ?_ _)); refine blk_put (cs := #[.int .i64 0, .slice none 0 0]) ?_ 0 _ rfl; (with_reducible repeat (first | refine blk_drewN ?_ _ | refine blk_drew ?_ | refine blk_alloc ?_ _)); exact BK261.out) Try.underlying25 rfl (by kernel_rfl)) rfl ?_
    exact ⟨_, rt_, by (with_reducible repeat (first | apply Kd.R_alloc | apply Kd.R_drewN | apply Kd.R_drew)); exact Kd.R_mono (fs2_ HO_263001.out BK261.out) (fun _ hk => trivial), hB HB⟩
   rw [if_pos c12] at H
   have c12b0 : decide (x14_1 < (l0_1.length : Int)) = true := decide_eq_true c12
   clear c12
   by_cases c13 : 0 ≤ x14_1
   rotate_left
   ·rw [if_neg c13] at H
    exact absurd H (by simp)
   rw [if_pos c13] at H
   have c13b0 : decide (0 ≤ x14_1) = true := decide_eq_true c13
   clear c13
   by_cases c14 : x14_1 < (l0_1.length : Int)
   rotate_left
   ·rw [if_neg c14] at H
    exact absurd H (by simp)
   rw [if_pos c14] at H
   have c14b0 : decide (x14_1 < (l0_1.length : Int)) = true := decide_eq_true c14
   clear c14
   replace H := Option.bind_eq_some_iff.mp H
   obtain ⟨t265, A150, H⟩ := H
   replace H : (if t265 = true then (if x263001_1.length < 5864062014805 then (impl_Table_kept.l0 p_ k1 l0_1 (l0_1.length : Int) (wrap64 (x14_1 + 1)) a0_0 (x263001_1 ++ [(⟨(rd_T27 l0_1 x14_1).f0, (rd_T27 l0_1 x14_1).f1, (rd_T27 l0_1 x14_1).f2⟩ : S27)])) else (none)) else (impl_Table_kept.l0 p_ k1 l0_1 (l0_1.length : Int) (wrap64 (x14_1 + 1)) a0_0 x263001_1)) = some (r1, r2) := H
   have A15 := Aside0.mk A150
   clear A150
   by_cases c16 : t265 = true
   rotate_left
   ·replace c16 := Bool.eq_false_iff.mpr c16
    subst c16
    rw [if_neg (show ¬ (false = true) by decide)] at H
    have H' := Aside0.mk H
    clear H
    have p263 : 0 ≤ (x14_1 : Int) := od_
    have q263 : x14_1 < (l0_1.length : Int) := od_
    obtain ⟨ad263, e263, hx263_0, hx263_1, hx263_2⟩ := at_T27 HR0_1.out x14_1 p263 q263
    cases e263
    replace hx263_0 := hc_ HB hx263_0
    replace hx263_1 := hc_ HB hx263_1
    replace hx263_2 := hc_ HB hx263_2
    replace p263 := eq_true p263
    replace q263 := eq_true q263
    go_wp2_with (first | ((with_reducible refine gate_dst (N := 7) rfl ?_); refine box_event ?hg (N := 7) ?hd (cs := #[.int .i64 0, .int .i64 0, .int .i64 0]) (t := 27) ?hr ?_; (case hd => rfl); (case hg => rfl); (case hr => first | (go_simp; done) | (go_simp; rfl)); intro gb264 hg w31 hbox hb; have BK264 := Aside0.mk (hbox); have GW264 := gw_ hg HB; have GE264 := gw_ hg HB; have NB260_264 := nl_ hg BK260; have NB264_260 := ng_ hg BK260; have NB261_264 := nl_ hg BK261; have NB264_261 := ng_ hg BK261; have NB262_264 := nl_ hg BK262; have NB264_262 := ng_ hg BK262; replace HO_263001 := Aside0.mk (Kd.R_below (Kd.R_elderB (ra HO_263001.out) gb264 (Nat.le_of_eq hg.symm)) hb); replace BK260 := bb_ BK260 hb; replace BK261 := bb_ BK261 hb; replace BK262 := bb_ BK262 hb; replace HB := bst_ HB hb; clear hb hbox hg; have hnb32 := NB264_260.out; have hnc32 := NB260_264.out; have hnb33 := NB264_261.out; have hnc33 := NB261_264.out; have hnb34 := NB264_262.out; have hnc34 := NB262_264.out; obtain ⟨hcz35_0, hcz35_1, hcz35_2⟩ := bcs3_ BK264; have hfz35_0 := blk_frozen BK264.out 0; have hfz35_1 := blk_frozen BK264.out 1; have hfz35_2 := blk_frozen BK264.out 2) | (go_at_call 30; refine (HP_.out _ ((rd_T27 l0_1 x14_1).f0) ((rd_T27 l0_1 x14_1).f1) ((rd_T27 l0_1 x14_1).f2) false ?hb_ A15.out).mono ?_; (case hb_ => exact hB HB); rintro e w36 ⟨rfl, hb⟩; replace HO_263001 := Aside0.mk (Kd.R_below (ra (Kd.R_mono (Kd.R_far (p := ⟨gb264, 2, none⟩) (Kd.R_far (p := ⟨gb264, 1, none⟩) (Kd.R_far (p := ⟨gb264, 0, none⟩) (Kd.R_mono HO_263001.out (fun k_ hk => (⟨hk, hk.2⟩ : _ ∧ k_ ≠ gb264))) (fun _ hk => hk.2) (.int .i64 ((rd_T27 l0_1 x14_1).f0))) (fun _ hk => hk.2) (.int .i64 ((rd_T27 l0_1 x14_1).f1))) (fun _ hk => hk.2) (.int .i64 ((rd_T27 l0_1 x14_1).f2))) (fun _ h_ => h_.1))) hb); replace BK260 := Aside0.mk (blk_below (bx BK260) hb); replace BK261 := Aside0.mk (blk_below (bx BK261) hb); replace BK262 := Aside0.mk (blk_below (bx BK262) hb); replace BK264 := Aside0.mk (blk_below (g := gb264) (o := .cells #[.int .i64 ((rd_T27 l0_1 x14_1).f0), .int .i64 ((rd_T27 l0_1 x14_1).f1), .int .i64 ((rd_T27 l0_1 x14_1).f2)] 27 (0, 0)) (by (with_reducible repeat (first | refine blk_drewN ?_ _ | refine blk_drew ?_ | refine blk_alloc ?_ _)); refine blk_put (cs := #[.int .i64 ((rd_T27 l0_1 x14_1).f0), .int .i64 ((rd_T27 l0_1 x14_1).f1), .int .i64 0]) ?_ 2 _ rfl; (with_reducible repeat (first | refine blk_drewN ?_ _ | refine blk_drew ?_ | refine blk_alloc ?_ _)); refine blk_put (cs := #[.int .i64 ((rd_T27 l0_1 x14_1).f0), .int .i64 0, .int .i64 0]) ?_ 1 _ rfl; (with_reducible repeat (first | refine blk_drewN ?_ _ | refine blk_drew ?_ | refine blk_alloc ?_ _)); refine blk_put (cs := #[.int .i64 0, .int .i64 0, .int .i64 0]) ?_ 0 _ rfl; (with_reducible repeat (first | refine blk_drewN ?_ _ | refine blk_drew ?_ | refine blk_alloc ?_ _)); exact BK264.out) hb); replace HB := bst_ HB hb; clear hb))
    go_roundg k1
    case measure => have := HK1.out; omega
    case rel => exact ⟨(wrap64 (x14_1 + 1)), (x263001_1), (u263001), (by first | rfl | (simp; done) | (simp [*]; done)), H', ⟨by have := HK1.out; omega⟩, rm_ HO_263001 (fun _ hk => trivial), ⟨by (with_reducible repeat (first | refine blk_drewN ?_ _ | refine blk_drew ?_ | refine blk_alloc ?_ _)); exact BK260.out⟩, ⟨by (with_reducible repeat (first | refine blk_drewN ?_ _ | refine blk_drew ?_ | refine blk_alloc ?_ _)); exact BK261.out⟩, ⟨by (with_reducible repeat (first | refine blk_drewN ?_ _ | refine blk_drew ?_ | refine blk_alloc ?_ _)); exact BK262.out⟩, ⟨hB HB⟩⟩
   subst c16
   rw [if_pos rfl] at H
   by_cases c17 : x263001_1.length < 5864062014805
   rotate_left
   ·rw [if_neg c17] at H
    exact absurd H (by simp)
   rw [if_pos c17] at H
   have LMc17 := Aside0.mk c17
   clear c17
   obtain ⟨y266, hy266⟩ : ∃ y_ : List (S27), y_ = (x263001_1 ++ [(⟨(rd_T27 l0_1 x14_1).f0, (rd_T27 l0_1 x14_1).f1, (rd_T27 l0_1 x14_1).f2⟩ : S27)]) := ⟨_, rfl⟩
   replace H : (impl_Table_kept.l0 p_ k1 l0_1 (l0_1.length : Int) (wrap64 (x14_1 + 1)) a0_0 y266) = some (r1, r2) := by first | (rw [hy266]; with_reducible exact H) | (have H2_ := (Option.bind_some _ _).symm.trans H; rw [hy266]; with_reducible exact H2_) | (have H2_ := (Option.bind_some _ _).symm.trans H; with_reducible exact H2_) | with_reducible exact H | (rw [hy266]; exact H) | exact H
   have Ny266 := Aside0.mk hy266
   clear hy266
   have H' := Aside0.mk H
   clear H
   have p263 : 0 ≤ (x14_1 : Int) := od_
   have q263 : x14_1 < (l0_1.length : Int) := od_
   obtain ⟨ad263, e263, hx263_0, hx263_1, hx263_2⟩ := at_T27 HR0_1.out x14_1 p263 q263
   cases e263
   replace hx263_0 := hc_ HB hx263_0
   replace hx263_1 := hc_ HB hx263_1
   replace hx263_2 := hc_ HB hx263_2
   replace p263 := eq_true p263
   replace q263 := eq_true q263
   go_wp2_with (first | ((with_reducible refine gate_dst (N := 7) rfl ?_); refine box_event ?hg (N := 7) ?hd (cs := #[.int .i64 0, .int .i64 0, .int .i64 0]) (t := 27) ?hr ?_; (case hd => rfl); (case hg => rfl); (case hr => first | (go_simp; done) | (go_simp; rfl)); intro gb264 hg w18 hbox hb; have BK264 := Aside0.mk (hbox); have GW264 := gw_ hg HB; have GE264 := gw_ hg HB; have NB260_264 := nl_ hg BK260; have NB264_260 := ng_ hg BK260; have NB261_264 := nl_ hg BK261; have NB264_261 := ng_ hg BK261; have NB262_264 := nl_ hg BK262; have NB264_262 := ng_ hg BK262; replace HO_263001 := Aside0.mk (Kd.R_below (Kd.R_elderB (ra HO_263001.out) gb264 (Nat.le_of_eq hg.symm)) hb); replace BK260 := bb_ BK260 hb; replace BK261 := bb_ BK261 hb; replace BK262 := bb_ BK262 hb; replace HB := bst_ HB hb; clear hb hbox hg; have hnb19 := NB264_260.out; have hnc19 := NB260_264.out; have hnb20 := NB264_261.out; have hnc20 := NB261_264.out; have hnb21 := NB264_262.out; have hnc21 := NB262_264.out; obtain ⟨hcz22_0, hcz22_1, hcz22_2⟩ := bcs3_ BK264; have hfz22_0 := blk_frozen BK264.out 0; have hfz22_1 := blk_frozen BK264.out 1; have hfz22_2 := blk_frozen BK264.out 2) | (go_at_call 30; refine (HP_.out _ ((rd_T27 l0_1 x14_1).f0) ((rd_T27 l0_1 x14_1).f1) ((rd_T27 l0_1 x14_1).f2) true ?hb_ A15.out).mono ?_; (case hb_ => exact hB HB); rintro e w23 ⟨rfl, hb⟩; replace HO_263001 := Aside0.mk (Kd.R_below (ra (Kd.R_mono (Kd.R_far (p := ⟨gb264, 2, none⟩) (Kd.R_far (p := ⟨gb264, 1, none⟩) (Kd.R_far (p := ⟨gb264, 0, none⟩) (Kd.R_mono HO_263001.out (fun k_ hk => (⟨hk, hk.2⟩ : _ ∧ k_ ≠ gb264))) (fun _ hk => hk.2) (.int .i64 ((rd_T27 l0_1 x14_1).f0))) (fun _ hk => hk.2) (.int .i64 ((rd_T27 l0_1 x14_1).f1))) (fun _ hk => hk.2) (.int .i64 ((rd_T27 l0_1 x14_1).f2))) (fun _ h_ => h_.1))) hb); replace BK260 := Aside0.mk (blk_below (bx BK260) hb); replace BK261 := Aside0.mk (blk_below (bx BK261) hb); replace BK262 := Aside0.mk (blk_below (bx BK262) hb); replace BK264 := Aside0.mk (blk_below (g := gb264) (o := .cells #[.int .i64 ((rd_T27 l0_1 x14_1).f0), .int .i64 ((rd_T27 l0_1 x14_1).f1), .int .i64 ((rd_T27 l0_1 x14_1).f2)] 27 (0, 0)) (by (with_reducible repeat (first | refine blk_drewN ?_ _ | refine blk_drew ?_ | refine blk_alloc ?_ _)); refine blk_put (cs := #[.int .i64 ((rd_T27 l0_1 x14_1).f0), .int .i64 ((rd_T27 l0_1 x14_1).f1), .int .i64 0]) ?_ 2 _ rfl; (with_reducible repeat (first | refine blk_drewN ?_ _ | refine blk_drew ?_ | refine blk_alloc ?_ _)); refine blk_put (cs := #[.int .i64 ((rd_T27 l0_1 x14_1).f0), .int .i64 0, .int .i64 0]) ?_ 1 _ rfl; (with_reducible repeat (first | refine blk_drewN ?_ _ | refine blk_drew ?_ | refine blk_alloc ?_ _)); refine blk_put (cs := #[.int .i64 0, .int .i64 0, .int .i64 0]) ?_ 0 _ rfl; (with_reducible repeat (first | refine blk_drewN ?_ _ | refine blk_drew ?_ | refine blk_alloc ?_ _)); exact BK264.out) hb); replace HB := bst_ HB hb; clear hb; have hnb24 := NB262_260.out; have hnc24 := NB260_262.out; have hnb25 := NB262_261.out; have hnc25 := NB261_262.out; obtain ⟨hcz26_0, hcz26_1⟩ := bcs2_ BK262; have hfz26_0 := blk_frozen BK262.out 0; have hfz26_1 := blk_frozen BK262.out 1; obtain ⟨hcz27_0, hcz27_1, hcz27_2⟩ := bcs3_ BK264; have hfz27_0 := blk_frozen BK264.out 0; have hfz27_1 := blk_frozen BK264.out 1; have hfz27_2 := blk_frozen BK264.out 2) | ((with_reducible refine gate_builtin (b := .append) (xs := #[.tmp 22, .tmp 24]) rfl ?_); at_builtin; refine Kd.R_append k27 (w0 := w) w.heap.size rfl (.tmp 22) (.tmp 24) 23 27 (.agg #[(.int .i64 0), (.int .i64 0), (.int .i64 0)]) 24 rfl Try.underlying23 info27 rfl (by decide) (by omega) u263001 x263001_1 (⟨(rd_T27 l0_1 x14_1).f0, (rd_T27 l0_1 x14_1).f1, (rd_T27 l0_1 x14_1).f2⟩ : S27) [.int .i64 ((rd_T27 l0_1 x14_1).f0), .int .i64 ((rd_T27 l0_1 x14_1).f1), .int .i64 ((rd_T27 l0_1 x14_1).f2)] (fun k_ => k_ ≠ gb264) (fun _ => False) rfl rfl ?aP (fun _ hk => hk.elim) ?aF ?aO ?aB ?aS ?aL ?_; (case aP => exact k27_mkM _ _ _ (⟨(rd_T27 l0_1 x14_1).f0, (rd_T27 l0_1 x14_1).f1, (rd_T27 l0_1 x14_1).f2⟩ : S27)); (case aB => exact (hB HB)); (case aF => exact (fun k_ hk => Kd.freshB (g := gb264) (o := .cells #[.int .i64 ((rd_T27 l0_1 x14_1).f0), .int .i64 ((rd_T27 l0_1 x14_1).f1), .int .i64 ((rd_T27 l0_1 x14_1).f2)] 27 (0, 0)) (ba BK264.out) k_ hk)); (case aO => exact (rm_ HO_263001 (fun _ hk => hk.2)).out); (case aS => exact (below_size (hB HB))); (case aL => have := LMc17.out; omega); intro v267 w28 ho hb hg hat; rw [← Ny266.out] at ho; have HO268 := Aside0.mk (ho); replace BK260 := Aside0.mk (blk_grown (g := gb260) (o := .cells #[.int .i64 a0_0, .slice (some ad263) l0_1.length c0_1] 25 (0, 0)) (ba BK260.out) hg (Kd.R_ne HO_263001.out BK260.out (by decide))); replace BK261 := Aside0.mk (blk_grown (g := gb261) (o := .cells #[.int .i64 0, .slice none 0 0] 25 (0, 0)) (ba BK261.out) hg (Kd.R_ne HO_263001.out BK261.out (by decide))); replace BK262 := Aside0.mk (blk_grown (g := gb262) (o := .cells #[.int .i64 a0_0, u263001] 25 (0, 0)) (ba BK262.out) hg (Kd.R_ne HO_263001.out BK262.out (by decide))); replace BK264 := Aside0.mk (blk_grown (g := gb264) (o := .cells #[.int .i64 ((rd_T27 l0_1 x14_1).f0), .int .i64 ((rd_T27 l0_1 x14_1).f1), .int .i64 ((rd_T27 l0_1 x14_1).f2)] 27 (0, 0)) (ba BK264.out) hg (Kd.R_away HO_263001.out (fun _ hk => hk.2))); replace HB := Aside0.mk (hb); clear HO_263001; clear ho hb hg hat; obtain ⟨Ao29, co29, eo29⟩ := Kd.R_slice HO268.out; subst eo29; obtain ⟨hcz30_0, hcz30_1⟩ := bcs2_ BK262; have hfz30_0 := blk_frozen BK262.out 0; have hfz30_1 := blk_frozen BK262.out 1))
   go_roundg k1
   case measure => have := HK1.out; omega
   case rel => exact ⟨(wrap64 (x14_1 + 1)), (y266), (.slice Ao29 y266.length co29), (by first | rfl | (simp; done) | (simp [*]; done)), H', ⟨by have := HK1.out; omega⟩, ⟨by (with_reducible repeat (first | apply Kd.R_alloc | apply Kd.R_drewN | apply Kd.R_drew)); exact Kd.R_mono (Kd.R_far (p := ⟨gb262, 1, none⟩) (Kd.R_types HO268.out BK262.out (by decide)) (fun _ hk => hk.2) (.slice Ao29 y266.length co29)) (fun _ hk => trivial)⟩, ⟨by (with_reducible repeat (first | refine blk_drewN ?_ _ | refine blk_drew ?_ | refine blk_alloc ?_ _)); refine blk_far ?_ NB260_262.out _; (with_reducible repeat (first | refine blk_drewN ?_ _ | refine blk_drew ?_ | refine blk_alloc ?_ _)); exact BK260.out⟩, ⟨by (with_reducible repeat (first | refine blk_drewN ?_ _ | refine blk_drew ?_ | refine blk_alloc ?_ _)); refine blk_far ?_ NB261_262.out _; (with_reducible repeat (first | refine blk_drewN ?_ _ | refine blk_drew ?_ | refine blk_alloc ?_ _)); exact BK261.out⟩, ⟨by (with_reducible repeat (first | refine blk_drewN ?_ _ | refine blk_drew ?_ | refine blk_alloc ?_ _)); refine blk_put (cs := #[.int .i64 a0_0, u263001]) ?_ 1 _ rfl; (with_reducible repeat (first | refine blk_drewN ?_ _ | refine blk_drew ?_ | refine blk_alloc ?_ _)); exact BK262.out⟩, ⟨hB HB⟩⟩
set_option maxHeartbeats 8000000 in
set_option maxRecDepth 100000 in
theorem impl_Table_kept.calls31 (k : Nat) (a0_0 : Int) (A0_1 : Option Addr) (c0_1 : Nat) (l0_1 : List (S27)) (p_ : Int → Int → Int → Option Bool) (gB0 gB1 : Nat) (r1 : Int) (r2 : List (S27)) (w : World) (hr0_1 : Kd.C k27 w A0_1 l0_1.length l0_1) (hc0_1 : l0_1.length ≤ c0_1) (hp_ : ∀ (W : World) (x y z : Int) (t : Bool), Below w.heap.size w W → p_ x y z = some t → Calls Try.prog 31 #[.agg #[.int .i64 x, .int .i64 y, .int .i64 z], .pointer (some ⟨gB0, 0, none⟩), .pointer (some ⟨gB1, 0, none⟩)] W fun e w' => e = .returned (.bool t) ∧ Below W.heap.size W w') (h : impl_Table_kept.f k a0_0 l0_1 p_ = some (r1, r2)) :
  Calls Try.prog 29 #[.agg #[.int .i64 a0_0, .slice A0_1 l0_1.length c0_1], .func (.func 31) #[] #[.pointer (some ⟨gB0, 0, none⟩), .pointer (some ⟨gB1, 0, none⟩)]] w fun e w' => ∃ v1_ : Value, e = .returned (.agg #[.int .i64 r1, v1_]) ∧ Kd.R k27 27 w' w.heap.size (fun _ => True) v1_ r2 ∧ Below w.heap.size w w' := by
 have HP_ := Aside0.mk hp_
 clear hp_
 have hu25 := Try.underlying25
 have hu27 := Try.underlying27
 have HR0_1 := Aside0.mk hr0_1
 have HC0_1 := Aside0.mk hc0_1
 clear hr0_1 hc0_1
 have HB := Aside0.mk (Below.refl w.heap.size w)
 have H : (impl_Table_kept.l0 p_ k l0_1 (l0_1.length : Int) 0 a0_0 ([] : List (S27))) = some (r1, r2) := h
 clear h
 have H' := Aside0.mk H
 clear H
 go_enter Try.func29, Try.ntmps29
 go_wp2_with (first | ((with_reducible refine gate_dst (N := 2) rfl ?_); refine box_event ?hg (N := 2) ?hd (cs := #[.int .i64 a0_0, .slice A0_1 l0_1.length c0_1]) (t := 25) ?hr ?_; (case hd => rfl); (case hg => rfl); (case hr => first | (go_simp; done) | (go_simp; rfl)); intro gb260 hg w3 hbox hb; have BK260 := Aside0.mk (hbox); have GW260 := gw_ hg HB; have GE260 := gw_ hg HB; replace HB := bst_ HB hb; clear hb hbox hg) | ((with_reducible refine gate_dst (N := 4) rfl ?_); refine box_event ?hg (N := 4) ?hd (cs := #[.int .i64 0, .slice none 0 0]) (t := 25) ?hr ?_; (case hd => rfl); (case hg => rfl); (case hr => first | (go_simp; done) | (go_simp; rfl)); intro gb261 hg w4 hbox hb; have BK261 := Aside0.mk (hbox); have GW261 := gw_ hg HB; have GE261 := gw_ hg HB; have NB260_261 := nl_ hg BK260; have NB261_260 := ng_ hg BK260; replace BK260 := bb_ BK260 hb; replace HB := bst_ HB hb; clear hb hbox hg; have hnb5 := NB260_261.out; have hnc5 := NB261_260.out; obtain ⟨hcz6_0, hcz6_1⟩ := bcs2_ BK260) | ((with_reducible refine gate_dst (N := 5) rfl ?_); refine box_event ?hg (N := 5) ?hd (cs := #[.int .i64 0, .slice none 0 0]) (t := 25) ?hr ?_; (case hd => rfl); (case hg => rfl); (case hr => first | (go_simp; done) | (go_simp; rfl)); intro gb262 hg w7 hbox hb; have BK262 := Aside0.mk (hbox); have GW262 := gw_ hg HB; have GE262 := gw_ hg HB; have NB260_262 := nl_ hg BK260; have NB262_260 := ng_ hg BK260; have NB261_262 := nl_ hg BK261; have NB262_261 := ng_ hg BK261; replace BK260 := bb_ BK260 hb; replace BK261 := bb_ BK261 hb; replace HB := bst_ HB hb; clear hb hbox hg; have hnb8 := NB262_260.out; have hnc8 := NB260_262.out; have hnb9 := NB262_261.out; have hnc9 := NB261_262.out; obtain ⟨hcz10_0, hcz10_1⟩ := bcs2_ BK262; have hfz10_0 := blk_frozen BK262.out 0; have hfz10_1 := blk_frozen BK262.out 1; obtain ⟨hcz11_0, hcz11_1⟩ := bcs2_ BK260))
 go_loopg [14] k (fun kq v14 w' => ∃ (x14_1 : Int) (x263001_1 : List (S27)) (u263001 : Value), v14 = .int .i64 x14_1 ∧ Aside0 (impl_Table_kept.l0 p_ kq l0_1 (l0_1.length : Int) x14_1 a0_0 x263001_1 = some (r1, r2)) ∧ Aside0 (kq ≤ k) ∧ Aside0 (Kd.R k27 27 w' w.heap.size (fun _ => True) u263001 x263001_1) ∧ Aside0 (w'.heap[gb260]? = some (.cells #[.int .i64 a0_0, (.slice A0_1 l0_1.length c0_1)] 25 (0, 0))) ∧ Aside0 (w'.heap[gb261]? = some (.cells #[.int .i64 0, (.slice none 0 0)] 25 (0, 0))) ∧ Aside0 (w'.heap[gb262]? = some (.cells #[.int .i64 a0_0, u263001] 25 (0, 0))) ∧ Aside0 (Below w.heap.size w w'))
 case atStart => exact ⟨(0), (([] : List (S27))), (.slice none 0 0), (by first | rfl | (simp; done) | (simp [*]; done)), H', ⟨Nat.le_refl _⟩, ⟨by first | exact Kd.R_nil _ _ _ _ _ | exact Kd.N_nil _ _ _ _ _ | exact Kd.V_nil _ _ _ _ _ | exact Kd.Q_nil _ _ _ _ _ | exact Kd.S_nil _ _ _ _ _⟩, ⟨by (with_reducible repeat (first | refine blk_drewN ?_ _ | refine blk_drew ?_ | refine blk_alloc ?_ _)); refine blk_far ?_ NB260_262.out _; (with_reducible repeat (first | refine blk_drewN ?_ _ | refine blk_drew ?_ | refine blk_alloc ?_ _)); refine blk_far ?_ NB260_262.out _; (with_reducible repeat (first | refine blk_drewN ?_ _ | refine blk_drew ?_ | refine blk_alloc ?_ _)); exact BK260.out⟩, ⟨by (with_reducible repeat (first | refine blk_drewN ?_ _ | refine blk_drew ?_ | refine blk_alloc ?_ _)); refine blk_far ?_ NB261_262.out _; (with_reducible repeat (first | refine blk_drewN ?_ _ | refine blk_drew ?_ | refine blk_alloc ?_ _)); refine blk_far ?_ NB261_262.out _; (with_reducible repeat (first | refine blk_drewN ?_ _ | refine blk_drew ?_ | refine blk_alloc ?_ _)); exact BK261.out⟩, ⟨by (with_reducible repeat (first | refine blk_drewN ?_ _ | refine blk_drew ?_ | refine blk_alloc ?_ _)); refine blk_put (cs := #[.int .i64 a0_0, .slice none 0 0]) ?_ 1 _ rfl; (with_reducible repeat (first | refine blk_drewN ?_ _ | refine blk_drew ?_ | refine blk_alloc ?_ _)); refine blk_put (cs := #[.int .i64 0, .slice none 0 0]) ?_ 0 _ rfl; (with_reducible repeat (first | refine blk_drewN ?_ _ | refine blk_drew ?_ | refine blk_alloc ?_ _)); exact BK262.out⟩, ⟨hB HB⟩⟩
 case round =>
  clear H'
  try clear hcz10_0
  try clear hcz10_1
  try clear hcz11_0
  try clear hcz11_1
  try clear hcz6_0
  try clear hcz6_1
  try clear hfz10_0
  try clear hfz10_1
  try clear hfz11_0
  try clear hfz11_1
  try clear hfz6_0
  try clear hfz6_1
  obtain ⟨x14_1, x263001_1, u263001, rfl, HA, HK1, HO_263001, BK260, BK261, BK262, HB⟩ := hrel
  cases gk with
  | zero => exact absurd HA.out (by simp [impl_Table_kept.l0])
  | succ k1 =>
   have H := HA.out
   clear HA
   simp only [impl_Table_kept.l0] at H
   by_cases c12 : x14_1 < (l0_1.length : Int)
   rotate_left
   ·rw [if_neg c12] at H
    have c12b0 : decide (x14_1 < (l0_1.length : Int)) = false := decide_eq_false c12
    clear c12
    simp only [Option.some.injEq, Prod.mk.injEq] at H
    obtain ⟨rfl, rfl⟩ := H
    have hnb37 := NB262_260.out
    have hnc37 := NB260_262.out
    have hnb38 := NB262_261.out
    have hnc38 := NB261_262.out
    have hcz39_0 : wr.cell? ⟨gb262, 0, none⟩ = some (.int .i64 a0_0) := bc_ BK262 0
    have hcz39_1 : wr.cell? ⟨gb262, 1, none⟩ = some (u263001) := bc_ BK262 1
    have hfz39_0 := blk_frozen BK262.out 0
    have hfz39_1 := blk_frozen BK262.out 1
    have hnb40 := NB261_260.out
    have hnc40 := NB260_261.out
    have hcz41_0 : wr.cell? ⟨gb261, 0, none⟩ = some (.int .i64 0) := bc_ BK261 0
    have hcz41_1 : wr.cell? ⟨gb261, 1, none⟩ = some (.slice none 0 0) := bc_ BK261 1
    have hfz41_0 := blk_frozen BK261.out 0
    have hfz41_1 := blk_frozen BK261.out 1
    obtain ⟨Ao42, co42, eo42⟩ := Kd.R_slice HO_263001.out
    subst eo42
    go_wp2
    refine bodyPost_ret (results_cell_row rfl _ _ gb261 25 #[.int .i64 a0_0, .slice Ao42 x263001_1.length co42] (0, 0) _ rfl (by (with_reducible repeat (first | refine blk_drewN ?_ _ | refine blk_drew ?_ | refine blk_alloc ?_ _)); refine blk_put (cs := #[.int .i64 a0_0, .slice none 0 0]) ?_ 1 _ rfl; (with_reducible repeat (first | refine blk_drewN ?_ _ | refine blk_drew ?_ | refine blk_alloc ?_ _)); refine blk_put (cs := #[.int .i64 0, .slice none 0 0]) ?_ 0 _ rfl; (with_reducible repeat (first | refine blk_drewN ?_ _ | refine blk_drew ?_ | refine blk_alloc ?_ _)); exact BK261.out) Try.underlying25 rfl (by kernel_rfl)) rfl ?_
    exact ⟨_, rt_, by (with_reducible repeat (first | apply Kd.R_alloc | apply Kd.R_drewN | apply Kd.R_drew)); exact Kd.R_mono (fs2_ HO_263001.out BK261.out) (fun _ hk => trivial), hB HB⟩
   rw [if_pos c12] at H
   have c12b0 : decide (x14_1 < (l0_1.length : Int)) = true := decide_eq_true c12
   clear c12
   by_cases c13 : 0 ≤ x14_1
   rotate_left
   ·rw [if_neg c13] at H
    exact absurd H (by simp)
   rw [if_pos c13] at H
   have c13b0 : decide (0 ≤ x14_1) = true := decide_eq_true c13
   clear c13
   by_cases c14 : x14_1 < (l0_1.length : Int)
   rotate_left
   ·rw [if_neg c14] at H
    exact absurd H (by simp)
   rw [if_pos c14] at H
   have c14b0 : decide (x14_1 < (l0_1.length : Int)) = true := decide_eq_true c14
   clear c14
   replace H := Option.bind_eq_some_iff.mp H
   obtain ⟨t265, A150, H⟩ := H
   replace H : (if t265 = true then (if x263001_1.length < 5864062014805 then (impl_Table_kept.l0 p_ k1 l0_1 (l0_1.length : Int) (wrap64 (x14_1 + 1)) a0_0 (x263001_1 ++ [(⟨(rd_T27 l0_1 x14_1).f0, (rd_T27 l0_1 x14_1).f1, (rd_T27 l0_1 x14_1).f2⟩ : S27)])) else (none)) else (impl_Table_kept.l0 p_ k1 l0_1 (l0_1.length : Int) (wrap64 (x14_1 + 1)) a0_0 x263001_1)) = some (r1, r2) := H
   have A15 := Aside0.mk A150
   clear A150
   by_cases c16 : t265 = true
   rotate_left
   ·replace c16 := Bool.eq_false_iff.mpr c16
    subst c16
    rw [if_neg (show ¬ (false = true) by decide)] at H
    have H' := Aside0.mk H
    clear H
    have p263 : 0 ≤ (x14_1 : Int) := od_
    have q263 : x14_1 < (l0_1.length : Int) := od_
    obtain ⟨ad263, e263, hx263_0, hx263_1, hx263_2⟩ := at_T27 HR0_1.out x14_1 p263 q263
    cases e263
    replace hx263_0 := hc_ HB hx263_0
    replace hx263_1 := hc_ HB hx263_1
    replace hx263_2 := hc_ HB hx263_2
    replace p263 := eq_true p263
    replace q263 := eq_true q263
    go_wp2_with (first | ((with_reducible refine gate_dst (N := 7) rfl ?_); refine box_event ?hg (N := 7) ?hd (cs := #[.int .i64 0, .int .i64 0, .int .i64 0]) (t := 27) ?hr ?_; (case hd => rfl); (case hg => rfl); (case hr => first | (go_simp; done) | (go_simp; rfl)); intro gb264 hg w31 hbox hb; have BK264 := Aside0.mk (hbox); have GW264 := gw_ hg HB; have GE264 := gw_ hg HB; have NB260_264 := nl_ hg BK260; have NB264_260 := ng_ hg BK260; have NB261_264 := nl_ hg BK261; have NB264_261 := ng_ hg BK261; have NB262_264 := nl_ hg BK262; have NB264_262 := ng_ hg BK262; replace HO_263001 := Aside0.mk (Kd.R_below (Kd.R_elderB (ra HO_263001.out) gb264 (Nat.le_of_eq hg.symm)) hb); replace BK260 := bb_ BK260 hb; replace BK261 := bb_ BK261 hb; replace BK262 := bb_ BK262 hb; replace HB := bst_ HB hb; clear hb hbox hg; have hnb32 := NB264_260.out; have hnc32 := NB260_264.out; have hnb33 := NB264_261.out; have hnc33 := NB261_264.out; have hnb34 := NB264_262.out; have hnc34 := NB262_264.out; obtain ⟨hcz35_0, hcz35_1, hcz35_2⟩ := bcs3_ BK264; have hfz35_0 := blk_frozen BK264.out 0; have hfz35_1 := blk_frozen BK264.out 1; have hfz35_2 := blk_frozen BK264.out 2) | (go_at_call 31; refine (HP_.out _ ((rd_T27 l0_1 x14_1).f0) ((rd_T27 l0_1 x14_1).f1) ((rd_T27 l0_1 x14_1).f2) false ?hb_ A15.out).mono ?_; (case hb_ => exact hB HB); rintro e w36 ⟨rfl, hb⟩; replace HO_263001 := Aside0.mk (Kd.R_below (ra (Kd.R_mono (Kd.R_far (p := ⟨gb264, 2, none⟩) (Kd.R_far (p := ⟨gb264, 1, none⟩) (Kd.R_far (p := ⟨gb264, 0, none⟩) (Kd.R_mono HO_263001.out (fun k_ hk => (⟨hk, hk.2⟩ : _ ∧ k_ ≠ gb264))) (fun _ hk => hk.2) (.int .i64 ((rd_T27 l0_1 x14_1).f0))) (fun _ hk => hk.2) (.int .i64 ((rd_T27 l0_1 x14_1).f1))) (fun _ hk => hk.2) (.int .i64 ((rd_T27 l0_1 x14_1).f2))) (fun _ h_ => h_.1))) hb); replace BK260 := Aside0.mk (blk_below (bx BK260) hb); replace BK261 := Aside0.mk (blk_below (bx BK261) hb); replace BK262 := Aside0.mk (blk_below (bx BK262) hb); replace BK264 := Aside0.mk (blk_below (g := gb264) (o := .cells #[.int .i64 ((rd_T27 l0_1 x14_1).f0), .int .i64 ((rd_T27 l0_1 x14_1).f1), .int .i64 ((rd_T27 l0_1 x14_1).f2)] 27 (0, 0)) (by (with_reducible repeat (first | refine blk_drewN ?_ _ | refine blk_drew ?_ | refine blk_alloc ?_ _)); refine blk_put (cs := #[.int .i64 ((rd_T27 l0_1 x14_1).f0), .int .i64 ((rd_T27 l0_1 x14_1).f1), .int .i64 0]) ?_ 2 _ rfl; (with_reducible repeat (first | refine blk_drewN ?_ _ | refine blk_drew ?_ | refine blk_alloc ?_ _)); refine blk_put (cs := #[.int .i64 ((rd_T27 l0_1 x14_1).f0), .int .i64 0, .int .i64 0]) ?_ 1 _ rfl; (with_reducible repeat (first | refine blk_drewN ?_ _ | refine blk_drew ?_ | refine blk_alloc ?_ _)); refine blk_put (cs := #[.int .i64 0, .int .i64 0, .int .i64 0]) ?_ 0 _ rfl; (with_reducible repeat (first | refine blk_drewN ?_ _ | refine blk_drew ?_ | refine blk_alloc ?_ _)); exact BK264.out) hb); replace HB := bst_ HB hb; clear hb))
    go_roundg k1
    case measure => have := HK1.out; omega
    case rel => exact ⟨(wrap64 (x14_1 + 1)), (x263001_1), (u263001), (by first | rfl | (simp; done) | (simp [*]; done)), H', ⟨by have := HK1.out; omega⟩, rm_ HO_263001 (fun _ hk => trivial), ⟨by (with_reducible repeat (first | refine blk_drewN ?_ _ | refine blk_drew ?_ | refine blk_alloc ?_ _)); exact BK260.out⟩, ⟨by (with_reducible repeat (first | refine blk_drewN ?_ _ | refine blk_drew ?_ | refine blk_alloc ?_ _)); exact BK261.out⟩, ⟨by (with_reducible repeat (first | refine blk_drewN ?_ _ | refine blk_drew ?_ | refine blk_alloc ?_ _)); exact BK262.out⟩, ⟨hB HB⟩⟩
   subst c16
   rw [if_pos rfl] at H
   by_cases c17 : x263001_1.length < 5864062014805
   rotate_left
   ·rw [if_neg c17] at H
    exact absurd H (by simp)
   rw [if_pos c17] at H
   have LMc17 := Aside0.mk c17
   clear c17
   obtain ⟨y266, hy266⟩ : ∃ y_ : List (S27), y_ = (x263001_1 ++ [(⟨(rd_T27 l0_1 x14_1).f0, (rd_T27 l0_1 x14_1).f1, (rd_T27 l0_1 x14_1).f2⟩ : S27)]) := ⟨_, rfl⟩
   replace H : (impl_Table_kept.l0 p_ k1 l0_1 (l0_1.length : Int) (wrap64 (x14_1 + 1)) a0_0 y266) = some (r1, r2) := by first | (rw [hy266]; with_reducible exact H) | (have H2_ := (Option.bind_some _ _).symm.trans H; rw [hy266]; with_reducible exact H2_) | (have H2_ := (Option.bind_some _ _).symm.trans H; with_reducible exact H2_) | with_reducible exact H | (rw [hy266]; exact H) | exact H
   have Ny266 := Aside0.mk hy266
   clear hy266
   have H' := Aside0.mk H
   clear H
   have p263 : 0 ≤ (x14_1 : Int) := od_
   have q263 : x14_1 < (l0_1.length : Int) := od_
   obtain ⟨ad263, e263, hx263_0, hx263_1, hx263_2⟩ := at_T27 HR0_1.out x14_1 p263 q263
   cases e263
   replace hx263_0 := hc_ HB hx263_0
   replace hx263_1 := hc_ HB hx263_1
   replace hx263_2 := hc_ HB hx263_2
   replace p263 := eq_true p263
   replace q263 := eq_true q263
   go_wp2_with (first | ((with_reducible refine gate_dst (N := 7) rfl ?_); refine box_event ?hg (N := 7) ?hd (cs := #[.int .i64 0, .int .i64 0, .int .i64 0]) (t := 27) ?hr ?_; (case hd => rfl); (case hg => rfl); (case hr => first | (go_simp; done) | (go_simp; rfl)); intro gb264 hg w18 hbox hb; have BK264 := Aside0.mk (hbox); have GW264 := gw_ hg HB; have GE264 := gw_ hg HB; have NB260_264 := nl_ hg BK260; have NB264_260 := ng_ hg BK260; have NB261_264 := nl_ hg BK261; have NB264_261 := ng_ hg BK261; have NB262_264 := nl_ hg BK262; have NB264_262 := ng_ hg BK262; replace HO_263001 := Aside0.mk (Kd.R_below (Kd.R_elderB (ra HO_263001.out) gb264 (Nat.le_of_eq hg.symm)) hb); replace BK260 := bb_ BK260 hb; replace BK261 := bb_ BK261 hb; replace BK262 := bb_ BK262 hb; replace HB := bst_ HB hb; clear hb hbox hg; have hnb19 := NB264_260.out; have hnc19 := NB260_264.out; have hnb20 := NB264_261.out; have hnc20 := NB261_264.out; have hnb21 := NB264_262.out; have hnc21 := NB262_264.out; obtain ⟨hcz22_0, hcz22_1, hcz22_2⟩ := bcs3_ BK264; have hfz22_0 := blk_frozen BK264.out 0; have hfz22_1 := blk_frozen BK264.out 1; have hfz22_2 := blk_frozen BK264.out 2) | (go_at_call 31; refine (HP_.out _ ((rd_T27 l0_1 x14_1).f0) ((rd_T27 l0_1 x14_1).f1) ((rd_T27 l0_1 x14_1).f2) true ?hb_ A15.out).mono ?_; (case hb_ => exact hB HB); rintro e w23 ⟨rfl, hb⟩; replace HO_263001 := Aside0.mk (Kd.R_below (ra (Kd.R_mono (Kd.R_far (p := ⟨gb264, 2, none⟩) (Kd.R_far (p := ⟨gb264, 1, none⟩) (Kd.R_far (p := ⟨gb264, 0, none⟩) (Kd.R_mono HO_263001.out (fun k_ hk => (⟨hk, hk.2⟩ : _ ∧ k_ ≠ gb264))) (fun _ hk => hk.2) (.int .i64 ((rd_T27 l0_1 x14_1).f0))) (fun _ hk => hk.2) (.int .i64 ((rd_T27 l0_1 x14_1).f1))) (fun _ hk => hk.2) (.int .i64 ((rd_T27 l0_1 x14_1).f2))) (fun _ h_ => h_.1))) hb); replace BK260 := Aside0.mk (blk_below (bx BK260) hb); replace BK261 := Aside0.mk (blk_below (bx BK261) hb); replace BK262 := Aside0.mk (blk_below (bx BK262) hb); replace BK264 := Aside0.mk (blk_below (g := gb264) (o := .cells #[.int .i64 ((rd_T27 l0_1 x14_1).f0), .int .i64 ((rd_T27 l0_1 x14_1).f1), .int .i64 ((rd_T27 l0_1 x14_1).f2)] 27 (0, 0)) (by (with_reducible repeat (first | refine blk_drewN ?_ _ | refine blk_drew ?_ | refine blk_alloc ?_ _)); refine blk_put (cs := #[.int .i64 ((rd_T27 l0_1 x14_1).f0), .int .i64 ((rd_T27 l0_1 x14_1).f1), .int .i64 0]) ?_ 2 _ rfl; (with_reducible repeat (first | refine blk_drewN ?_ _ | refine blk_drew ?_ | refine blk_alloc ?_ _)); refine blk_put (cs := #[.int .i64 ((rd_T27 l0_1 x14_1).f0), .int .i64 0, .int .i64 0]) ?_ 1 _ rfl; (with_reducible repeat (first | refine blk_drewN ?_ _ | refine blk_drew ?_ | refine blk_alloc ?_ _)); refine blk_put (cs := #[.int .i64 0, .int .i64 0, .int .i64 0]) ?_ 0 _ rfl; (with_reducible repeat (first | refine blk_drewN ?_ _ | refine blk_drew ?_ | refine blk_alloc ?_ _)); exact BK264.out) hb); replace HB := bst_ HB hb; clear hb; have hnb24 := NB262_260.out; have hnc24 := NB260_262.out; have hnb25 := NB262_261.out; have hnc25 := NB261_262.out; obtain ⟨hcz26_0, hcz26_1⟩ := bcs2_ BK262; have hfz26_0 := blk_frozen BK262.out 0; have hfz26_1 := blk_frozen BK262.out 1; obtain ⟨hcz27_0, hcz27_1, hcz27_2⟩ := bcs3_ BK264; have hfz27_0 := blk_frozen BK264.out 0; have hfz27_1 := blk_frozen BK264.out 1; have hfz27_2 := blk_frozen BK264.out 2) | ((with_reducible refine gate_builtin (b := .append) (xs := #[.tmp 22, .tmp 24]) rfl ?_); at_builtin; refine Kd.R_append k27 (w0 := w) w.heap.size rfl (.tmp 22) (.tmp 24) 23 27 (.agg #[(.int .i64 0), (.int .i64 0), (.int .i64 0)]) 24 rfl Try.underlying23 info27 rfl (by decide) (by omega) u263001 x263001_1 (⟨(rd_T27 l0_1 x14_1).f0, (rd_T27 l0_1 x14_1).f1, (rd_T27 l0_1 x14_1).f2⟩ : S27) [.int .i64 ((rd_T27 l0_1 x14_1).f0), .int .i64 ((rd_T27 l0_1 x14_1).f1), .int .i64 ((rd_T27 l0_1 x14_1).f2)] (fun k_ => k_ ≠ gb264) (fun _ => False) rfl rfl ?aP (fun _ hk => hk.elim) ?aF ?aO ?aB ?aS ?aL ?_; (case aP => exact k27_mkM _ _ _ (⟨(rd_T27 l0_1 x14_1).f0, (rd_T27 l0_1 x14_1).f1, (rd_T27 l0_1 x14_1).f2⟩ : S27)); (case aB => exact (hB HB)); (case aF => exact (fun k_ hk => Kd.freshB (g := gb264) (o := .cells #[.int .i64 ((rd_T27 l0_1 x14_1).f0), .int .i64 ((rd_T27 l0_1 x14_1).f1), .int .i64 ((rd_T27 l0_1 x14_1).f2)] 27 (0, 0)) (ba BK264.out) k_ hk)); (case aO => exact (rm_ HO_263001 (fun _ hk => hk.2)).out); (case aS => exact (below_size (hB HB))); (case aL => have := LMc17.out; omega); intro v267 w28 ho hb hg hat; rw [← Ny266.out] at ho; have HO268 := Aside0.mk (ho); replace BK260 := Aside0.mk (blk_grown (g := gb260) (o := .cells #[.int .i64 a0_0, .slice (some ad263) l0_1.length c0_1] 25 (0, 0)) (ba BK260.out) hg (Kd.R_ne HO_263001.out BK260.out (by decide))); replace BK261 := Aside0.mk (blk_grown (g := gb261) (o := .cells #[.int .i64 0, .slice none 0 0] 25 (0, 0)) (ba BK261.out) hg (Kd.R_ne HO_263001.out BK261.out (by decide))); replace BK262 := Aside0.mk (blk_grown (g := gb262) (o := .cells #[.int .i64 a0_0, u263001] 25 (0, 0)) (ba BK262.out) hg (Kd.R_ne HO_263001.out BK262.out (by decide))); replace BK264 := Aside0.mk (blk_grown (g := gb264) (o := .cells #[.int .i64 ((rd_T27 l0_1 x14_1).f0), .int .i64 ((rd_T27 l0_1 x14_1).f1), .int .i64 ((rd_T27 l0_1 x14_1).f2)] 27 (0, 0)) (ba BK264.out) hg (Kd.R_away HO_263001.out (fun _ hk => hk.2))); replace HB := Aside0.mk (hb); clear HO_263001; clear ho hb hg hat; obtain ⟨Ao29, co29, eo29⟩ := Kd.R_slice HO268.out; subst eo29; obtain ⟨hcz30_0, hcz30_1⟩ := bcs2_ BK262; have hfz30_0 := blk_frozen BK262.out 0; have hfz30_1 := blk_frozen BK262.out 1))
   go_roundg k1
   case measure => have := HK1.out; omega
   case rel => exact ⟨(wrap64 (x14_1 + 1)), (y266), (.slice Ao29 y266.length co29), (by first | rfl | (simp; done) | (simp [*]; done)), H', ⟨by have := HK1.out; omega⟩, ⟨by (with_reducible repeat (first | apply Kd.R_alloc | apply Kd.R_drewN | apply Kd.R_drew)); exact Kd.R_mono (Kd.R_far (p := ⟨gb262, 1, none⟩) (Kd.R_types HO268.out BK262.out (by decide)) (fun _ hk => hk.2) (.slice Ao29 y266.length co29)) (fun _ hk => trivial)⟩, ⟨by (with_reducible repeat (first | refine blk_drewN ?_ _ | refine blk_drew ?_ | refine blk_alloc ?_ _)); refine blk_far ?_ NB260_262.out _; (with_reducible repeat (first | refine blk_drewN ?_ _ | refine blk_drew ?_ | refine blk_alloc ?_ _)); exact BK260.out⟩, ⟨by (with_reducible repeat (first | refine blk_drewN ?_ _ | refine blk_drew ?_ | refine blk_alloc ?_ _)); refine blk_far ?_ NB261_262.out _; (with_reducible repeat (first | refine blk_drewN ?_ _ | refine blk_drew ?_ | refine blk_alloc ?_ _)); exact BK261.out⟩, ⟨by (with_reducible repeat (first | refine blk_drewN ?_ _ | refine blk_drew ?_ | refine blk_alloc ?_ _)); refine blk_put (cs := #[.int .i64 a0_0, u263001]) ?_ 1 _ rfl; (with_reducible repeat (first | refine blk_drewN ?_ _ | refine blk_drew ?_ | refine blk_alloc ?_ _)); exact BK262.out⟩, ⟨hB HB⟩⟩

end Go.Proofs.Ytenedmcobknefaa.P
