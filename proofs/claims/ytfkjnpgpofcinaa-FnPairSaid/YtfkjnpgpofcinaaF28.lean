import Derived.Test.YtfkjnpgpofcinaaF0
import Derived.Test.YtfkjnpgpofcinaaF20
namespace Go.Proofs.Ytfkjnpgpofcinaa.P
open Go.RowKit Go.Proofs.YtfkjnpgpofcinaaW.PrintWords Go.Proofs.YtfkjnpgpofcinaaW.PrintLast Go.Proofs.YtfkjnpgpofcinaaW.PrintMore
attribute [local go_sem] max2_int min2_int max_two min_two max_three min_three max_four min_four   -- for this text's walks alone
set_option linter.unusedVariables false
set_option linter.unusedSimpArgs false
attribute [local go_sem high] eqA45 eqA76 eqA83

mutual
def laws_samePair.j0 : Nat → Bool → List Int → List Int → List (S45) → List Int → List Int → List (S45) → Option (Bool)
 | 0, _, _, _, _, _, _, _ => none
 | k + 1, x28, x852000, x852001, x852002, x853000, x853001, x853002 => if x28 = true then (some false) else (laws_samePair.l0 k (x852002.length : Int) 0 x852000 x852001 x852002 x853000 x853001 x853002)
def laws_samePair.l0 : Nat → Int → Int → List Int → List Int → List (S45) → List Int → List Int → List (S45) → Option (Bool)
 | 0, _, _, _, _, _, _, _, _ => none
 | k + 1, x31, x32, x852000, x852001, x852002, x853000, x853001, x853002 => if x32 < x31 then (if 0 ≤ x32 then (if x32 < (x852002.length : Int) then (if x32 < (x853002.length : Int) then (if (!(((rd_T45 x852002 x32).f0) == ((rd_T45 x853002 x32).f0)) || (!(((rd_T45 x852002 x32).f1) == ((rd_T45 x853002 x32).f1)))) = true then (some false) else (laws_samePair.l0 k x31 (wrap64 (x32 + 1)) x852000 x852001 x852002 x853000 x853001 x853002)) else (none)) else (none)) else (none)) else (some true)
end
def laws_samePair.f (k : Nat) (l0_0 : List Int) (l0_1 : List Int) (l0_2 : List (S45)) (l1_0 : List Int) (l1_1 : List Int) (l1_2 : List (S45)) : Option (Bool) := (laws_sameInts.f k l0_0 l1_0).bind fun t853 => (if t853 = true then ((laws_sameInts.f k l0_1 l1_1).bind fun t854 => (if t854 = true then (laws_samePair.j0 k ((l0_2.length : Int) != (l1_2.length : Int)) l0_0 l0_1 l0_2 l1_0 l1_1 l1_2) else (laws_samePair.j0 k true l0_0 l0_1 l0_2 l1_0 l1_1 l1_2))) else (laws_samePair.j0 k true l0_0 l0_1 l0_2 l1_0 l1_1 l1_2))
theorem laws_samePair.mono_l : ∀ k, (∀ y0 y1 y2 y3 y4 y5 y6, LeO (laws_samePair.j0 k y0 y1 y2 y3 y4 y5 y6) (laws_samePair.j0 (k + 1) y0 y1 y2 y3 y4 y5 y6)) ∧ (∀ y0 y1 y2 y3 y4 y5 y6 y7, LeO (laws_samePair.l0 k y0 y1 y2 y3 y4 y5 y6 y7) (laws_samePair.l0 (k + 1) y0 y1 y2 y3 y4 y5 y6 y7))
 | 0 => ⟨fun _ _ _ _ _ _ _ r h => by simp [laws_samePair.j0] at h, fun _ _ _ _ _ _ _ _ r h => by simp [laws_samePair.l0] at h⟩
 | k + 1 => by
  obtain ⟨ih0, ih1⟩ := laws_samePair.mono_l k
  refine ⟨?_, ?_⟩
  ·intro y0 y1 y2 y3 y4 y5 y6
   unfold laws_samePair.j0
   repeat' first
   | (with_reducible exact ih0 _ _ _ _ _ _ _)
   | (with_reducible exact ih1 _ _ _ _ _ _ _ _)
   | (with_reducible exact laws_sameInts.mono _ _ _)
   | (with_reducible exact LeO.refl _)
   | (with_reducible exact LeO.none _)
   | (with_reducible refine LeO.ite ?_ ?_)
   | (with_reducible refine LeO.bind ?_ (fun _ => ?_))
  ·intro y0 y1 y2 y3 y4 y5 y6 y7
   unfold laws_samePair.l0
   repeat' first
   | (with_reducible exact ih0 _ _ _ _ _ _ _)
   | (with_reducible exact ih1 _ _ _ _ _ _ _ _)
   | (with_reducible exact laws_sameInts.mono _ _ _)
   | (with_reducible exact LeO.refl _)
   | (with_reducible exact LeO.none _)
   | (with_reducible refine LeO.ite ?_ ?_)
   | (with_reducible refine LeO.bind ?_ (fun _ => ?_))
theorem laws_samePair.mono : ∀ a0 a1 a2 a3 a4 a5 k, LeO (laws_samePair.f k a0 a1 a2 a3 a4 a5) (laws_samePair.f (k + 1) a0 a1 a2 a3 a4 a5) := by
 intro a0 a1 a2 a3 a4 a5 k
 obtain ⟨ih0, ih1⟩ := laws_samePair.mono_l k
 unfold laws_samePair.f
 repeat' first
   | (with_reducible exact ih0 _ _ _ _ _ _ _)
   | (with_reducible exact ih1 _ _ _ _ _ _ _ _)
   | (with_reducible exact laws_sameInts.mono _ _ _)
   | (with_reducible exact LeO.refl _)
   | (with_reducible exact LeO.none _)
   | (with_reducible refine LeO.ite ?_ ?_)
   | (with_reducible refine LeO.bind ?_ (fun _ => ?_))
set_option maxHeartbeats 8000000 in
set_option maxRecDepth 100000 in
theorem laws_samePair.calls (k : Nat) (A0_0 : Option Addr) (c0_0 : Nat) (l0_0 : List Int) (A0_1 : Option Addr) (c0_1 : Nat) (l0_1 : List Int) (A0_2 : Option Addr) (c0_2 : Nat) (l0_2 : List (S45)) (A1_0 : Option Addr) (c1_0 : Nat) (l1_0 : List Int) (A1_1 : Option Addr) (c1_1 : Nat) (l1_1 : List Int) (A1_2 : Option Addr) (c1_2 : Nat) (l1_2 : List (S45)) (r : Bool) (w : World) (hr0_0 : Kd.C (Kd.int .i64) w A0_0 l0_0.length l0_0) (hc0_0 : l0_0.length ≤ c0_0) (hr0_1 : Kd.C (Kd.int .i64) w A0_1 l0_1.length l0_1) (hc0_1 : l0_1.length ≤ c0_1) (hr0_2 : Kd.C k45 w A0_2 l0_2.length l0_2) (hc0_2 : l0_2.length ≤ c0_2) (hr1_0 : Kd.C (Kd.int .i64) w A1_0 l1_0.length l1_0) (hc1_0 : l1_0.length ≤ c1_0) (hr1_1 : Kd.C (Kd.int .i64) w A1_1 l1_1.length l1_1) (hc1_1 : l1_1.length ≤ c1_1) (hr1_2 : Kd.C k45 w A1_2 l1_2.length l1_2) (hc1_2 : l1_2.length ≤ c1_2) (h : laws_samePair.f k l0_0 l0_1 l0_2 l1_0 l1_1 l1_2 = some r) :
  Calls Try.prog 20 #[.agg #[.slice A0_0 l0_0.length c0_0, .slice A0_1 l0_1.length c0_1, .slice A0_2 l0_2.length c0_2], .agg #[.slice A1_0 l1_0.length c1_0, .slice A1_1 l1_1.length c1_1, .slice A1_2 l1_2.length c1_2]] w fun e w' => e = .returned (.bool r) ∧ Below w.heap.size w w' := by
 have hu35 := Try.underlying35
 have hu45 := Try.underlying45
 have HR0_0 := Aside0.mk hr0_0
 have HC0_0 := Aside0.mk hc0_0
 clear hr0_0 hc0_0
 have HR0_1 := Aside0.mk hr0_1
 have HC0_1 := Aside0.mk hc0_1
 clear hr0_1 hc0_1
 have HR0_2 := Aside0.mk hr0_2
 have HC0_2 := Aside0.mk hc0_2
 clear hr0_2 hc0_2
 have HR1_0 := Aside0.mk hr1_0
 have HC1_0 := Aside0.mk hc1_0
 clear hr1_0 hc1_0
 have HR1_1 := Aside0.mk hr1_1
 have HC1_1 := Aside0.mk hc1_1
 clear hr1_1 hc1_1
 have HR1_2 := Aside0.mk hr1_2
 have HC1_2 := Aside0.mk hc1_2
 clear hr1_2 hc1_2
 have HB := Aside0.mk (Below.refl w.heap.size w)
 have H : ((laws_sameInts.f k l0_0 l1_0).bind fun t853 => (if t853 = true then ((laws_sameInts.f k l0_1 l1_1).bind fun t854 => (if t854 = true then (laws_samePair.j0 k ((l0_2.length : Int) != (l1_2.length : Int)) l0_0 l0_1 l0_2 l1_0 l1_1 l1_2) else (laws_samePair.j0 k true l0_0 l0_1 l0_2 l1_0 l1_1 l1_2))) else (laws_samePair.j0 k true l0_0 l0_1 l0_2 l1_0 l1_1 l1_2))) = some r := h
 clear h
 have HC3 := Aside0.mk H
 clear H
 go_enter Try.func20, Try.ntmps20
 go_upto_region 1 with (first | ((with_reducible refine gate_dst (N := 2) rfl ?_); (try (refine gate_guard (by rfl) ?_; dsimp only)); refine box_event ?hg (N := 2) ?hd (cs := #[.slice A0_0 l0_0.length c0_0, .slice A0_1 l0_1.length c0_1, .slice A0_2 l0_2.length c0_2]) (t := 35) ?hr ?_; (case hd => rfl); (case hg => rfl); (case hr => first | (go_simp; done) | (go_simp; rfl)); intro gb851 hg w4 hbox hb; have BK851 := Aside0.mk (hbox); have GW851 := gw_ hg HB; have GE851 := gw_ hg HB; replace HB := bst_ HB hb; clear hb hbox hg) | ((with_reducible refine gate_dst (N := 3) rfl ?_); (try (refine gate_guard (by rfl) ?_; dsimp only)); refine box_event ?hg (N := 3) ?hd (cs := #[.slice A1_0 l1_0.length c1_0, .slice A1_1 l1_1.length c1_1, .slice A1_2 l1_2.length c1_2]) (t := 35) ?hr ?_; (case hd => rfl); (case hg => rfl); (case hr => first | (go_simp; done) | (go_simp; rfl)); intro gb852 hg w5 hbox hb; have BK852 := Aside0.mk (hbox); have GW852 := gw_ hg HB; have GE852 := gw_ hg HB; have NB851_852 := nl_ hg BK851; have NB852_851 := ng_ hg BK851; replace BK851 := bb_ BK851 hb; replace HB := bst_ HB hb; clear hb hbox hg))
 repeat (go_quiet (first | ((with_reducible refine gate_dst (N := 2) rfl ?_); (try (refine gate_guard (by rfl) ?_; dsimp only)); refine box_event ?hg (N := 2) ?hd (cs := #[.slice A0_0 l0_0.length c0_0, .slice A0_1 l0_1.length c0_1, .slice A0_2 l0_2.length c0_2]) (t := 35) ?hr ?_; (case hd => rfl); (case hg => rfl); (case hr => first | (go_simp; done) | (go_simp; rfl)); intro gb851 hg w4 hbox hb; have BK851 := Aside0.mk (hbox); have GW851 := gw_ hg HB; have GE851 := gw_ hg HB; replace HB := bst_ HB hb; clear hb hbox hg) | ((with_reducible refine gate_dst (N := 3) rfl ?_); (try (refine gate_guard (by rfl) ?_; dsimp only)); refine box_event ?hg (N := 3) ?hd (cs := #[.slice A1_0 l1_0.length c1_0, .slice A1_1 l1_1.length c1_1, .slice A1_2 l1_2.length c1_2]) (t := 35) ?hr ?_; (case hd => rfl); (case hg => rfl); (case hr => first | (go_simp; done) | (go_simp; rfl)); intro gb852 hg w5 hbox hb; have BK852 := Aside0.mk (hbox); have GW852 := gw_ hg HB; have GE852 := gw_ hg HB; have NB851_852 := nl_ hg BK851; have NB852_851 := ng_ hg BK851; replace BK851 := bb_ BK851 hb; replace HB := bst_ HB hb; clear hb hbox hg)); go_upto_region 1 with (first | ((with_reducible refine gate_dst (N := 2) rfl ?_); (try (refine gate_guard (by rfl) ?_; dsimp only)); refine box_event ?hg (N := 2) ?hd (cs := #[.slice A0_0 l0_0.length c0_0, .slice A0_1 l0_1.length c0_1, .slice A0_2 l0_2.length c0_2]) (t := 35) ?hr ?_; (case hd => rfl); (case hg => rfl); (case hr => first | (go_simp; done) | (go_simp; rfl)); intro gb851 hg w4 hbox hb; have BK851 := Aside0.mk (hbox); have GW851 := gw_ hg HB; have GE851 := gw_ hg HB; replace HB := bst_ HB hb; clear hb hbox hg) | ((with_reducible refine gate_dst (N := 3) rfl ?_); (try (refine gate_guard (by rfl) ?_; dsimp only)); refine box_event ?hg (N := 3) ?hd (cs := #[.slice A1_0 l1_0.length c1_0, .slice A1_1 l1_1.length c1_1, .slice A1_2 l1_2.length c1_2]) (t := 35) ?hr ?_; (case hd => rfl); (case hg => rfl); (case hr => first | (go_simp; done) | (go_simp; rfl)); intro gb852 hg w5 hbox hb; have BK852 := Aside0.mk (hbox); have GW852 := gw_ hg HB; have GE852 := gw_ hg HB; have NB851_852 := nl_ hg BK851; have NB852_851 := ng_ hg BK851; replace BK851 := bb_ BK851 hb; replace HB := bst_ HB hb; clear hb hbox hg)))
 (try simp only [Act.put, List.setIfInBounds_toArray, List.set_cons_zero, List.set_cons_succ])
 go_cut [28] (fun v28 wc => ∃ (kq : Nat) (x28_2 : Bool), v28 = .bool x28_2 ∧ Aside0 (laws_samePair.j0 kq x28_2 l0_0 l0_1 l0_2 l1_0 l1_1 l1_2 = some r) ∧ Aside0 (kq ≤ k) ∧ Aside0 (wc.heap[gb851]? = some (.cells #[(.slice A0_0 l0_0.length c0_0), (.slice A0_1 l0_1.length c0_1), (.slice A0_2 l0_2.length c0_2)] 35 (0, 0))) ∧ Aside0 (wc.heap[gb852]? = some (.cells #[(.slice A1_0 l1_0.length c1_0), (.slice A1_1 l1_1.length c1_1), (.slice A1_2 l1_2.length c1_2)] 35 (0, 0))) ∧ Aside0 (Below w.heap.size w wc))
 case first =>
  have H := HC3.out
  clear HC3
  replace H := Option.bind_eq_some_iff.mp H
  obtain ⟨t853, A60, H⟩ := H
  replace H : (if t853 = true then ((laws_sameInts.f k l0_1 l1_1).bind fun t854 => (if t854 = true then (laws_samePair.j0 k ((l0_2.length : Int) != (l1_2.length : Int)) l0_0 l0_1 l0_2 l1_0 l1_1 l1_2) else (laws_samePair.j0 k true l0_0 l0_1 l0_2 l1_0 l1_1 l1_2))) else (laws_samePair.j0 k true l0_0 l0_1 l0_2 l1_0 l1_1 l1_2)) = some r := H
  have A6 := Aside0.mk A60
  clear A60
  by_cases c7 : t853 = true
  rotate_left
  ·replace c7 := Bool.eq_false_iff.mpr c7
   subst c7
   rw [if_neg (show ¬ (false = true) by decide)] at H
   have H' := Aside0.mk H
   clear H
   have hnb16 := NB851_852.out
   have hnc16 := NB852_851.out
   have hcz17_0 : w5.cell? ⟨gb851, 0, none⟩ = some (.slice A0_0 l0_0.length c0_0) := bc_ BK851 0
   have hcz17_1 : w5.cell? ⟨gb851, 1, none⟩ = some (.slice A0_1 l0_1.length c0_1) := bc_ BK851 1
   have hcz17_2 : w5.cell? ⟨gb851, 2, none⟩ = some (.slice A0_2 l0_2.length c0_2) := bc_ BK851 2
   have hfz17_0 := blk_frozen BK851.out 0
   have hfz17_1 := blk_frozen BK851.out 1
   have hfz17_2 := blk_frozen BK851.out 2
   have hcz18_0 : w5.cell? ⟨gb852, 0, none⟩ = some (.slice A1_0 l1_0.length c1_0) := bc_ BK852 0
   have hcz18_1 : w5.cell? ⟨gb852, 1, none⟩ = some (.slice A1_1 l1_1.length c1_1) := bc_ BK852 1
   have hcz18_2 : w5.cell? ⟨gb852, 2, none⟩ = some (.slice A1_2 l1_2.length c1_2) := bc_ BK852 2
   have hfz18_0 := blk_frozen BK852.out 0
   have hfz18_1 := blk_frozen BK852.out 1
   have hfz18_2 := blk_frozen BK852.out 2
   go_wp2_with (first | (go_at_call 35; (with_reducible refine (laws_sameInts.calls k _ _ l0_0 _ _ l1_0 false _ ?side1 ?side2 ?side3 ?side4 A6.out).mono ?_); (case side1 => exact ca (Kd.C_below HR0_0.out HB.out)); (case side2 => exact HC0_0.out); (case side3 => exact ca (Kd.C_below HR1_0.out HB.out)); (case side4 => exact HC1_0.out); rintro e w' ⟨rfl, ⟨nd, rfl⟩⟩; (try first | exact ⟨rfl, _, World.drewN_drewN _ _ _⟩ | exact ⟨rfl, _, Eq.trans (World.drewN_drewN _ _ _) (congrArg (World.drewN _) (Nat.add_assoc _ _ _))⟩)))
   repeat (go_quiet (first | (go_at_call 35; (with_reducible refine (laws_sameInts.calls k _ _ l0_0 _ _ l1_0 false _ ?side1 ?side2 ?side3 ?side4 A6.out).mono ?_); (case side1 => exact ca (Kd.C_below HR0_0.out HB.out)); (case side2 => exact HC0_0.out); (case side3 => exact ca (Kd.C_below HR1_0.out HB.out)); (case side4 => exact HC1_0.out); rintro e w' ⟨rfl, ⟨nd, rfl⟩⟩; (try first | exact ⟨rfl, _, World.drewN_drewN _ _ _⟩ | exact ⟨rfl, _, Eq.trans (World.drewN_drewN _ _ _) (congrArg (World.drewN _) (Nat.add_assoc _ _ _))⟩))); try go_wp2_with (first | (go_at_call 35; (with_reducible refine (laws_sameInts.calls k _ _ l0_0 _ _ l1_0 false _ ?side1 ?side2 ?side3 ?side4 A6.out).mono ?_); (case side1 => exact ca (Kd.C_below HR0_0.out HB.out)); (case side2 => exact HC0_0.out); (case side3 => exact ca (Kd.C_below HR1_0.out HB.out)); (case side4 => exact HC1_0.out); rintro e w' ⟨rfl, ⟨nd, rfl⟩⟩; (try first | exact ⟨rfl, _, World.drewN_drewN _ _ _⟩ | exact ⟨rfl, _, Eq.trans (World.drewN_drewN _ _ _) (congrArg (World.drewN _) (Nat.add_assoc _ _ _))⟩))))
   go_meet
   case rel => exact ⟨_, (true), (by first | rfl | (simp; done) | (simp [*]; done)), H', ⟨by first | omega | exact Nat.le_refl _⟩, ⟨by (with_reducible repeat (first | refine blk_drewN ?_ _ | refine blk_drew ?_ | refine blk_alloc ?_ _)); exact BK851.out⟩, ⟨by (with_reducible repeat (first | refine blk_drewN ?_ _ | refine blk_drew ?_ | refine blk_alloc ?_ _)); exact BK852.out⟩, ⟨hB HB⟩⟩
  subst c7
  rw [if_pos rfl] at H
  replace H := Option.bind_eq_some_iff.mp H
  obtain ⟨t854, A80, H⟩ := H
  replace H : (if t854 = true then (laws_samePair.j0 k ((l0_2.length : Int) != (l1_2.length : Int)) l0_0 l0_1 l0_2 l1_0 l1_1 l1_2) else (laws_samePair.j0 k true l0_0 l0_1 l0_2 l1_0 l1_1 l1_2)) = some r := H
  have A8 := Aside0.mk A80
  clear A80
  by_cases c9 : t854 = true
  rotate_left
  ·replace c9 := Bool.eq_false_iff.mpr c9
   subst c9
   rw [if_neg (show ¬ (false = true) by decide)] at H
   have H' := Aside0.mk H
   clear H
   have hnb13 := NB851_852.out
   have hnc13 := NB852_851.out
   have hcz14_0 : w5.cell? ⟨gb851, 0, none⟩ = some (.slice A0_0 l0_0.length c0_0) := bc_ BK851 0
   have hcz14_1 : w5.cell? ⟨gb851, 1, none⟩ = some (.slice A0_1 l0_1.length c0_1) := bc_ BK851 1
   have hcz14_2 : w5.cell? ⟨gb851, 2, none⟩ = some (.slice A0_2 l0_2.length c0_2) := bc_ BK851 2
   have hfz14_0 := blk_frozen BK851.out 0
   have hfz14_1 := blk_frozen BK851.out 1
   have hfz14_2 := blk_frozen BK851.out 2
   have hcz15_0 : w5.cell? ⟨gb852, 0, none⟩ = some (.slice A1_0 l1_0.length c1_0) := bc_ BK852 0
   have hcz15_1 : w5.cell? ⟨gb852, 1, none⟩ = some (.slice A1_1 l1_1.length c1_1) := bc_ BK852 1
   have hcz15_2 : w5.cell? ⟨gb852, 2, none⟩ = some (.slice A1_2 l1_2.length c1_2) := bc_ BK852 2
   have hfz15_0 := blk_frozen BK852.out 0
   have hfz15_1 := blk_frozen BK852.out 1
   have hfz15_2 := blk_frozen BK852.out 2
   go_wp2_with (first | (go_at_call 35; (with_reducible refine (laws_sameInts.calls k _ _ l0_0 _ _ l1_0 true _ ?side1 ?side2 ?side3 ?side4 A6.out).mono ?_); (case side1 => exact ca (Kd.C_below HR0_0.out HB.out)); (case side2 => exact HC0_0.out); (case side3 => exact ca (Kd.C_below HR1_0.out HB.out)); (case side4 => exact HC1_0.out); rintro e w' ⟨rfl, ⟨nd, rfl⟩⟩; (try first | exact ⟨rfl, _, World.drewN_drewN _ _ _⟩ | exact ⟨rfl, _, Eq.trans (World.drewN_drewN _ _ _) (congrArg (World.drewN _) (Nat.add_assoc _ _ _))⟩)) | (go_at_call 35; (with_reducible refine (laws_sameInts.calls k _ _ l0_1 _ _ l1_1 false _ ?side1 ?side2 ?side3 ?side4 A8.out).mono ?_); (case side1 => exact ca (Kd.C_below HR0_1.out (hB HB))); (case side2 => exact HC0_1.out); (case side3 => exact ca (Kd.C_below HR1_1.out (hB HB))); (case side4 => exact HC1_1.out); rintro e w' ⟨rfl, ⟨nd, rfl⟩⟩; (try first | exact ⟨rfl, _, World.drewN_drewN _ _ _⟩ | exact ⟨rfl, _, Eq.trans (World.drewN_drewN _ _ _) (congrArg (World.drewN _) (Nat.add_assoc _ _ _))⟩)))
   repeat (go_quiet (first | (go_at_call 35; (with_reducible refine (laws_sameInts.calls k _ _ l0_0 _ _ l1_0 true _ ?side1 ?side2 ?side3 ?side4 A6.out).mono ?_); (case side1 => exact ca (Kd.C_below HR0_0.out HB.out)); (case side2 => exact HC0_0.out); (case side3 => exact ca (Kd.C_below HR1_0.out HB.out)); (case side4 => exact HC1_0.out); rintro e w' ⟨rfl, ⟨nd, rfl⟩⟩; (try first | exact ⟨rfl, _, World.drewN_drewN _ _ _⟩ | exact ⟨rfl, _, Eq.trans (World.drewN_drewN _ _ _) (congrArg (World.drewN _) (Nat.add_assoc _ _ _))⟩)) | (go_at_call 35; (with_reducible refine (laws_sameInts.calls k _ _ l0_1 _ _ l1_1 false _ ?side1 ?side2 ?side3 ?side4 A8.out).mono ?_); (case side1 => exact ca (Kd.C_below HR0_1.out (hB HB))); (case side2 => exact HC0_1.out); (case side3 => exact ca (Kd.C_below HR1_1.out (hB HB))); (case side4 => exact HC1_1.out); rintro e w' ⟨rfl, ⟨nd, rfl⟩⟩; (try first | exact ⟨rfl, _, World.drewN_drewN _ _ _⟩ | exact ⟨rfl, _, Eq.trans (World.drewN_drewN _ _ _) (congrArg (World.drewN _) (Nat.add_assoc _ _ _))⟩))); try go_wp2_with (first | (go_at_call 35; (with_reducible refine (laws_sameInts.calls k _ _ l0_0 _ _ l1_0 true _ ?side1 ?side2 ?side3 ?side4 A6.out).mono ?_); (case side1 => exact ca (Kd.C_below HR0_0.out HB.out)); (case side2 => exact HC0_0.out); (case side3 => exact ca (Kd.C_below HR1_0.out HB.out)); (case side4 => exact HC1_0.out); rintro e w' ⟨rfl, ⟨nd, rfl⟩⟩; (try first | exact ⟨rfl, _, World.drewN_drewN _ _ _⟩ | exact ⟨rfl, _, Eq.trans (World.drewN_drewN _ _ _) (congrArg (World.drewN _) (Nat.add_assoc _ _ _))⟩)) | (go_at_call 35; (with_reducible refine (laws_sameInts.calls k _ _ l0_1 _ _ l1_1 false _ ?side1 ?side2 ?side3 ?side4 A8.out).mono ?_); (case side1 => exact ca (Kd.C_below HR0_1.out (hB HB))); (case side2 => exact HC0_1.out); (case side3 => exact ca (Kd.C_below HR1_1.out (hB HB))); (case side4 => exact HC1_1.out); rintro e w' ⟨rfl, ⟨nd, rfl⟩⟩; (try first | exact ⟨rfl, _, World.drewN_drewN _ _ _⟩ | exact ⟨rfl, _, Eq.trans (World.drewN_drewN _ _ _) (congrArg (World.drewN _) (Nat.add_assoc _ _ _))⟩))))
   go_meet
   case rel => exact ⟨_, (true), (by first | rfl | (simp; done) | (simp [*]; done)), H', ⟨by first | omega | exact Nat.le_refl _⟩, ⟨by (with_reducible repeat (first | refine blk_drewN ?_ _ | refine blk_drew ?_ | refine blk_alloc ?_ _)); exact BK851.out⟩, ⟨by (with_reducible repeat (first | refine blk_drewN ?_ _ | refine blk_drew ?_ | refine blk_alloc ?_ _)); exact BK852.out⟩, ⟨hB HB⟩⟩
  subst c9
  rw [if_pos rfl] at H
  have H' := Aside0.mk H
  clear H
  have hnb10 := NB851_852.out
  have hnc10 := NB852_851.out
  have hcz11_0 : w5.cell? ⟨gb851, 0, none⟩ = some (.slice A0_0 l0_0.length c0_0) := bc_ BK851 0
  have hcz11_1 : w5.cell? ⟨gb851, 1, none⟩ = some (.slice A0_1 l0_1.length c0_1) := bc_ BK851 1
  have hcz11_2 : w5.cell? ⟨gb851, 2, none⟩ = some (.slice A0_2 l0_2.length c0_2) := bc_ BK851 2
  have hfz11_0 := blk_frozen BK851.out 0
  have hfz11_1 := blk_frozen BK851.out 1
  have hfz11_2 := blk_frozen BK851.out 2
  have hcz12_0 : w5.cell? ⟨gb852, 0, none⟩ = some (.slice A1_0 l1_0.length c1_0) := bc_ BK852 0
  have hcz12_1 : w5.cell? ⟨gb852, 1, none⟩ = some (.slice A1_1 l1_1.length c1_1) := bc_ BK852 1
  have hcz12_2 : w5.cell? ⟨gb852, 2, none⟩ = some (.slice A1_2 l1_2.length c1_2) := bc_ BK852 2
  have hfz12_0 := blk_frozen BK852.out 0
  have hfz12_1 := blk_frozen BK852.out 1
  have hfz12_2 := blk_frozen BK852.out 2
  go_wp2_with (first | (go_at_call 35; (with_reducible refine (laws_sameInts.calls k _ _ l0_0 _ _ l1_0 true _ ?side1 ?side2 ?side3 ?side4 A6.out).mono ?_); (case side1 => exact ca (Kd.C_below HR0_0.out HB.out)); (case side2 => exact HC0_0.out); (case side3 => exact ca (Kd.C_below HR1_0.out HB.out)); (case side4 => exact HC1_0.out); rintro e w' ⟨rfl, ⟨nd, rfl⟩⟩; (try first | exact ⟨rfl, _, World.drewN_drewN _ _ _⟩ | exact ⟨rfl, _, Eq.trans (World.drewN_drewN _ _ _) (congrArg (World.drewN _) (Nat.add_assoc _ _ _))⟩)) | (go_at_call 35; (with_reducible refine (laws_sameInts.calls k _ _ l0_1 _ _ l1_1 true _ ?side1 ?side2 ?side3 ?side4 A8.out).mono ?_); (case side1 => exact ca (Kd.C_below HR0_1.out (hB HB))); (case side2 => exact HC0_1.out); (case side3 => exact ca (Kd.C_below HR1_1.out (hB HB))); (case side4 => exact HC1_1.out); rintro e w' ⟨rfl, ⟨nd, rfl⟩⟩; (try first | exact ⟨rfl, _, World.drewN_drewN _ _ _⟩ | exact ⟨rfl, _, Eq.trans (World.drewN_drewN _ _ _) (congrArg (World.drewN _) (Nat.add_assoc _ _ _))⟩)))
  repeat (go_quiet (first | (go_at_call 35; (with_reducible refine (laws_sameInts.calls k _ _ l0_0 _ _ l1_0 true _ ?side1 ?side2 ?side3 ?side4 A6.out).mono ?_); (case side1 => exact ca (Kd.C_below HR0_0.out HB.out)); (case side2 => exact HC0_0.out); (case side3 => exact ca (Kd.C_below HR1_0.out HB.out)); (case side4 => exact HC1_0.out); rintro e w' ⟨rfl, ⟨nd, rfl⟩⟩; (try first | exact ⟨rfl, _, World.drewN_drewN _ _ _⟩ | exact ⟨rfl, _, Eq.trans (World.drewN_drewN _ _ _) (congrArg (World.drewN _) (Nat.add_assoc _ _ _))⟩)) | (go_at_call 35; (with_reducible refine (laws_sameInts.calls k _ _ l0_1 _ _ l1_1 true _ ?side1 ?side2 ?side3 ?side4 A8.out).mono ?_); (case side1 => exact ca (Kd.C_below HR0_1.out (hB HB))); (case side2 => exact HC0_1.out); (case side3 => exact ca (Kd.C_below HR1_1.out (hB HB))); (case side4 => exact HC1_1.out); rintro e w' ⟨rfl, ⟨nd, rfl⟩⟩; (try first | exact ⟨rfl, _, World.drewN_drewN _ _ _⟩ | exact ⟨rfl, _, Eq.trans (World.drewN_drewN _ _ _) (congrArg (World.drewN _) (Nat.add_assoc _ _ _))⟩))); try go_wp2_with (first | (go_at_call 35; (with_reducible refine (laws_sameInts.calls k _ _ l0_0 _ _ l1_0 true _ ?side1 ?side2 ?side3 ?side4 A6.out).mono ?_); (case side1 => exact ca (Kd.C_below HR0_0.out HB.out)); (case side2 => exact HC0_0.out); (case side3 => exact ca (Kd.C_below HR1_0.out HB.out)); (case side4 => exact HC1_0.out); rintro e w' ⟨rfl, ⟨nd, rfl⟩⟩; (try first | exact ⟨rfl, _, World.drewN_drewN _ _ _⟩ | exact ⟨rfl, _, Eq.trans (World.drewN_drewN _ _ _) (congrArg (World.drewN _) (Nat.add_assoc _ _ _))⟩)) | (go_at_call 35; (with_reducible refine (laws_sameInts.calls k _ _ l0_1 _ _ l1_1 true _ ?side1 ?side2 ?side3 ?side4 A8.out).mono ?_); (case side1 => exact ca (Kd.C_below HR0_1.out (hB HB))); (case side2 => exact HC0_1.out); (case side3 => exact ca (Kd.C_below HR1_1.out (hB HB))); (case side4 => exact HC1_1.out); rintro e w' ⟨rfl, ⟨nd, rfl⟩⟩; (try first | exact ⟨rfl, _, World.drewN_drewN _ _ _⟩ | exact ⟨rfl, _, Eq.trans (World.drewN_drewN _ _ _) (congrArg (World.drewN _) (Nat.add_assoc _ _ _))⟩))))
  go_meet
  case rel => exact ⟨_, (((l0_2.length : Int) != (l1_2.length : Int))), (by first | rfl | (simp; done) | (simp [*]; done)), H', ⟨by first | omega | exact Nat.le_refl _⟩, ⟨by (with_reducible repeat (first | refine blk_drewN ?_ _ | refine blk_drew ?_ | refine blk_alloc ?_ _)); exact BK851.out⟩, ⟨by (with_reducible repeat (first | refine blk_drewN ?_ _ | refine blk_drew ?_ | refine blk_alloc ?_ _)); exact BK852.out⟩, ⟨hB HB⟩⟩
 case rest =>
  clear HC3
  obtain ⟨kq, x28_2, rfl, HA, HJ2, BK851, BK852, HB⟩ := hcut
  cases kq with
  | zero => exact absurd HA.out (by simp [laws_samePair.j0])
  | succ kj2 =>
   have H := HA.out
   clear HA
   simp only [laws_samePair.j0] at H
   by_cases c19 : x28_2 = true
   ·subst c19
    rw [if_pos rfl] at H
    obtain rfl := Option.some.inj H
    go_wp2
    repeat (go_quiet (fail); try go_wp2)
    go_ret
    exact ⟨by first | rfl | (simp [errW_none, errW_some] <;> rfl) | (simp [*, errW_none, errW_some] <;> rfl), by repeat (first | (with_reducible first | exact HB.out | apply below_alloc | apply pw_below_drewN | apply below_drew1 | refine below_set ?_ GE851.out | refine below_set ?_ GE852.out) | exact HB.out)⟩
   replace c19 := Bool.eq_false_iff.mpr c19
   subst c19
   rw [if_neg (show ¬ (false = true) by decide)] at H
   have H' := Aside0.mk H
   clear H
   have hnb20 := NB851_852.out
   have hnc20 := NB852_851.out
   have hcz21_0 : wc.cell? ⟨gb851, 0, none⟩ = some (.slice A0_0 l0_0.length c0_0) := bc_ BK851 0
   have hcz21_1 : wc.cell? ⟨gb851, 1, none⟩ = some (.slice A0_1 l0_1.length c0_1) := bc_ BK851 1
   have hcz21_2 : wc.cell? ⟨gb851, 2, none⟩ = some (.slice A0_2 l0_2.length c0_2) := bc_ BK851 2
   have hfz21_0 := blk_frozen BK851.out 0
   have hfz21_1 := blk_frozen BK851.out 1
   have hfz21_2 := blk_frozen BK851.out 2
   go_wp2
   repeat (go_quiet (fail); try go_wp2)
   go_loopg [32] kj2 (fun kq v32 w' => ∃ (x32_2 : Int), v32 = .int .i64 x32_2 ∧ Aside0 (laws_samePair.l0 kq (l0_2.length : Int) x32_2 l0_0 l0_1 l0_2 l1_0 l1_1 l1_2 = some r) ∧ Aside0 (kq ≤ kj2) ∧ Aside0 (w'.heap[gb851]? = some (.cells #[(.slice A0_0 l0_0.length c0_0), (.slice A0_1 l0_1.length c0_1), (.slice A0_2 l0_2.length c0_2)] 35 (0, 0))) ∧ Aside0 (w'.heap[gb852]? = some (.cells #[(.slice A1_0 l1_0.length c1_0), (.slice A1_1 l1_1.length c1_1), (.slice A1_2 l1_2.length c1_2)] 35 (0, 0))) ∧ Aside0 (Below w.heap.size w w'))
   case atStart => exact ⟨(0), (by first | rfl | (simp; done) | (simp [*]; done)), H', ⟨Nat.le_refl _⟩, ⟨by (with_reducible repeat (first | refine blk_drewN ?_ _ | refine blk_drew ?_ | refine blk_alloc ?_ _)); exact BK851.out⟩, ⟨by (with_reducible repeat (first | refine blk_drewN ?_ _ | refine blk_drew ?_ | refine blk_alloc ?_ _)); exact BK852.out⟩, ⟨hB HB⟩⟩
   case round =>
    clear H'
    try clear c19
    try clear hcz21_0
    try clear hcz21_1
    try clear hcz21_2
    try clear hfz21_0
    try clear hfz21_1
    try clear hfz21_2
    obtain ⟨x32_2, rfl, HA, HK2, BK851, BK852, HB⟩ := hrel
    cases gk with
    | zero => exact absurd HA.out (by simp [laws_samePair.l0])
    | succ k2 =>
     have H := HA.out
     clear HA
     simp only [laws_samePair.l0] at H
     by_cases c22 : x32_2 < (l0_2.length : Int)
     rotate_left
     ·rw [if_neg c22] at H
      have c22b0 : decide (x32_2 < (l0_2.length : Int)) = false := decide_eq_false c22
      clear c22
      obtain rfl := Option.some.inj H
      go_wp2
      repeat (go_quiet (fail); try go_wp2)
      go_ret
      exact ⟨by first | rfl | (simp [errW_none, errW_some] <;> rfl) | (simp [*, errW_none, errW_some] <;> rfl), by repeat (first | (with_reducible first | exact HB.out | apply below_alloc | apply pw_below_drewN | apply below_drew1 | refine below_set ?_ GE851.out | refine below_set ?_ GE852.out) | exact HB.out)⟩
     rw [if_pos c22] at H
     have c22b0 : decide (x32_2 < (l0_2.length : Int)) = true := decide_eq_true c22
     clear c22
     by_cases c23 : 0 ≤ x32_2
     rotate_left
     ·rw [if_neg c23] at H
      exact absurd H (by simp)
     rw [if_pos c23] at H
     have c23b0 : decide (0 ≤ x32_2) = true := decide_eq_true c23
     clear c23
     by_cases c24 : x32_2 < (l0_2.length : Int)
     rotate_left
     ·rw [if_neg c24] at H
      exact absurd H (by simp)
     rw [if_pos c24] at H
     have c24b0 : decide (x32_2 < (l0_2.length : Int)) = true := decide_eq_true c24
     clear c24
     by_cases c25 : x32_2 < (l1_2.length : Int)
     rotate_left
     ·rw [if_neg c25] at H
      exact absurd H (by simp)
     rw [if_pos c25] at H
     have c25b0 : decide (x32_2 < (l1_2.length : Int)) = true := decide_eq_true c25
     clear c25
     by_cases c26 : (!(((rd_T45 l0_2 x32_2).f0) == ((rd_T45 l1_2 x32_2).f0)) || (!(((rd_T45 l0_2 x32_2).f1) == ((rd_T45 l1_2 x32_2).f1)))) = true
     ·rw [if_pos c26] at H
      have c26b0 : (!(((rd_T45 l0_2 x32_2).f0) == ((rd_T45 l1_2 x32_2).f0)) || (!(((rd_T45 l0_2 x32_2).f1) == ((rd_T45 l1_2 x32_2).f1)))) = true := c26
      clear c26
      obtain rfl := Option.some.inj H
      have hnb27 := NB851_852.out
      have hnc27 := NB852_851.out
      have hcz28_0 : wr.cell? ⟨gb851, 0, none⟩ = some (.slice A0_0 l0_0.length c0_0) := bc_ BK851 0
      have hcz28_1 : wr.cell? ⟨gb851, 1, none⟩ = some (.slice A0_1 l0_1.length c0_1) := bc_ BK851 1
      have hcz28_2 : wr.cell? ⟨gb851, 2, none⟩ = some (.slice A0_2 l0_2.length c0_2) := bc_ BK851 2
      have hfz28_0 := blk_frozen BK851.out 0
      have hfz28_1 := blk_frozen BK851.out 1
      have hfz28_2 := blk_frozen BK851.out 2
      have p855 : 0 ≤ (x32_2 : Int) := of_decide_eq_true (by first | (with_reducible assumption) | assumption)
      have q855 : x32_2 < (l0_2.length : Int) := of_decide_eq_true (by first | (with_reducible assumption) | assumption)
      obtain ⟨ad855, e855, hx855_0, hx855_1⟩ := at_T45 HR0_2.out x32_2 p855 q855
      cases e855
      replace hx855_0 := (HB.out.cell (World.block_lt_of_cell? w _ hx855_0)).trans hx855_0
      replace hx855_1 := (HB.out.cell (World.block_lt_of_cell? w _ hx855_1)).trans hx855_1
      replace p855 := eq_true p855
      replace q855 := eq_true q855
      have hcz29_0 : wr.cell? ⟨gb852, 0, none⟩ = some (.slice A1_0 l1_0.length c1_0) := bc_ BK852 0
      have hcz29_1 : wr.cell? ⟨gb852, 1, none⟩ = some (.slice A1_1 l1_1.length c1_1) := bc_ BK852 1
      have hcz29_2 : wr.cell? ⟨gb852, 2, none⟩ = some (.slice A1_2 l1_2.length c1_2) := bc_ BK852 2
      have hfz29_0 := blk_frozen BK852.out 0
      have hfz29_1 := blk_frozen BK852.out 1
      have hfz29_2 := blk_frozen BK852.out 2
      have p856 : 0 ≤ (x32_2 : Int) := of_decide_eq_true (by first | (with_reducible assumption) | assumption)
      have q856 : x32_2 < (l1_2.length : Int) := of_decide_eq_true (by first | (with_reducible assumption) | assumption)
      obtain ⟨ad856, e856, hx856_0, hx856_1⟩ := at_T45 HR1_2.out x32_2 p856 q856
      cases e856
      replace hx856_0 := (HB.out.cell (World.block_lt_of_cell? w _ hx856_0)).trans hx856_0
      replace hx856_1 := (HB.out.cell (World.block_lt_of_cell? w _ hx856_1)).trans hx856_1
      replace p856 := eq_true p856
      replace q856 := eq_true q856
      go_wp2
      repeat (go_quiet (fail); try go_wp2)
      go_ret
      exact ⟨by first | rfl | (simp [errW_none, errW_some] <;> rfl) | (simp [*, errW_none, errW_some] <;> rfl), by repeat (first | (with_reducible first | exact HB.out | apply below_alloc | apply pw_below_drewN | apply below_drew1 | refine below_set ?_ GE851.out | refine below_set ?_ GE852.out) | exact HB.out)⟩
     rw [if_neg c26] at H
     have c26b0 : (!(((rd_T45 l0_2 x32_2).f0) == ((rd_T45 l1_2 x32_2).f0)) || (!(((rd_T45 l0_2 x32_2).f1) == ((rd_T45 l1_2 x32_2).f1)))) = false := by simpa using c26
     clear c26
     have H' := Aside0.mk H
     clear H
     have hnb30 := NB851_852.out
     have hnc30 := NB852_851.out
     have hcz31_0 : wr.cell? ⟨gb851, 0, none⟩ = some (.slice A0_0 l0_0.length c0_0) := bc_ BK851 0
     have hcz31_1 : wr.cell? ⟨gb851, 1, none⟩ = some (.slice A0_1 l0_1.length c0_1) := bc_ BK851 1
     have hcz31_2 : wr.cell? ⟨gb851, 2, none⟩ = some (.slice A0_2 l0_2.length c0_2) := bc_ BK851 2
     have hfz31_0 := blk_frozen BK851.out 0
     have hfz31_1 := blk_frozen BK851.out 1
     have hfz31_2 := blk_frozen BK851.out 2
     have p855 : 0 ≤ (x32_2 : Int) := of_decide_eq_true (by first | (with_reducible assumption) | assumption)
     have q855 : x32_2 < (l0_2.length : Int) := of_decide_eq_true (by first | (with_reducible assumption) | assumption)
     obtain ⟨ad855, e855, hx855_0, hx855_1⟩ := at_T45 HR0_2.out x32_2 p855 q855
     cases e855
     replace hx855_0 := (HB.out.cell (World.block_lt_of_cell? w _ hx855_0)).trans hx855_0
     replace hx855_1 := (HB.out.cell (World.block_lt_of_cell? w _ hx855_1)).trans hx855_1
     replace p855 := eq_true p855
     replace q855 := eq_true q855
     have hcz32_0 : wr.cell? ⟨gb852, 0, none⟩ = some (.slice A1_0 l1_0.length c1_0) := bc_ BK852 0
     have hcz32_1 : wr.cell? ⟨gb852, 1, none⟩ = some (.slice A1_1 l1_1.length c1_1) := bc_ BK852 1
     have hcz32_2 : wr.cell? ⟨gb852, 2, none⟩ = some (.slice A1_2 l1_2.length c1_2) := bc_ BK852 2
     have hfz32_0 := blk_frozen BK852.out 0
     have hfz32_1 := blk_frozen BK852.out 1
     have hfz32_2 := blk_frozen BK852.out 2
     have p856 : 0 ≤ (x32_2 : Int) := of_decide_eq_true (by first | (with_reducible assumption) | assumption)
     have q856 : x32_2 < (l1_2.length : Int) := of_decide_eq_true (by first | (with_reducible assumption) | assumption)
     obtain ⟨ad856, e856, hx856_0, hx856_1⟩ := at_T45 HR1_2.out x32_2 p856 q856
     cases e856
     replace hx856_0 := (HB.out.cell (World.block_lt_of_cell? w _ hx856_0)).trans hx856_0
     replace hx856_1 := (HB.out.cell (World.block_lt_of_cell? w _ hx856_1)).trans hx856_1
     replace p856 := eq_true p856
     replace q856 := eq_true q856
     go_wp2
     repeat (go_quiet (fail); try go_wp2)
     go_roundg k2
     case measure => have := HJ2.out; have := HK2.out; omega
     case rel => exact ⟨(wrap64 (x32_2 + 1)), (by first | rfl | (simp; done) | (simp [*]; done)), H', ⟨by have := HJ2.out; have := HK2.out; omega⟩, ⟨by (with_reducible repeat (first | refine blk_drewN ?_ _ | refine blk_drew ?_ | refine blk_alloc ?_ _)); exact BK851.out⟩, ⟨by (with_reducible repeat (first | refine blk_drewN ?_ _ | refine blk_drew ?_ | refine blk_alloc ?_ _)); exact BK852.out⟩, ⟨hB HB⟩⟩

end Go.Proofs.Ytfkjnpgpofcinaa.P
