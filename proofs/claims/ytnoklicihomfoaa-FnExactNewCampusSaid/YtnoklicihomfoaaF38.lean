import Derived.Test.YtnoklicihomfoaaF0
import Derived.Test.YtnoklicihomfoaaF2
import Derived.Test.YtnoklicihomfoaaF10
namespace Go.Proofs.Ytnoklicihomfoaa.P
open Go.RowKit Go.Proofs.YtnoklicihomfoaaW.PrintWords Go.Proofs.YtnoklicihomfoaaW.PrintLast Go.Proofs.YtnoklicihomfoaaW.PrintMore
attribute [local go_sem] max2_int min2_int max_two min_two max_three min_three max_four min_four   -- for this text's walks alone
set_option linter.unusedVariables false
set_option linter.unusedSimpArgs false

def laws_eqPlace.f (k : Nat) (a0_0 : Int) (a0_1 : Int) (l0_2 : List Int) (a1_0 : Int) (a1_1 : Int) (l1_2 : List Int) : Option (Bool) := if a0_0 = a1_0 then (if a0_1 = a1_1 then ((laws_eqIntS.f k l0_2 l1_2).bind fun t791 => (if t791 = true then (some true) else (some false))) else (some false)) else (some false)
theorem laws_eqPlace.mono : ∀ a0 a1 a2 a3 a4 a5 k, LeO (laws_eqPlace.f k a0 a1 a2 a3 a4 a5) (laws_eqPlace.f (k + 1) a0 a1 a2 a3 a4 a5) := by
 intro a0 a1 a2 a3 a4 a5 k
 unfold laws_eqPlace.f
 repeat' first
   | (with_reducible exact laws_eqIntS.mono _ _ _)
   | (with_reducible exact LeO.refl _)
   | (with_reducible exact LeO.none _)
   | (with_reducible refine LeO.ite ?_ ?_)
   | (with_reducible refine LeO.bind ?_ (fun _ => ?_))
   | exact laws_eqIntS.mono _ _ _
   | exact LeO.none _
   | refine LeO.ite ?_ ?_
   | refine LeO.bind ?_ (fun _ => ?_)
set_option maxHeartbeats 8000000 in
set_option maxRecDepth 100000 in
theorem laws_eqPlace.calls (k : Nat) (a0_0 : Int) (a0_1 : Int) (A0_2 : Option Addr) (c0_2 : Nat) (l0_2 : List Int) (a1_0 : Int) (a1_1 : Int) (A1_2 : Option Addr) (c1_2 : Nat) (l1_2 : List Int) (r : Bool) (w : World) (hr0_2 : Kd.C (Kd.int .i64) w A0_2 l0_2.length l0_2) (hc0_2 : l0_2.length ≤ c0_2) (hr1_2 : Kd.C (Kd.int .i64) w A1_2 l1_2.length l1_2) (hc1_2 : l1_2.length ≤ c1_2) (h : laws_eqPlace.f k a0_0 a0_1 l0_2 a1_0 a1_1 l1_2 = some r) :
  Calls Try.prog 131 #[.agg #[.int .i64 a0_0, .int .i64 a0_1, .slice A0_2 l0_2.length c0_2], .agg #[.int .i64 a1_0, .int .i64 a1_1, .slice A1_2 l1_2.length c1_2]] w fun e w' => e = .returned (.bool r) ∧ Below w.heap.size w w' := by
 have hu118 := Try.underlying118
 have HR0_2 := Aside0.mk hr0_2
 have HC0_2 := Aside0.mk hc0_2
 clear hr0_2 hc0_2
 have HR1_2 := Aside0.mk hr1_2
 have HC1_2 := Aside0.mk hc1_2
 clear hr1_2 hc1_2
 have HB := Aside0.mk (Below.refl w.heap.size w)
 have H : (if a0_0 = a1_0 then (if a0_1 = a1_1 then ((laws_eqIntS.f k l0_2 l1_2).bind fun t791 => (if t791 = true then (some true) else (some false))) else (some false)) else (some false)) = some r := h
 clear h
 by_cases c3 : a0_0 = a1_0
 rotate_left
 ·rw [if_neg c3] at H
  have c3b0 : (a0_0 == a1_0) = false := beq_eq_false_iff_ne.mpr c3
  have c3b1 : (a0_0 != a1_0) = true := bne_iff_ne.mpr c3
  obtain rfl := Option.some.inj H
  go_enter Try.func131, Try.ntmps131
  go_wp2_with (first | ((with_reducible refine gate_dst (N := 2) rfl ?_); refine box_event ?hg (N := 2) ?hd (cs := #[.int .i64 a0_0, .int .i64 a0_1, .slice A0_2 l0_2.length c0_2]) (t := 118) ?hr ?_; (case hd => rfl); (case hg => rfl); (case hr => first | (go_simp; done) | (go_simp; rfl)); intro gb789 hg w22 hbox hb; have BK789 := Aside0.mk (hbox); have GW789 := gw_ hg HB; have GE789 := gw_ hg HB; replace HB := bst_ HB hb; clear hb hbox hg) | ((with_reducible refine gate_dst (N := 3) rfl ?_); refine box_event ?hg (N := 3) ?hd (cs := #[.int .i64 a1_0, .int .i64 a1_1, .slice A1_2 l1_2.length c1_2]) (t := 118) ?hr ?_; (case hd => rfl); (case hg => rfl); (case hr => first | (go_simp; done) | (go_simp; rfl)); intro gb790 hg w23 hbox hb; have BK790 := Aside0.mk (hbox); have GW790 := gw_ hg HB; have GE790 := gw_ hg HB; have NB789_790 := nl_ hg BK789; have NB790_789 := ng_ hg BK789; replace BK789 := bb_ BK789 hb; replace HB := bst_ HB hb; clear hb hbox hg; have hnb24 := NB789_790.out; have hnc24 := NB790_789.out; have hcz25_0 : w23.cell? ⟨gb789, 0, none⟩ = some (.int .i64 a0_0) := bc_ BK789 0; have hcz25_1 : w23.cell? ⟨gb789, 1, none⟩ = some (.int .i64 a0_1) := bc_ BK789 1; have hcz25_2 : w23.cell? ⟨gb789, 2, none⟩ = some (.slice A0_2 l0_2.length c0_2) := bc_ BK789 2; have hfz25_0 := blk_frozen BK789.out 0; have hfz25_1 := blk_frozen BK789.out 1; have hfz25_2 := blk_frozen BK789.out 2; have hcz26_0 : w23.cell? ⟨gb790, 0, none⟩ = some (.int .i64 a1_0) := bc_ BK790 0; have hcz26_1 : w23.cell? ⟨gb790, 1, none⟩ = some (.int .i64 a1_1) := bc_ BK790 1; have hcz26_2 : w23.cell? ⟨gb790, 2, none⟩ = some (.slice A1_2 l1_2.length c1_2) := bc_ BK790 2; have hfz26_0 := blk_frozen BK790.out 0; have hfz26_1 := blk_frozen BK790.out 1; have hfz26_2 := blk_frozen BK790.out 2))
  go_ret
  exact ⟨by first | rfl | (simp [errW_none, errW_some] <;> rfl) | (simp [*, errW_none, errW_some] <;> rfl), by repeat (first | (with_reducible first | exact HB.out | apply below_alloc | apply pw_below_drewN | apply below_drew1 | refine below_set ?_ GE789.out | refine below_set ?_ GE790.out) | exact HB.out)⟩
 rw [if_pos c3] at H
 have c3b0 : (a0_0 == a1_0) = true := beq_iff_eq.mpr c3
 have c3b1 : (a0_0 != a1_0) = false := bne_eq_false_iff_eq.mpr c3
 clear c3
 by_cases c4 : a0_1 = a1_1
 rotate_left
 ·rw [if_neg c4] at H
  have c4b0 : (a0_1 == a1_1) = false := beq_eq_false_iff_ne.mpr c4
  have c4b1 : (a0_1 != a1_1) = true := bne_iff_ne.mpr c4
  obtain rfl := Option.some.inj H
  go_enter Try.func131, Try.ntmps131
  go_wp2_with (first | ((with_reducible refine gate_dst (N := 2) rfl ?_); refine box_event ?hg (N := 2) ?hd (cs := #[.int .i64 a0_0, .int .i64 a0_1, .slice A0_2 l0_2.length c0_2]) (t := 118) ?hr ?_; (case hd => rfl); (case hg => rfl); (case hr => first | (go_simp; done) | (go_simp; rfl)); intro gb789 hg w17 hbox hb; have BK789 := Aside0.mk (hbox); have GW789 := gw_ hg HB; have GE789 := gw_ hg HB; replace HB := bst_ HB hb; clear hb hbox hg) | ((with_reducible refine gate_dst (N := 3) rfl ?_); refine box_event ?hg (N := 3) ?hd (cs := #[.int .i64 a1_0, .int .i64 a1_1, .slice A1_2 l1_2.length c1_2]) (t := 118) ?hr ?_; (case hd => rfl); (case hg => rfl); (case hr => first | (go_simp; done) | (go_simp; rfl)); intro gb790 hg w18 hbox hb; have BK790 := Aside0.mk (hbox); have GW790 := gw_ hg HB; have GE790 := gw_ hg HB; have NB789_790 := nl_ hg BK789; have NB790_789 := ng_ hg BK789; replace BK789 := bb_ BK789 hb; replace HB := bst_ HB hb; clear hb hbox hg; have hnb19 := NB789_790.out; have hnc19 := NB790_789.out; have hcz20_0 : w18.cell? ⟨gb789, 0, none⟩ = some (.int .i64 a0_0) := bc_ BK789 0; have hcz20_1 : w18.cell? ⟨gb789, 1, none⟩ = some (.int .i64 a0_1) := bc_ BK789 1; have hcz20_2 : w18.cell? ⟨gb789, 2, none⟩ = some (.slice A0_2 l0_2.length c0_2) := bc_ BK789 2; have hfz20_0 := blk_frozen BK789.out 0; have hfz20_1 := blk_frozen BK789.out 1; have hfz20_2 := blk_frozen BK789.out 2; have hcz21_0 : w18.cell? ⟨gb790, 0, none⟩ = some (.int .i64 a1_0) := bc_ BK790 0; have hcz21_1 : w18.cell? ⟨gb790, 1, none⟩ = some (.int .i64 a1_1) := bc_ BK790 1; have hcz21_2 : w18.cell? ⟨gb790, 2, none⟩ = some (.slice A1_2 l1_2.length c1_2) := bc_ BK790 2; have hfz21_0 := blk_frozen BK790.out 0; have hfz21_1 := blk_frozen BK790.out 1; have hfz21_2 := blk_frozen BK790.out 2))
  go_ret
  exact ⟨by first | rfl | (simp [errW_none, errW_some] <;> rfl) | (simp [*, errW_none, errW_some] <;> rfl), by repeat (first | (with_reducible first | exact HB.out | apply below_alloc | apply pw_below_drewN | apply below_drew1 | refine below_set ?_ GE789.out | refine below_set ?_ GE790.out) | exact HB.out)⟩
 rw [if_pos c4] at H
 have c4b0 : (a0_1 == a1_1) = true := beq_iff_eq.mpr c4
 have c4b1 : (a0_1 != a1_1) = false := bne_eq_false_iff_eq.mpr c4
 clear c4
 replace H := Option.bind_eq_some_iff.mp H
 obtain ⟨t791, A50, H⟩ := H
 replace H : (if t791 = true then (some true) else (some false)) = some r := H
 have A5 := Aside0.mk A50
 clear A50
 by_cases c6 : t791 = true
 ·subst c6
  have H1 : (some true) = some r := by rw [if_pos rfl] at H; exact H
  clear H
  have H := H1
  clear H1
  obtain rfl := Option.some.inj H
  go_enter Try.func131, Try.ntmps131
  go_wp2_with (first | ((with_reducible refine gate_dst (N := 2) rfl ?_); refine box_event ?hg (N := 2) ?hd (cs := #[.int .i64 a0_0, .int .i64 a0_1, .slice A0_2 l0_2.length c0_2]) (t := 118) ?hr ?_; (case hd => rfl); (case hg => rfl); (case hr => first | (go_simp; done) | (go_simp; rfl)); intro gb789 hg w7 hbox hb; have BK789 := Aside0.mk (hbox); have GW789 := gw_ hg HB; have GE789 := gw_ hg HB; replace HB := bst_ HB hb; clear hb hbox hg) | ((with_reducible refine gate_dst (N := 3) rfl ?_); refine box_event ?hg (N := 3) ?hd (cs := #[.int .i64 a1_0, .int .i64 a1_1, .slice A1_2 l1_2.length c1_2]) (t := 118) ?hr ?_; (case hd => rfl); (case hg => rfl); (case hr => first | (go_simp; done) | (go_simp; rfl)); intro gb790 hg w8 hbox hb; have BK790 := Aside0.mk (hbox); have GW790 := gw_ hg HB; have GE790 := gw_ hg HB; have NB789_790 := nl_ hg BK789; have NB790_789 := ng_ hg BK789; replace BK789 := bb_ BK789 hb; replace HB := bst_ HB hb; clear hb hbox hg; have hnb9 := NB789_790.out; have hnc9 := NB790_789.out; have hcz10_0 : w8.cell? ⟨gb789, 0, none⟩ = some (.int .i64 a0_0) := bc_ BK789 0; have hcz10_1 : w8.cell? ⟨gb789, 1, none⟩ = some (.int .i64 a0_1) := bc_ BK789 1; have hcz10_2 : w8.cell? ⟨gb789, 2, none⟩ = some (.slice A0_2 l0_2.length c0_2) := bc_ BK789 2; have hfz10_0 := blk_frozen BK789.out 0; have hfz10_1 := blk_frozen BK789.out 1; have hfz10_2 := blk_frozen BK789.out 2; have hcz11_0 : w8.cell? ⟨gb790, 0, none⟩ = some (.int .i64 a1_0) := bc_ BK790 0; have hcz11_1 : w8.cell? ⟨gb790, 1, none⟩ = some (.int .i64 a1_1) := bc_ BK790 1; have hcz11_2 : w8.cell? ⟨gb790, 2, none⟩ = some (.slice A1_2 l1_2.length c1_2) := bc_ BK790 2; have hfz11_0 := blk_frozen BK790.out 0; have hfz11_1 := blk_frozen BK790.out 1; have hfz11_2 := blk_frozen BK790.out 2) | ((with_reducible refine gate_callee (f := 21) rfl ?_); refine goesL_ (some 19) rfl rfl Try.func21 (by kernel_rfl) rfl #[.slice A0_2 l0_2.length c0_2, .slice A1_2 l1_2.length c1_2] rfl tm_ ?_; (with_reducible refine (laws_eqIntS.calls k _ _ l0_2 _ _ l1_2 true _ ?side1 ?side2 ?side3 ?side4 A5.out).mono ?_); (case side1 => exact ca (Kd.C_below HR0_2.out HB.out)); (case side2 => exact HC0_2.out); (case side3 => exact ca (Kd.C_below HR1_2.out HB.out)); (case side4 => exact HC1_2.out); rintro e w' ⟨rfl, ⟨nd, rfl⟩⟩; refine ⟨_, rfl, ?_⟩))
  go_ret
  exact ⟨by first | rfl | (simp [errW_none, errW_some] <;> rfl) | (simp [*, errW_none, errW_some] <;> rfl), by repeat (first | (with_reducible first | exact HB.out | apply below_alloc | apply pw_below_drewN | apply below_drew1 | refine below_set ?_ GE789.out | refine below_set ?_ GE790.out) | exact HB.out)⟩
 replace c6 := Bool.eq_false_iff.mpr c6
 subst c6
 have H1 : (some false) = some r := by rw [if_neg (show ¬ (false = true) by decide)] at H; exact H
 clear H
 have H := H1
 clear H1
 obtain rfl := Option.some.inj H
 go_enter Try.func131, Try.ntmps131
 go_wp2_with (first | ((with_reducible refine gate_dst (N := 2) rfl ?_); refine box_event ?hg (N := 2) ?hd (cs := #[.int .i64 a0_0, .int .i64 a0_1, .slice A0_2 l0_2.length c0_2]) (t := 118) ?hr ?_; (case hd => rfl); (case hg => rfl); (case hr => first | (go_simp; done) | (go_simp; rfl)); intro gb789 hg w12 hbox hb; have BK789 := Aside0.mk (hbox); have GW789 := gw_ hg HB; have GE789 := gw_ hg HB; replace HB := bst_ HB hb; clear hb hbox hg) | ((with_reducible refine gate_dst (N := 3) rfl ?_); refine box_event ?hg (N := 3) ?hd (cs := #[.int .i64 a1_0, .int .i64 a1_1, .slice A1_2 l1_2.length c1_2]) (t := 118) ?hr ?_; (case hd => rfl); (case hg => rfl); (case hr => first | (go_simp; done) | (go_simp; rfl)); intro gb790 hg w13 hbox hb; have BK790 := Aside0.mk (hbox); have GW790 := gw_ hg HB; have GE790 := gw_ hg HB; have NB789_790 := nl_ hg BK789; have NB790_789 := ng_ hg BK789; replace BK789 := bb_ BK789 hb; replace HB := bst_ HB hb; clear hb hbox hg; have hnb14 := NB789_790.out; have hnc14 := NB790_789.out; have hcz15_0 : w13.cell? ⟨gb789, 0, none⟩ = some (.int .i64 a0_0) := bc_ BK789 0; have hcz15_1 : w13.cell? ⟨gb789, 1, none⟩ = some (.int .i64 a0_1) := bc_ BK789 1; have hcz15_2 : w13.cell? ⟨gb789, 2, none⟩ = some (.slice A0_2 l0_2.length c0_2) := bc_ BK789 2; have hfz15_0 := blk_frozen BK789.out 0; have hfz15_1 := blk_frozen BK789.out 1; have hfz15_2 := blk_frozen BK789.out 2; have hcz16_0 : w13.cell? ⟨gb790, 0, none⟩ = some (.int .i64 a1_0) := bc_ BK790 0; have hcz16_1 : w13.cell? ⟨gb790, 1, none⟩ = some (.int .i64 a1_1) := bc_ BK790 1; have hcz16_2 : w13.cell? ⟨gb790, 2, none⟩ = some (.slice A1_2 l1_2.length c1_2) := bc_ BK790 2; have hfz16_0 := blk_frozen BK790.out 0; have hfz16_1 := blk_frozen BK790.out 1; have hfz16_2 := blk_frozen BK790.out 2) | ((with_reducible refine gate_callee (f := 21) rfl ?_); refine goesL_ (some 19) rfl rfl Try.func21 (by kernel_rfl) rfl #[.slice A0_2 l0_2.length c0_2, .slice A1_2 l1_2.length c1_2] rfl tm_ ?_; (with_reducible refine (laws_eqIntS.calls k _ _ l0_2 _ _ l1_2 false _ ?side1 ?side2 ?side3 ?side4 A5.out).mono ?_); (case side1 => exact ca (Kd.C_below HR0_2.out HB.out)); (case side2 => exact HC0_2.out); (case side3 => exact ca (Kd.C_below HR1_2.out HB.out)); (case side4 => exact HC1_2.out); rintro e w' ⟨rfl, ⟨nd, rfl⟩⟩; refine ⟨_, rfl, ?_⟩))
 go_ret
 exact ⟨by first | rfl | (simp [errW_none, errW_some] <;> rfl) | (simp [*, errW_none, errW_some] <;> rfl), by repeat (first | (with_reducible first | exact HB.out | apply below_alloc | apply pw_below_drewN | apply below_drew1 | refine below_set ?_ GE789.out | refine below_set ?_ GE790.out) | exact HB.out)⟩

def laws_eqPlaceS.l0 : Nat → List (S118) → List (S118) → Int → Option (Bool)
 | 0, _, _, _ => none
 | k + 1, x0, x1, x5 => if x5 < (x0.length : Int) then (if 0 ≤ x5 then (if x5 < (x1.length : Int) then ((laws_eqPlace.f k ((rd_T118 x0 x5).f0) ((rd_T118 x0 x5).f1) ((rd_T118 x0 x5).f2) ((rd_T118 x1 x5).f0) ((rd_T118 x1 x5).f1) ((rd_T118 x1 x5).f2)).bind fun t794 => (if t794 = true then (laws_eqPlaceS.l0 k x0 x1 (wrap64 (x5 + 1))) else (some false))) else (none)) else (none)) else (some true)
def laws_eqPlaceS.f (k : Nat) (l0 : List (S118)) (l1 : List (S118)) : Option (Bool) := if (l0.length : Int) = (l1.length : Int) then (laws_eqPlaceS.l0 k l0 l1 0) else (some false)
theorem laws_eqPlaceS.mono_l : ∀ k, (∀ y0 y1 y2, LeO (laws_eqPlaceS.l0 k y0 y1 y2) (laws_eqPlaceS.l0 (k + 1) y0 y1 y2))
 | 0 => fun _ _ _ r h => by simp [laws_eqPlaceS.l0] at h
 | k + 1 => by
  have ih0 := laws_eqPlaceS.mono_l k
  ·intro y0 y1 y2
   unfold laws_eqPlaceS.l0
   repeat' first
   | (with_reducible exact ih0 _ _ _)
   | (with_reducible exact laws_eqPlace.mono _ _ _ _ _ _ _)
   | (with_reducible exact LeO.refl _)
   | (with_reducible exact LeO.none _)
   | (with_reducible refine LeO.ite ?_ ?_)
   | (with_reducible refine LeO.bind ?_ (fun _ => ?_))
   | exact ih0 _ _ _
   | exact laws_eqPlace.mono _ _ _ _ _ _ _
   | exact LeO.none _
   | refine LeO.ite ?_ ?_
   | refine LeO.bind ?_ (fun _ => ?_)
theorem laws_eqPlaceS.mono : ∀ a0 a1 k, LeO (laws_eqPlaceS.f k a0 a1) (laws_eqPlaceS.f (k + 1) a0 a1) := by
 intro a0 a1 k
 have ih0 := laws_eqPlaceS.mono_l k
 unfold laws_eqPlaceS.f
 repeat' first
   | (with_reducible exact ih0 _ _ _)
   | (with_reducible exact laws_eqPlace.mono _ _ _ _ _ _ _)
   | (with_reducible exact LeO.refl _)
   | (with_reducible exact LeO.none _)
   | (with_reducible refine LeO.ite ?_ ?_)
   | (with_reducible refine LeO.bind ?_ (fun _ => ?_))
   | exact ih0 _ _ _
   | exact laws_eqPlace.mono _ _ _ _ _ _ _
   | exact LeO.none _
   | refine LeO.ite ?_ ?_
   | refine LeO.bind ?_ (fun _ => ?_)
def laws_eqPlaceS.T6 : Bool × List (List Nat × List Nat) := (true, [([], []), ([], []), ([0, 1], [0, 1]), ([2], [2]), ([], []), ([], []), ([4, 5], [4, 5]), ([6], [6]), ([3, 7], [3, 7]), ([8], [8])])
def laws_eqPlaceS.B6 : List Nat := [0, 0, 3, 7, 0, 0, 48, 112, 255, 511]
theorem laws_eqPlaceS.tab6 : rtab .any (opsOf Try.f93 6) = laws_eqPlaceS.T6 := by kernel_rfl
theorem laws_eqPlaceS.bits6 : waitsOk laws_eqPlaceS.T6.2 laws_eqPlaceS.B6 = true := by kernel_rfl
set_option maxHeartbeats 8000000 in
set_option maxRecDepth 100000 in
theorem laws_eqPlaceS.calls (k : Nat) (A0 : Option Addr) (c0 : Nat) (l0 : List (S118)) (A1 : Option Addr) (c1 : Nat) (l1 : List (S118)) (r : Bool) (w : World) (hr0 : Kd.C k118 w A0 l0.length l0) (hc0 : l0.length ≤ c0) (hr1 : Kd.C k118 w A1 l1.length l1) (hc1 : l1.length ≤ c1) (h : laws_eqPlaceS.f k l0 l1 = some r) :
  Calls Try.prog 93 #[.slice A0 l0.length c0, .slice A1 l1.length c1] w fun e w' => e = .returned (.bool r) ∧ Below w.heap.size w w' := by
 have hu118 := Try.underlying118
 have HR0 := Aside0.mk hr0
 have HC0 := Aside0.mk hc0
 clear hr0 hc0
 have HR1 := Aside0.mk hr1
 have HC1 := Aside0.mk hc1
 clear hr1 hc1
 have HB := Aside0.mk (Below.refl w.heap.size w)
 have H : (if (l0.length : Int) = (l1.length : Int) then (laws_eqPlaceS.l0 k l0 l1 0) else (some false)) = some r := h
 clear h
 by_cases c3 : (l0.length : Int) = (l1.length : Int)
 rotate_left
 ·rw [if_neg c3] at H
  have c3b0 : ((l0.length : Int) == (l1.length : Int)) = false := beq_eq_false_iff_ne.mpr c3
  have c3b1 : ((l0.length : Int) != (l1.length : Int)) = true := bne_iff_ne.mpr c3
  have c3b2 : (l0.length == l1.length) = false := by first | simpa using c3 | (simp at c3 ⊢; omega)
  obtain rfl := Option.some.inj H
  go_enter Try.func93, Try.ntmps93
  go_wp2
  go_ret
  exact ⟨by first | rfl | (simp [errW_none, errW_some] <;> rfl) | (simp [*, errW_none, errW_some] <;> rfl), by repeat (first | (with_reducible first | exact HB.out | apply below_alloc | apply pw_below_drewN | apply below_drew1) | exact HB.out)⟩
 rw [if_pos c3] at H
 have c3b0 : ((l0.length : Int) == (l1.length : Int)) = true := beq_iff_eq.mpr c3
 have c3b1 : ((l0.length : Int) != (l1.length : Int)) = false := bne_eq_false_iff_eq.mpr c3
 have c3b2 : (l0.length == l1.length) = true := by first | simpa using c3 | (simp at c3 ⊢; omega)
 clear c3
 have H' := Aside0.mk H
 clear H
 go_enter Try.func93, Try.ntmps93
 go_wp2
 go_loopg [5] k (fun kq v5 w' => ∃ (x5_1 : Int), v5 = .int .i64 x5_1 ∧ Aside0 (laws_eqPlaceS.l0 kq l0 l1 x5_1 = some r) ∧ Aside0 (kq ≤ k) ∧ Aside0 (Below w.heap.size w w'))
 case atStart => exact ⟨(0), (by first | rfl | (simp; done) | (simp [*]; done)), H', ⟨Nat.le_refl _⟩, ⟨hB HB⟩⟩
 case round =>
  clear H'
  try clear c1
  try clear p2
  try clear c3
  try clear c3b0
  try clear c3b1
  try clear c3b2
  obtain ⟨x5_1, rfl, HA, HK1, HB⟩ := hrel
  cases gk with
  | zero => exact absurd HA.out (by simp [laws_eqPlaceS.l0])
  | succ k1 =>
   have H := HA.out
   clear HA
   simp only [laws_eqPlaceS.l0] at H
   by_cases c4 : x5_1 < (l0.length : Int)
   rotate_left
   ·rw [if_neg c4] at H
    have c4b0 : decide (x5_1 < (l0.length : Int)) = false := decide_eq_false c4
    clear c4
    obtain rfl := Option.some.inj H
    go_wp2
    go_ret
    exact ⟨by first | rfl | (simp [errW_none, errW_some] <;> rfl) | (simp [*, errW_none, errW_some] <;> rfl), by repeat (first | (with_reducible first | exact HB.out | apply below_alloc | apply pw_below_drewN | apply below_drew1) | exact HB.out)⟩
   rw [if_pos c4] at H
   have c4b0 : decide (x5_1 < (l0.length : Int)) = true := decide_eq_true c4
   clear c4
   by_cases c5 : 0 ≤ x5_1
   rotate_left
   ·rw [if_neg c5] at H
    exact absurd H (by simp)
   rw [if_pos c5] at H
   have c5b0 : decide (0 ≤ x5_1) = true := decide_eq_true c5
   clear c5
   by_cases c6 : x5_1 < (l1.length : Int)
   rotate_left
   ·rw [if_neg c6] at H
    exact absurd H (by simp)
   rw [if_pos c6] at H
   have c6b0 : decide (x5_1 < (l1.length : Int)) = true := decide_eq_true c6
   clear c6
   replace H := Option.bind_eq_some_iff.mp H
   obtain ⟨t794, A70, H⟩ := H
   replace H : (if t794 = true then (laws_eqPlaceS.l0 k1 l0 l1 (wrap64 (x5_1 + 1))) else (some false)) = some r := H
   have A7 := Aside0.mk A70
   clear A70
   by_cases c8 : t794 = true
   ·subst c8
    have H1 : (laws_eqPlaceS.l0 k1 l0 l1 (wrap64 (x5_1 + 1))) = some r := by rw [if_pos rfl] at H; exact H
    clear H
    have H := H1
    clear H1
    have H' := Aside0.mk H
    clear H
    try go_wp2
    replace HB := Aside0.mk (below_drew1 HB.out)
    have p792 : 0 ≤ (x5_1 : Int) := of_decide_eq_true (by first | (with_reducible assumption) | assumption)
    have q792 : x5_1 < (l0.length : Int) := of_decide_eq_true (by first | (with_reducible assumption) | assumption)
    obtain ⟨ad792, A792_2, c792_2, e792, hx792_0, hx792_1, hx792_2, hl792_2, hi792_2⟩ := at_T118 HR0.out x5_1 p792 q792
    have hw792_2 := hx792_2
    have hw792_1 := hx792_1
    have hw792_0 := hx792_0
    cases e792
    replace hx792_0 := (HB.out.cell (World.block_lt_of_cell? w _ hx792_0)).trans hx792_0
    replace hx792_1 := (HB.out.cell (World.block_lt_of_cell? w _ hx792_1)).trans hx792_1
    replace hx792_2 := (HB.out.cell (World.block_lt_of_cell? w _ hx792_2)).trans hx792_2
    have HR792_2 := Aside0.mk hi792_2
    have HC792_2 := Aside0.mk hl792_2
    clear hi792_2 hl792_2
    replace p792 := eq_true p792
    replace q792 := eq_true q792
    have p793 : 0 ≤ (x5_1 : Int) := of_decide_eq_true (by first | (with_reducible assumption) | assumption)
    have q793 : x5_1 < (l1.length : Int) := of_decide_eq_true (by first | (with_reducible assumption) | assumption)
    obtain ⟨ad793, A793_2, c793_2, e793, hx793_0, hx793_1, hx793_2, hl793_2, hi793_2⟩ := at_T118 HR1.out x5_1 p793 q793
    have hw793_2 := hx793_2
    have hw793_1 := hx793_1
    have hw793_0 := hx793_0
    cases e793
    replace hx793_0 := (HB.out.cell (World.block_lt_of_cell? w _ hx793_0)).trans hx793_0
    replace hx793_1 := (HB.out.cell (World.block_lt_of_cell? w _ hx793_1)).trans hx793_1
    replace hx793_2 := (HB.out.cell (World.block_lt_of_cell? w _ hx793_2)).trans hx793_2
    have HR793_2 := Aside0.mk hi793_2
    have HC793_2 := Aside0.mk hl793_2
    clear hi793_2 hl793_2
    replace p793 := eq_true p793
    replace q793 := eq_true q793
    refine start_ (n := 10) (S := fun w' => w'.cell? (ad792.add ((x5_1).toNat * 3)) = some (.int .i64 ((rd_T118 l0 x5_1).f0)) ∧ w'.cell? ⟨(ad792.add ((x5_1).toNat * 3)).block, (ad792.add ((x5_1).toNat * 3)).off + 1, none⟩ = some (.int .i64 ((rd_T118 l0 x5_1).f1)) ∧ w'.cell? ⟨(ad792.add ((x5_1).toNat * 3)).block, (ad792.add ((x5_1).toNat * 3)).off + 2, none⟩ = some (.slice A792_2 ((rd_T118 l0 x5_1).f2).length c792_2) ∧ w'.cell? (ad793.add ((x5_1).toNat * 3)) = some (.int .i64 ((rd_T118 l1 x5_1).f0)) ∧ w'.cell? ⟨(ad793.add ((x5_1).toNat * 3)).block, (ad793.add ((x5_1).toNat * 3)).off + 1, none⟩ = some (.int .i64 ((rd_T118 l1 x5_1).f1)) ∧ w'.cell? ⟨(ad793.add ((x5_1).toNat * 3)).block, (ad793.add ((x5_1).toNat * 3)).off + 2, none⟩ = some (.slice A793_2 ((rd_T118 l1 x5_1).f2).length c793_2)) (ds := []) (bs 10 0) (by kernel_rfl) rfl rfl ⟨((HB.out.cell (World.block_lt_of_cell? w _ hw792_0)).trans hw792_0), ((HB.out.cell (World.block_lt_of_cell? w _ hw792_1)).trans hw792_1), ((HB.out.cell (World.block_lt_of_cell? w _ hw792_2)).trans hw792_2), ((HB.out.cell (World.block_lt_of_cell? w _ hw793_0)).trans hw793_0), ((HB.out.cell (World.block_lt_of_cell? w _ hw793_1)).trans hw793_1), ((HB.out.cell (World.block_lt_of_cell? w _ hw793_2)).trans hw793_2)⟩ (fun hHeld => ?_); refine with_tabW laws_eqPlaceS.tab6 laws_eqPlaceS.bits6 (fun HT_ HW_ => ?_)
    generalize wr.drew = w9 at HB HR792_2 HR793_2 hx792_0 hx792_1 hx792_2 hx793_0 hx793_1 hx793_2 hHeld ⊢
    refine pu_ 0 17 (bs 10 1) HT_ ?_
    refine pu_ 1 18 (bs 10 3) HT_ ?_
    refine pu_ 2 19 (bs 10 7) HT_ ?_
    refine pu_ 4 21 (bs 10 23) HT_ ?_
    refine pu_ 5 22 (bs 10 55) HT_ ?_
    refine pu_ 6 23 (bs 10 119) HT_ ?_
    refine tk_ 3 20 (bs 10 127) HT_ HW_ hHeld ?_
    refine tk_ 7 24 (bs 10 255) HT_ HW_ hHeld ?_
    refine one_ (i := 8) (N := some 25) (bs 10 511) rfl rfl (one_of HT_.out (by kernel_rfl)) (by decide) (fun K hK => ?_)
    refine goes_ Try.func131 (by kernel_rfl) rfl #[.agg #[.int .i64 ((rd_T118 l0 x5_1).f0), .int .i64 ((rd_T118 l0 x5_1).f1), .slice A792_2 ((rd_T118 l0 x5_1).f2).length c792_2], .agg #[.int .i64 ((rd_T118 l1 x5_1).f0), .int .i64 ((rd_T118 l1 x5_1).f1), .slice A793_2 ((rd_T118 l1 x5_1).f2).length c793_2]] (by rfl) rfl rfl tm_ ?_
    with_reducible refine (laws_eqPlace.calls k1 ((rd_T118 l0 x5_1).f0) ((rd_T118 l0 x5_1).f1) _ _ ((rd_T118 l0 x5_1).f2) ((rd_T118 l1 x5_1).f0) ((rd_T118 l1 x5_1).f1) _ _ ((rd_T118 l1 x5_1).f2) true _ ?side1 ?side2 ?side3 ?side4 A7.out).mono ?_
    (case side1 => exact ca (Kd.C_below HR792_2.out HB.out))
    (case side2 => exact HC792_2.out)
    (case side3 => exact ca (Kd.C_below HR793_2.out HB.out))
    (case side4 => exact HC793_2.out)
    rintro e w10 ⟨rfl, hb⟩
    refine ⟨_, rfl, ?_⟩
    replace HB := bst_ HB hb
    clear hb
    refine hK.out _ _ ⟨((HB.out.cell (World.block_lt_of_cell? w _ hw792_0)).trans hw792_0), ((HB.out.cell (World.block_lt_of_cell? w _ hw792_1)).trans hw792_1), ((HB.out.cell (World.block_lt_of_cell? w _ hw792_2)).trans hw792_2), ((HB.out.cell (World.block_lt_of_cell? w _ hw793_0)).trans hw793_0), ((HB.out.cell (World.block_lt_of_cell? w _ hw793_1)).trans hw793_1), ((HB.out.cell (World.block_lt_of_cell? w _ hw793_2)).trans hw793_2)⟩ (fun hHeld => ?_)
    clear hK K
    refine nm_ 25 ?_
    refine pu_ 9 26 (bs 10 1023) HT_ ?_
    refine done_ (done_of HT_.out (by kernel_rfl)) ?_
    try go_wp2
    go_roundg k1
    case measure => have := HK1.out; omega
    case rel => exact ⟨(wrap64 (x5_1 + 1)), (by first | rfl | (simp; done) | (simp [*]; done)), H', ⟨by have := HK1.out; omega⟩, ⟨hB HB⟩⟩
   replace c8 := Bool.eq_false_iff.mpr c8
   subst c8
   have H1 : (some false) = some r := by rw [if_neg (show ¬ (false = true) by decide)] at H; exact H
   clear H
   have H := H1
   clear H1
   obtain rfl := Option.some.inj H
   try go_wp2
   replace HB := Aside0.mk (below_drew1 HB.out)
   have p792 : 0 ≤ (x5_1 : Int) := of_decide_eq_true (by first | (with_reducible assumption) | assumption)
   have q792 : x5_1 < (l0.length : Int) := of_decide_eq_true (by first | (with_reducible assumption) | assumption)
   obtain ⟨ad792, A792_2, c792_2, e792, hx792_0, hx792_1, hx792_2, hl792_2, hi792_2⟩ := at_T118 HR0.out x5_1 p792 q792
   have hw792_2 := hx792_2
   have hw792_1 := hx792_1
   have hw792_0 := hx792_0
   cases e792
   replace hx792_0 := (HB.out.cell (World.block_lt_of_cell? w _ hx792_0)).trans hx792_0
   replace hx792_1 := (HB.out.cell (World.block_lt_of_cell? w _ hx792_1)).trans hx792_1
   replace hx792_2 := (HB.out.cell (World.block_lt_of_cell? w _ hx792_2)).trans hx792_2
   have HR792_2 := Aside0.mk hi792_2
   have HC792_2 := Aside0.mk hl792_2
   clear hi792_2 hl792_2
   replace p792 := eq_true p792
   replace q792 := eq_true q792
   have p793 : 0 ≤ (x5_1 : Int) := of_decide_eq_true (by first | (with_reducible assumption) | assumption)
   have q793 : x5_1 < (l1.length : Int) := of_decide_eq_true (by first | (with_reducible assumption) | assumption)
   obtain ⟨ad793, A793_2, c793_2, e793, hx793_0, hx793_1, hx793_2, hl793_2, hi793_2⟩ := at_T118 HR1.out x5_1 p793 q793
   have hw793_2 := hx793_2
   have hw793_1 := hx793_1
   have hw793_0 := hx793_0
   cases e793
   replace hx793_0 := (HB.out.cell (World.block_lt_of_cell? w _ hx793_0)).trans hx793_0
   replace hx793_1 := (HB.out.cell (World.block_lt_of_cell? w _ hx793_1)).trans hx793_1
   replace hx793_2 := (HB.out.cell (World.block_lt_of_cell? w _ hx793_2)).trans hx793_2
   have HR793_2 := Aside0.mk hi793_2
   have HC793_2 := Aside0.mk hl793_2
   clear hi793_2 hl793_2
   replace p793 := eq_true p793
   replace q793 := eq_true q793
   refine start_ (n := 10) (S := fun w' => w'.cell? (ad792.add ((x5_1).toNat * 3)) = some (.int .i64 ((rd_T118 l0 x5_1).f0)) ∧ w'.cell? ⟨(ad792.add ((x5_1).toNat * 3)).block, (ad792.add ((x5_1).toNat * 3)).off + 1, none⟩ = some (.int .i64 ((rd_T118 l0 x5_1).f1)) ∧ w'.cell? ⟨(ad792.add ((x5_1).toNat * 3)).block, (ad792.add ((x5_1).toNat * 3)).off + 2, none⟩ = some (.slice A792_2 ((rd_T118 l0 x5_1).f2).length c792_2) ∧ w'.cell? (ad793.add ((x5_1).toNat * 3)) = some (.int .i64 ((rd_T118 l1 x5_1).f0)) ∧ w'.cell? ⟨(ad793.add ((x5_1).toNat * 3)).block, (ad793.add ((x5_1).toNat * 3)).off + 1, none⟩ = some (.int .i64 ((rd_T118 l1 x5_1).f1)) ∧ w'.cell? ⟨(ad793.add ((x5_1).toNat * 3)).block, (ad793.add ((x5_1).toNat * 3)).off + 2, none⟩ = some (.slice A793_2 ((rd_T118 l1 x5_1).f2).length c793_2)) (ds := []) (bs 10 0) (by kernel_rfl) rfl rfl ⟨((HB.out.cell (World.block_lt_of_cell? w _ hw792_0)).trans hw792_0), ((HB.out.cell (World.block_lt_of_cell? w _ hw792_1)).trans hw792_1), ((HB.out.cell (World.block_lt_of_cell? w _ hw792_2)).trans hw792_2), ((HB.out.cell (World.block_lt_of_cell? w _ hw793_0)).trans hw793_0), ((HB.out.cell (World.block_lt_of_cell? w _ hw793_1)).trans hw793_1), ((HB.out.cell (World.block_lt_of_cell? w _ hw793_2)).trans hw793_2)⟩ (fun hHeld => ?_); refine with_tabW laws_eqPlaceS.tab6 laws_eqPlaceS.bits6 (fun HT_ HW_ => ?_)
   generalize wr.drew = w11 at HB HR792_2 HR793_2 hx792_0 hx792_1 hx792_2 hx793_0 hx793_1 hx793_2 hHeld ⊢
   refine pu_ 0 17 (bs 10 1) HT_ ?_
   refine pu_ 1 18 (bs 10 3) HT_ ?_
   refine pu_ 2 19 (bs 10 7) HT_ ?_
   refine pu_ 4 21 (bs 10 23) HT_ ?_
   refine pu_ 5 22 (bs 10 55) HT_ ?_
   refine pu_ 6 23 (bs 10 119) HT_ ?_
   refine tk_ 3 20 (bs 10 127) HT_ HW_ hHeld ?_
   refine tk_ 7 24 (bs 10 255) HT_ HW_ hHeld ?_
   refine one_ (i := 8) (N := some 25) (bs 10 511) rfl rfl (one_of HT_.out (by kernel_rfl)) (by decide) (fun K hK => ?_)
   refine goes_ Try.func131 (by kernel_rfl) rfl #[.agg #[.int .i64 ((rd_T118 l0 x5_1).f0), .int .i64 ((rd_T118 l0 x5_1).f1), .slice A792_2 ((rd_T118 l0 x5_1).f2).length c792_2], .agg #[.int .i64 ((rd_T118 l1 x5_1).f0), .int .i64 ((rd_T118 l1 x5_1).f1), .slice A793_2 ((rd_T118 l1 x5_1).f2).length c793_2]] (by rfl) rfl rfl tm_ ?_
   with_reducible refine (laws_eqPlace.calls k1 ((rd_T118 l0 x5_1).f0) ((rd_T118 l0 x5_1).f1) _ _ ((rd_T118 l0 x5_1).f2) ((rd_T118 l1 x5_1).f0) ((rd_T118 l1 x5_1).f1) _ _ ((rd_T118 l1 x5_1).f2) false _ ?side1 ?side2 ?side3 ?side4 A7.out).mono ?_
   (case side1 => exact ca (Kd.C_below HR792_2.out HB.out))
   (case side2 => exact HC792_2.out)
   (case side3 => exact ca (Kd.C_below HR793_2.out HB.out))
   (case side4 => exact HC793_2.out)
   rintro e w12 ⟨rfl, hb⟩
   refine ⟨_, rfl, ?_⟩
   replace HB := bst_ HB hb
   clear hb
   refine hK.out _ _ ⟨((HB.out.cell (World.block_lt_of_cell? w _ hw792_0)).trans hw792_0), ((HB.out.cell (World.block_lt_of_cell? w _ hw792_1)).trans hw792_1), ((HB.out.cell (World.block_lt_of_cell? w _ hw792_2)).trans hw792_2), ((HB.out.cell (World.block_lt_of_cell? w _ hw793_0)).trans hw793_0), ((HB.out.cell (World.block_lt_of_cell? w _ hw793_1)).trans hw793_1), ((HB.out.cell (World.block_lt_of_cell? w _ hw793_2)).trans hw793_2)⟩ (fun hHeld => ?_)
   clear hK K
   refine nm_ 25 ?_
   refine pu_ 9 26 (bs 10 1023) HT_ ?_
   refine done_ (done_of HT_.out (by kernel_rfl)) ?_
   try go_wp2
   go_ret
   exact ⟨by first | rfl | (simp [errW_none, errW_some] <;> rfl) | (simp [*, errW_none, errW_some] <;> rfl), by repeat (first | (with_reducible first | exact HB.out | apply below_alloc | apply pw_below_drewN | apply below_drew1) | exact HB.out)⟩

def laws_eqCampus.f (k : Nat) (a0_0 : Int) (l0_1 : List (S84)) (l0_2 : List Int) (l0_3 : List (S118)) (a1_0 : Int) (l1_1 : List (S84)) (l1_2 : List Int) (l1_3 : List (S118)) : Option (Bool) := if a0_0 = a1_0 then ((laws_eqEdgeS.f k l0_1 l1_1).bind fun t797 => (if t797 = true then ((laws_eqIntS.f k l0_2 l1_2).bind fun t798 => (if t798 = true then ((laws_eqPlaceS.f k l0_3 l1_3).bind fun t799 => (if t799 = true then (some true) else (some false))) else (some false))) else (some false))) else (some false)
theorem laws_eqCampus.mono : ∀ a0 a1 a2 a3 a4 a5 a6 a7 k, LeO (laws_eqCampus.f k a0 a1 a2 a3 a4 a5 a6 a7) (laws_eqCampus.f (k + 1) a0 a1 a2 a3 a4 a5 a6 a7) := by
 intro a0 a1 a2 a3 a4 a5 a6 a7 k
 unfold laws_eqCampus.f
 repeat' first
   | (with_reducible exact laws_eqEdgeS.mono _ _ _)
   | (with_reducible exact laws_eqIntS.mono _ _ _)
   | (with_reducible exact laws_eqPlaceS.mono _ _ _)
   | (with_reducible exact LeO.refl _)
   | (with_reducible exact LeO.none _)
   | (with_reducible refine LeO.ite ?_ ?_)
   | (with_reducible refine LeO.bind ?_ (fun _ => ?_))
   | exact laws_eqEdgeS.mono _ _ _
   | exact laws_eqIntS.mono _ _ _
   | exact laws_eqPlaceS.mono _ _ _
   | exact LeO.none _
   | refine LeO.ite ?_ ?_
   | refine LeO.bind ?_ (fun _ => ?_)
set_option maxHeartbeats 8000000 in
set_option maxRecDepth 100000 in
theorem laws_eqCampus.calls (k : Nat) (a0_0 : Int) (A0_1 : Option Addr) (c0_1 : Nat) (l0_1 : List (S84)) (A0_2 : Option Addr) (c0_2 : Nat) (l0_2 : List Int) (A0_3 : Option Addr) (c0_3 : Nat) (l0_3 : List (S118)) (a1_0 : Int) (A1_1 : Option Addr) (c1_1 : Nat) (l1_1 : List (S84)) (A1_2 : Option Addr) (c1_2 : Nat) (l1_2 : List Int) (A1_3 : Option Addr) (c1_3 : Nat) (l1_3 : List (S118)) (r : Bool) (w : World) (hr0_1 : Kd.C k84 w A0_1 l0_1.length l0_1) (hc0_1 : l0_1.length ≤ c0_1) (hr0_2 : Kd.C (Kd.int .i64) w A0_2 l0_2.length l0_2) (hc0_2 : l0_2.length ≤ c0_2) (hr0_3 : Kd.C k118 w A0_3 l0_3.length l0_3) (hc0_3 : l0_3.length ≤ c0_3) (hr1_1 : Kd.C k84 w A1_1 l1_1.length l1_1) (hc1_1 : l1_1.length ≤ c1_1) (hr1_2 : Kd.C (Kd.int .i64) w A1_2 l1_2.length l1_2) (hc1_2 : l1_2.length ≤ c1_2) (hr1_3 : Kd.C k118 w A1_3 l1_3.length l1_3) (hc1_3 : l1_3.length ≤ c1_3) (h : laws_eqCampus.f k a0_0 l0_1 l0_2 l0_3 a1_0 l1_1 l1_2 l1_3 = some r) :
  Calls Try.prog 47 #[.agg #[.int .i64 a0_0, .slice A0_1 l0_1.length c0_1, .slice A0_2 l0_2.length c0_2, .slice A0_3 l0_3.length c0_3], .agg #[.int .i64 a1_0, .slice A1_1 l1_1.length c1_1, .slice A1_2 l1_2.length c1_2, .slice A1_3 l1_3.length c1_3]] w fun e w' => e = .returned (.bool r) ∧ Below w.heap.size w w' := by
 have hu61 := Try.underlying61
 have HR0_1 := Aside0.mk hr0_1
 have HC0_1 := Aside0.mk hc0_1
 clear hr0_1 hc0_1
 have HR0_2 := Aside0.mk hr0_2
 have HC0_2 := Aside0.mk hc0_2
 clear hr0_2 hc0_2
 have HR0_3 := Aside0.mk hr0_3
 have HC0_3 := Aside0.mk hc0_3
 clear hr0_3 hc0_3
 have HR1_1 := Aside0.mk hr1_1
 have HC1_1 := Aside0.mk hc1_1
 clear hr1_1 hc1_1
 have HR1_2 := Aside0.mk hr1_2
 have HC1_2 := Aside0.mk hc1_2
 clear hr1_2 hc1_2
 have HR1_3 := Aside0.mk hr1_3
 have HC1_3 := Aside0.mk hc1_3
 clear hr1_3 hc1_3
 have HB := Aside0.mk (Below.refl w.heap.size w)
 have H : (if a0_0 = a1_0 then ((laws_eqEdgeS.f k l0_1 l1_1).bind fun t797 => (if t797 = true then ((laws_eqIntS.f k l0_2 l1_2).bind fun t798 => (if t798 = true then ((laws_eqPlaceS.f k l0_3 l1_3).bind fun t799 => (if t799 = true then (some true) else (some false))) else (some false))) else (some false))) else (some false)) = some r := h
 clear h
 by_cases c3 : a0_0 = a1_0
 rotate_left
 ·rw [if_neg c3] at H
  have c3b0 : (a0_0 == a1_0) = false := beq_eq_false_iff_ne.mpr c3
  have c3b1 : (a0_0 != a1_0) = true := bne_iff_ne.mpr c3
  obtain rfl := Option.some.inj H
  go_enter Try.func47, Try.ntmps47
  go_wp2_with (first | ((with_reducible refine gate_dst (N := 2) rfl ?_); refine box_event ?hg (N := 2) ?hd (cs := #[.int .i64 a0_0, .slice A0_1 l0_1.length c0_1, .slice A0_2 l0_2.length c0_2, .slice A0_3 l0_3.length c0_3]) (t := 61) ?hr ?_; (case hd => rfl); (case hg => rfl); (case hr => first | (go_simp; done) | (go_simp; rfl)); intro gb795 hg w42 hbox hb; have BK795 := Aside0.mk (hbox); have GW795 := gw_ hg HB; have GE795 := gw_ hg HB; replace HB := bst_ HB hb; clear hb hbox hg) | ((with_reducible refine gate_dst (N := 3) rfl ?_); refine box_event ?hg (N := 3) ?hd (cs := #[.int .i64 a1_0, .slice A1_1 l1_1.length c1_1, .slice A1_2 l1_2.length c1_2, .slice A1_3 l1_3.length c1_3]) (t := 61) ?hr ?_; (case hd => rfl); (case hg => rfl); (case hr => first | (go_simp; done) | (go_simp; rfl)); intro gb796 hg w43 hbox hb; have BK796 := Aside0.mk (hbox); have GW796 := gw_ hg HB; have GE796 := gw_ hg HB; have NB795_796 := nl_ hg BK795; have NB796_795 := ng_ hg BK795; replace BK795 := bb_ BK795 hb; replace HB := bst_ HB hb; clear hb hbox hg; have hnb44 := NB795_796.out; have hnc44 := NB796_795.out; have hcz45_0 : w43.cell? ⟨gb795, 0, none⟩ = some (.int .i64 a0_0) := bc_ BK795 0; have hcz45_1 : w43.cell? ⟨gb795, 1, none⟩ = some (.slice A0_1 l0_1.length c0_1) := bc_ BK795 1; have hcz45_2 : w43.cell? ⟨gb795, 2, none⟩ = some (.slice A0_2 l0_2.length c0_2) := bc_ BK795 2; have hcz45_3 : w43.cell? ⟨gb795, 3, none⟩ = some (.slice A0_3 l0_3.length c0_3) := bc_ BK795 3; have hfz45_0 := blk_frozen BK795.out 0; have hfz45_1 := blk_frozen BK795.out 1; have hfz45_2 := blk_frozen BK795.out 2; have hfz45_3 := blk_frozen BK795.out 3; have hcz46_0 : w43.cell? ⟨gb796, 0, none⟩ = some (.int .i64 a1_0) := bc_ BK796 0; have hcz46_1 : w43.cell? ⟨gb796, 1, none⟩ = some (.slice A1_1 l1_1.length c1_1) := bc_ BK796 1; have hcz46_2 : w43.cell? ⟨gb796, 2, none⟩ = some (.slice A1_2 l1_2.length c1_2) := bc_ BK796 2; have hcz46_3 : w43.cell? ⟨gb796, 3, none⟩ = some (.slice A1_3 l1_3.length c1_3) := bc_ BK796 3; have hfz46_0 := blk_frozen BK796.out 0; have hfz46_1 := blk_frozen BK796.out 1; have hfz46_2 := blk_frozen BK796.out 2; have hfz46_3 := blk_frozen BK796.out 3))
  go_ret
  exact ⟨by first | rfl | (simp [errW_none, errW_some] <;> rfl) | (simp [*, errW_none, errW_some] <;> rfl), by repeat (first | (with_reducible first | exact HB.out | apply below_alloc | apply pw_below_drewN | apply below_drew1 | refine below_set ?_ GE795.out | refine below_set ?_ GE796.out) | exact HB.out)⟩
 rw [if_pos c3] at H
 have c3b0 : (a0_0 == a1_0) = true := beq_iff_eq.mpr c3
 have c3b1 : (a0_0 != a1_0) = false := bne_eq_false_iff_eq.mpr c3
 clear c3
 replace H := Option.bind_eq_some_iff.mp H
 obtain ⟨t797, A40, H⟩ := H
 replace H : (if t797 = true then ((laws_eqIntS.f k l0_2 l1_2).bind fun t798 => (if t798 = true then ((laws_eqPlaceS.f k l0_3 l1_3).bind fun t799 => (if t799 = true then (some true) else (some false))) else (some false))) else (some false)) = some r := H
 have A4 := Aside0.mk A40
 clear A40
 by_cases c5 : t797 = true
 rotate_left
 ·replace c5 := Bool.eq_false_iff.mpr c5
  subst c5
  have H1 : (some false) = some r := by rw [if_neg (show ¬ (false = true) by decide)] at H; exact H
  clear H
  have H := H1
  clear H1
  obtain rfl := Option.some.inj H
  go_enter Try.func47, Try.ntmps47
  go_wp2_with (first | ((with_reducible refine gate_dst (N := 2) rfl ?_); refine box_event ?hg (N := 2) ?hd (cs := #[.int .i64 a0_0, .slice A0_1 l0_1.length c0_1, .slice A0_2 l0_2.length c0_2, .slice A0_3 l0_3.length c0_3]) (t := 61) ?hr ?_; (case hd => rfl); (case hg => rfl); (case hr => first | (go_simp; done) | (go_simp; rfl)); intro gb795 hg w36 hbox hb; have BK795 := Aside0.mk (hbox); have GW795 := gw_ hg HB; have GE795 := gw_ hg HB; replace HB := bst_ HB hb; clear hb hbox hg) | ((with_reducible refine gate_dst (N := 3) rfl ?_); refine box_event ?hg (N := 3) ?hd (cs := #[.int .i64 a1_0, .slice A1_1 l1_1.length c1_1, .slice A1_2 l1_2.length c1_2, .slice A1_3 l1_3.length c1_3]) (t := 61) ?hr ?_; (case hd => rfl); (case hg => rfl); (case hr => first | (go_simp; done) | (go_simp; rfl)); intro gb796 hg w37 hbox hb; have BK796 := Aside0.mk (hbox); have GW796 := gw_ hg HB; have GE796 := gw_ hg HB; have NB795_796 := nl_ hg BK795; have NB796_795 := ng_ hg BK795; replace BK795 := bb_ BK795 hb; replace HB := bst_ HB hb; clear hb hbox hg; have hnb38 := NB795_796.out; have hnc38 := NB796_795.out; have hcz39_0 : w37.cell? ⟨gb795, 0, none⟩ = some (.int .i64 a0_0) := bc_ BK795 0; have hcz39_1 : w37.cell? ⟨gb795, 1, none⟩ = some (.slice A0_1 l0_1.length c0_1) := bc_ BK795 1; have hcz39_2 : w37.cell? ⟨gb795, 2, none⟩ = some (.slice A0_2 l0_2.length c0_2) := bc_ BK795 2; have hcz39_3 : w37.cell? ⟨gb795, 3, none⟩ = some (.slice A0_3 l0_3.length c0_3) := bc_ BK795 3; have hfz39_0 := blk_frozen BK795.out 0; have hfz39_1 := blk_frozen BK795.out 1; have hfz39_2 := blk_frozen BK795.out 2; have hfz39_3 := blk_frozen BK795.out 3; have hcz40_0 : w37.cell? ⟨gb796, 0, none⟩ = some (.int .i64 a1_0) := bc_ BK796 0; have hcz40_1 : w37.cell? ⟨gb796, 1, none⟩ = some (.slice A1_1 l1_1.length c1_1) := bc_ BK796 1; have hcz40_2 : w37.cell? ⟨gb796, 2, none⟩ = some (.slice A1_2 l1_2.length c1_2) := bc_ BK796 2; have hcz40_3 : w37.cell? ⟨gb796, 3, none⟩ = some (.slice A1_3 l1_3.length c1_3) := bc_ BK796 3; have hfz40_0 := blk_frozen BK796.out 0; have hfz40_1 := blk_frozen BK796.out 1; have hfz40_2 := blk_frozen BK796.out 2; have hfz40_3 := blk_frozen BK796.out 3) | ((with_reducible refine gate_callee (f := 20) rfl ?_); refine goesL_ (some 14) rfl rfl Try.func20 (by kernel_rfl) rfl #[.slice A0_1 l0_1.length c0_1, .slice A1_1 l1_1.length c1_1] rfl tm_ ?_; (with_reducible refine (laws_eqEdgeS.calls k _ _ l0_1 _ _ l1_1 false _ ?side1 ?side2 ?side3 ?side4 A4.out).mono ?_); (case side1 => exact ca (Kd.C_below HR0_1.out HB.out)); (case side2 => exact HC0_1.out); (case side3 => exact ca (Kd.C_below HR1_1.out HB.out)); (case side4 => exact HC1_1.out); rintro e w41 ⟨rfl, hb⟩; refine ⟨_, rfl, ?_⟩; replace BK795 := bb_ BK795 hb; replace BK796 := bb_ BK796 hb; replace HB := bst_ HB hb; clear hb))
  go_ret
  exact ⟨by first | rfl | (simp [errW_none, errW_some] <;> rfl) | (simp [*, errW_none, errW_some] <;> rfl), by repeat (first | (with_reducible first | exact HB.out | apply below_alloc | apply pw_below_drewN | apply below_drew1 | refine below_set ?_ GE795.out | refine below_set ?_ GE796.out) | exact HB.out)⟩
 subst c5
 have H1 : ((laws_eqIntS.f k l0_2 l1_2).bind fun t798 => (if t798 = true then ((laws_eqPlaceS.f k l0_3 l1_3).bind fun t799 => (if t799 = true then (some true) else (some false))) else (some false))) = some r := by rw [if_pos rfl] at H; exact H
 clear H
 have H := H1
 clear H1
 replace H := Option.bind_eq_some_iff.mp H
 obtain ⟨t798, A60, H⟩ := H
 replace H : (if t798 = true then ((laws_eqPlaceS.f k l0_3 l1_3).bind fun t799 => (if t799 = true then (some true) else (some false))) else (some false)) = some r := H
 have A6 := Aside0.mk A60
 clear A60
 by_cases c7 : t798 = true
 rotate_left
 ·replace c7 := Bool.eq_false_iff.mpr c7
  subst c7
  have H1 : (some false) = some r := by rw [if_neg (show ¬ (false = true) by decide)] at H; exact H
  clear H
  have H := H1
  clear H1
  obtain rfl := Option.some.inj H
  go_enter Try.func47, Try.ntmps47
  go_wp2_with (first | ((with_reducible refine gate_dst (N := 2) rfl ?_); refine box_event ?hg (N := 2) ?hd (cs := #[.int .i64 a0_0, .slice A0_1 l0_1.length c0_1, .slice A0_2 l0_2.length c0_2, .slice A0_3 l0_3.length c0_3]) (t := 61) ?hr ?_; (case hd => rfl); (case hg => rfl); (case hr => first | (go_simp; done) | (go_simp; rfl)); intro gb795 hg w28 hbox hb; have BK795 := Aside0.mk (hbox); have GW795 := gw_ hg HB; have GE795 := gw_ hg HB; replace HB := bst_ HB hb; clear hb hbox hg) | ((with_reducible refine gate_dst (N := 3) rfl ?_); refine box_event ?hg (N := 3) ?hd (cs := #[.int .i64 a1_0, .slice A1_1 l1_1.length c1_1, .slice A1_2 l1_2.length c1_2, .slice A1_3 l1_3.length c1_3]) (t := 61) ?hr ?_; (case hd => rfl); (case hg => rfl); (case hr => first | (go_simp; done) | (go_simp; rfl)); intro gb796 hg w29 hbox hb; have BK796 := Aside0.mk (hbox); have GW796 := gw_ hg HB; have GE796 := gw_ hg HB; have NB795_796 := nl_ hg BK795; have NB796_795 := ng_ hg BK795; replace BK795 := bb_ BK795 hb; replace HB := bst_ HB hb; clear hb hbox hg; have hnb30 := NB795_796.out; have hnc30 := NB796_795.out; have hcz31_0 : w29.cell? ⟨gb795, 0, none⟩ = some (.int .i64 a0_0) := bc_ BK795 0; have hcz31_1 : w29.cell? ⟨gb795, 1, none⟩ = some (.slice A0_1 l0_1.length c0_1) := bc_ BK795 1; have hcz31_2 : w29.cell? ⟨gb795, 2, none⟩ = some (.slice A0_2 l0_2.length c0_2) := bc_ BK795 2; have hcz31_3 : w29.cell? ⟨gb795, 3, none⟩ = some (.slice A0_3 l0_3.length c0_3) := bc_ BK795 3; have hfz31_0 := blk_frozen BK795.out 0; have hfz31_1 := blk_frozen BK795.out 1; have hfz31_2 := blk_frozen BK795.out 2; have hfz31_3 := blk_frozen BK795.out 3; have hcz32_0 : w29.cell? ⟨gb796, 0, none⟩ = some (.int .i64 a1_0) := bc_ BK796 0; have hcz32_1 : w29.cell? ⟨gb796, 1, none⟩ = some (.slice A1_1 l1_1.length c1_1) := bc_ BK796 1; have hcz32_2 : w29.cell? ⟨gb796, 2, none⟩ = some (.slice A1_2 l1_2.length c1_2) := bc_ BK796 2; have hcz32_3 : w29.cell? ⟨gb796, 3, none⟩ = some (.slice A1_3 l1_3.length c1_3) := bc_ BK796 3; have hfz32_0 := blk_frozen BK796.out 0; have hfz32_1 := blk_frozen BK796.out 1; have hfz32_2 := blk_frozen BK796.out 2; have hfz32_3 := blk_frozen BK796.out 3) | ((with_reducible refine gate_callee (f := 20) rfl ?_); refine goesL_ (some 14) rfl rfl Try.func20 (by kernel_rfl) rfl #[.slice A0_1 l0_1.length c0_1, .slice A1_1 l1_1.length c1_1] rfl tm_ ?_; (with_reducible refine (laws_eqEdgeS.calls k _ _ l0_1 _ _ l1_1 true _ ?side1 ?side2 ?side3 ?side4 A4.out).mono ?_); (case side1 => exact ca (Kd.C_below HR0_1.out HB.out)); (case side2 => exact HC0_1.out); (case side3 => exact ca (Kd.C_below HR1_1.out HB.out)); (case side4 => exact HC1_1.out); rintro e w33 ⟨rfl, hb⟩; refine ⟨_, rfl, ?_⟩; replace BK795 := bb_ BK795 hb; replace BK796 := bb_ BK796 hb; replace HB := bst_ HB hb; clear hb; have hcz34_0 : w33.cell? ⟨gb795, 0, none⟩ = some (.int .i64 a0_0) := bc_ BK795 0; have hcz34_1 : w33.cell? ⟨gb795, 1, none⟩ = some (.slice A0_1 l0_1.length c0_1) := bc_ BK795 1; have hcz34_2 : w33.cell? ⟨gb795, 2, none⟩ = some (.slice A0_2 l0_2.length c0_2) := bc_ BK795 2; have hcz34_3 : w33.cell? ⟨gb795, 3, none⟩ = some (.slice A0_3 l0_3.length c0_3) := bc_ BK795 3; have hfz34_0 := blk_frozen BK795.out 0; have hfz34_1 := blk_frozen BK795.out 1; have hfz34_2 := blk_frozen BK795.out 2; have hfz34_3 := blk_frozen BK795.out 3; have hcz35_0 : w33.cell? ⟨gb796, 0, none⟩ = some (.int .i64 a1_0) := bc_ BK796 0; have hcz35_1 : w33.cell? ⟨gb796, 1, none⟩ = some (.slice A1_1 l1_1.length c1_1) := bc_ BK796 1; have hcz35_2 : w33.cell? ⟨gb796, 2, none⟩ = some (.slice A1_2 l1_2.length c1_2) := bc_ BK796 2; have hcz35_3 : w33.cell? ⟨gb796, 3, none⟩ = some (.slice A1_3 l1_3.length c1_3) := bc_ BK796 3; have hfz35_0 := blk_frozen BK796.out 0; have hfz35_1 := blk_frozen BK796.out 1; have hfz35_2 := blk_frozen BK796.out 2; have hfz35_3 := blk_frozen BK796.out 3) | ((with_reducible refine gate_callee (f := 21) rfl ?_); refine goesL_ (some 20) rfl rfl Try.func21 (by kernel_rfl) rfl #[.slice A0_2 l0_2.length c0_2, .slice A1_2 l1_2.length c1_2] rfl tm_ ?_; (with_reducible refine (laws_eqIntS.calls k _ _ l0_2 _ _ l1_2 false _ ?side1 ?side2 ?side3 ?side4 A6.out).mono ?_); (case side1 => exact ca (Kd.C_below HR0_2.out HB.out)); (case side2 => exact HC0_2.out); (case side3 => exact ca (Kd.C_below HR1_2.out HB.out)); (case side4 => exact HC1_2.out); rintro e w' ⟨rfl, ⟨nd, rfl⟩⟩; refine ⟨_, rfl, ?_⟩))
  go_ret
  exact ⟨by first | rfl | (simp [errW_none, errW_some] <;> rfl) | (simp [*, errW_none, errW_some] <;> rfl), by repeat (first | (with_reducible first | exact HB.out | apply below_alloc | apply pw_below_drewN | apply below_drew1 | refine below_set ?_ GE795.out | refine below_set ?_ GE796.out) | exact HB.out)⟩
 subst c7
 have H1 : ((laws_eqPlaceS.f k l0_3 l1_3).bind fun t799 => (if t799 = true then (some true) else (some false))) = some r := by rw [if_pos rfl] at H; exact H
 clear H
 have H := H1
 clear H1
 replace H := Option.bind_eq_some_iff.mp H
 obtain ⟨t799, A80, H⟩ := H
 replace H : (if t799 = true then (some true) else (some false)) = some r := H
 have A8 := Aside0.mk A80
 clear A80
 by_cases c9 : t799 = true
 ·subst c9
  have H1 : (some true) = some r := by rw [if_pos rfl] at H; exact H
  clear H
  have H := H1
  clear H1
  obtain rfl := Option.some.inj H
  go_enter Try.func47, Try.ntmps47
  go_wp2_with (first | ((with_reducible refine gate_dst (N := 2) rfl ?_); refine box_event ?hg (N := 2) ?hd (cs := #[.int .i64 a0_0, .slice A0_1 l0_1.length c0_1, .slice A0_2 l0_2.length c0_2, .slice A0_3 l0_3.length c0_3]) (t := 61) ?hr ?_; (case hd => rfl); (case hg => rfl); (case hr => first | (go_simp; done) | (go_simp; rfl)); intro gb795 hg w10 hbox hb; have BK795 := Aside0.mk (hbox); have GW795 := gw_ hg HB; have GE795 := gw_ hg HB; replace HB := bst_ HB hb; clear hb hbox hg) | ((with_reducible refine gate_dst (N := 3) rfl ?_); refine box_event ?hg (N := 3) ?hd (cs := #[.int .i64 a1_0, .slice A1_1 l1_1.length c1_1, .slice A1_2 l1_2.length c1_2, .slice A1_3 l1_3.length c1_3]) (t := 61) ?hr ?_; (case hd => rfl); (case hg => rfl); (case hr => first | (go_simp; done) | (go_simp; rfl)); intro gb796 hg w11 hbox hb; have BK796 := Aside0.mk (hbox); have GW796 := gw_ hg HB; have GE796 := gw_ hg HB; have NB795_796 := nl_ hg BK795; have NB796_795 := ng_ hg BK795; replace BK795 := bb_ BK795 hb; replace HB := bst_ HB hb; clear hb hbox hg; have hnb12 := NB795_796.out; have hnc12 := NB796_795.out; have hcz13_0 : w11.cell? ⟨gb795, 0, none⟩ = some (.int .i64 a0_0) := bc_ BK795 0; have hcz13_1 : w11.cell? ⟨gb795, 1, none⟩ = some (.slice A0_1 l0_1.length c0_1) := bc_ BK795 1; have hcz13_2 : w11.cell? ⟨gb795, 2, none⟩ = some (.slice A0_2 l0_2.length c0_2) := bc_ BK795 2; have hcz13_3 : w11.cell? ⟨gb795, 3, none⟩ = some (.slice A0_3 l0_3.length c0_3) := bc_ BK795 3; have hfz13_0 := blk_frozen BK795.out 0; have hfz13_1 := blk_frozen BK795.out 1; have hfz13_2 := blk_frozen BK795.out 2; have hfz13_3 := blk_frozen BK795.out 3; have hcz14_0 : w11.cell? ⟨gb796, 0, none⟩ = some (.int .i64 a1_0) := bc_ BK796 0; have hcz14_1 : w11.cell? ⟨gb796, 1, none⟩ = some (.slice A1_1 l1_1.length c1_1) := bc_ BK796 1; have hcz14_2 : w11.cell? ⟨gb796, 2, none⟩ = some (.slice A1_2 l1_2.length c1_2) := bc_ BK796 2; have hcz14_3 : w11.cell? ⟨gb796, 3, none⟩ = some (.slice A1_3 l1_3.length c1_3) := bc_ BK796 3; have hfz14_0 := blk_frozen BK796.out 0; have hfz14_1 := blk_frozen BK796.out 1; have hfz14_2 := blk_frozen BK796.out 2; have hfz14_3 := blk_frozen BK796.out 3) | ((with_reducible refine gate_callee (f := 20) rfl ?_); refine goesL_ (some 14) rfl rfl Try.func20 (by kernel_rfl) rfl #[.slice A0_1 l0_1.length c0_1, .slice A1_1 l1_1.length c1_1] rfl tm_ ?_; (with_reducible refine (laws_eqEdgeS.calls k _ _ l0_1 _ _ l1_1 true _ ?side1 ?side2 ?side3 ?side4 A4.out).mono ?_); (case side1 => exact ca (Kd.C_below HR0_1.out HB.out)); (case side2 => exact HC0_1.out); (case side3 => exact ca (Kd.C_below HR1_1.out HB.out)); (case side4 => exact HC1_1.out); rintro e w15 ⟨rfl, hb⟩; refine ⟨_, rfl, ?_⟩; replace BK795 := bb_ BK795 hb; replace BK796 := bb_ BK796 hb; replace HB := bst_ HB hb; clear hb; have hcz16_0 : w15.cell? ⟨gb795, 0, none⟩ = some (.int .i64 a0_0) := bc_ BK795 0; have hcz16_1 : w15.cell? ⟨gb795, 1, none⟩ = some (.slice A0_1 l0_1.length c0_1) := bc_ BK795 1; have hcz16_2 : w15.cell? ⟨gb795, 2, none⟩ = some (.slice A0_2 l0_2.length c0_2) := bc_ BK795 2; have hcz16_3 : w15.cell? ⟨gb795, 3, none⟩ = some (.slice A0_3 l0_3.length c0_3) := bc_ BK795 3; have hfz16_0 := blk_frozen BK795.out 0; have hfz16_1 := blk_frozen BK795.out 1; have hfz16_2 := blk_frozen BK795.out 2; have hfz16_3 := blk_frozen BK795.out 3; have hcz17_0 : w15.cell? ⟨gb796, 0, none⟩ = some (.int .i64 a1_0) := bc_ BK796 0; have hcz17_1 : w15.cell? ⟨gb796, 1, none⟩ = some (.slice A1_1 l1_1.length c1_1) := bc_ BK796 1; have hcz17_2 : w15.cell? ⟨gb796, 2, none⟩ = some (.slice A1_2 l1_2.length c1_2) := bc_ BK796 2; have hcz17_3 : w15.cell? ⟨gb796, 3, none⟩ = some (.slice A1_3 l1_3.length c1_3) := bc_ BK796 3; have hfz17_0 := blk_frozen BK796.out 0; have hfz17_1 := blk_frozen BK796.out 1; have hfz17_2 := blk_frozen BK796.out 2; have hfz17_3 := blk_frozen BK796.out 3) | ((with_reducible refine gate_callee (f := 21) rfl ?_); refine goesL_ (some 20) rfl rfl Try.func21 (by kernel_rfl) rfl #[.slice A0_2 l0_2.length c0_2, .slice A1_2 l1_2.length c1_2] rfl tm_ ?_; (with_reducible refine (laws_eqIntS.calls k _ _ l0_2 _ _ l1_2 true _ ?side1 ?side2 ?side3 ?side4 A6.out).mono ?_); (case side1 => exact ca (Kd.C_below HR0_2.out HB.out)); (case side2 => exact HC0_2.out); (case side3 => exact ca (Kd.C_below HR1_2.out HB.out)); (case side4 => exact HC1_2.out); rintro e w' ⟨rfl, ⟨nd, rfl⟩⟩; refine ⟨_, rfl, ?_⟩) | ((with_reducible refine gate_callee (f := 93) rfl ?_); refine goesL_ (some 26) rfl rfl Try.func93 (by kernel_rfl) rfl #[.slice A0_3 l0_3.length c0_3, .slice A1_3 l1_3.length c1_3] rfl tm_ ?_; (with_reducible refine (laws_eqPlaceS.calls k _ _ l0_3 _ _ l1_3 true _ ?side1 ?side2 ?side3 ?side4 A8.out).mono ?_); (case side1 => exact ca (Kd.C_below HR0_3.out (hB HB))); (case side2 => exact HC0_3.out); (case side3 => exact ca (Kd.C_below HR1_3.out (hB HB))); (case side4 => exact HC1_3.out); rintro e w18 ⟨rfl, hb⟩; refine ⟨_, rfl, ?_⟩; replace BK795 := bb_ BK795 hb; replace BK796 := bb_ BK796 hb; replace HB := bst_ HB hb; clear hb))
  go_ret
  exact ⟨by first | rfl | (simp [errW_none, errW_some] <;> rfl) | (simp [*, errW_none, errW_some] <;> rfl), by repeat (first | (with_reducible first | exact HB.out | apply below_alloc | apply pw_below_drewN | apply below_drew1 | refine below_set ?_ GE795.out | refine below_set ?_ GE796.out) | exact HB.out)⟩
 replace c9 := Bool.eq_false_iff.mpr c9
 subst c9
 have H1 : (some false) = some r := by rw [if_neg (show ¬ (false = true) by decide)] at H; exact H
 clear H
 have H := H1
 clear H1
 obtain rfl := Option.some.inj H
 go_enter Try.func47, Try.ntmps47
 go_wp2_with (first | ((with_reducible refine gate_dst (N := 2) rfl ?_); refine box_event ?hg (N := 2) ?hd (cs := #[.int .i64 a0_0, .slice A0_1 l0_1.length c0_1, .slice A0_2 l0_2.length c0_2, .slice A0_3 l0_3.length c0_3]) (t := 61) ?hr ?_; (case hd => rfl); (case hg => rfl); (case hr => first | (go_simp; done) | (go_simp; rfl)); intro gb795 hg w19 hbox hb; have BK795 := Aside0.mk (hbox); have GW795 := gw_ hg HB; have GE795 := gw_ hg HB; replace HB := bst_ HB hb; clear hb hbox hg) | ((with_reducible refine gate_dst (N := 3) rfl ?_); refine box_event ?hg (N := 3) ?hd (cs := #[.int .i64 a1_0, .slice A1_1 l1_1.length c1_1, .slice A1_2 l1_2.length c1_2, .slice A1_3 l1_3.length c1_3]) (t := 61) ?hr ?_; (case hd => rfl); (case hg => rfl); (case hr => first | (go_simp; done) | (go_simp; rfl)); intro gb796 hg w20 hbox hb; have BK796 := Aside0.mk (hbox); have GW796 := gw_ hg HB; have GE796 := gw_ hg HB; have NB795_796 := nl_ hg BK795; have NB796_795 := ng_ hg BK795; replace BK795 := bb_ BK795 hb; replace HB := bst_ HB hb; clear hb hbox hg; have hnb21 := NB795_796.out; have hnc21 := NB796_795.out; have hcz22_0 : w20.cell? ⟨gb795, 0, none⟩ = some (.int .i64 a0_0) := bc_ BK795 0; have hcz22_1 : w20.cell? ⟨gb795, 1, none⟩ = some (.slice A0_1 l0_1.length c0_1) := bc_ BK795 1; have hcz22_2 : w20.cell? ⟨gb795, 2, none⟩ = some (.slice A0_2 l0_2.length c0_2) := bc_ BK795 2; have hcz22_3 : w20.cell? ⟨gb795, 3, none⟩ = some (.slice A0_3 l0_3.length c0_3) := bc_ BK795 3; have hfz22_0 := blk_frozen BK795.out 0; have hfz22_1 := blk_frozen BK795.out 1; have hfz22_2 := blk_frozen BK795.out 2; have hfz22_3 := blk_frozen BK795.out 3; have hcz23_0 : w20.cell? ⟨gb796, 0, none⟩ = some (.int .i64 a1_0) := bc_ BK796 0; have hcz23_1 : w20.cell? ⟨gb796, 1, none⟩ = some (.slice A1_1 l1_1.length c1_1) := bc_ BK796 1; have hcz23_2 : w20.cell? ⟨gb796, 2, none⟩ = some (.slice A1_2 l1_2.length c1_2) := bc_ BK796 2; have hcz23_3 : w20.cell? ⟨gb796, 3, none⟩ = some (.slice A1_3 l1_3.length c1_3) := bc_ BK796 3; have hfz23_0 := blk_frozen BK796.out 0; have hfz23_1 := blk_frozen BK796.out 1; have hfz23_2 := blk_frozen BK796.out 2; have hfz23_3 := blk_frozen BK796.out 3) | ((with_reducible refine gate_callee (f := 20) rfl ?_); refine goesL_ (some 14) rfl rfl Try.func20 (by kernel_rfl) rfl #[.slice A0_1 l0_1.length c0_1, .slice A1_1 l1_1.length c1_1] rfl tm_ ?_; (with_reducible refine (laws_eqEdgeS.calls k _ _ l0_1 _ _ l1_1 true _ ?side1 ?side2 ?side3 ?side4 A4.out).mono ?_); (case side1 => exact ca (Kd.C_below HR0_1.out HB.out)); (case side2 => exact HC0_1.out); (case side3 => exact ca (Kd.C_below HR1_1.out HB.out)); (case side4 => exact HC1_1.out); rintro e w24 ⟨rfl, hb⟩; refine ⟨_, rfl, ?_⟩; replace BK795 := bb_ BK795 hb; replace BK796 := bb_ BK796 hb; replace HB := bst_ HB hb; clear hb; have hcz25_0 : w24.cell? ⟨gb795, 0, none⟩ = some (.int .i64 a0_0) := bc_ BK795 0; have hcz25_1 : w24.cell? ⟨gb795, 1, none⟩ = some (.slice A0_1 l0_1.length c0_1) := bc_ BK795 1; have hcz25_2 : w24.cell? ⟨gb795, 2, none⟩ = some (.slice A0_2 l0_2.length c0_2) := bc_ BK795 2; have hcz25_3 : w24.cell? ⟨gb795, 3, none⟩ = some (.slice A0_3 l0_3.length c0_3) := bc_ BK795 3; have hfz25_0 := blk_frozen BK795.out 0; have hfz25_1 := blk_frozen BK795.out 1; have hfz25_2 := blk_frozen BK795.out 2; have hfz25_3 := blk_frozen BK795.out 3; have hcz26_0 : w24.cell? ⟨gb796, 0, none⟩ = some (.int .i64 a1_0) := bc_ BK796 0; have hcz26_1 : w24.cell? ⟨gb796, 1, none⟩ = some (.slice A1_1 l1_1.length c1_1) := bc_ BK796 1; have hcz26_2 : w24.cell? ⟨gb796, 2, none⟩ = some (.slice A1_2 l1_2.length c1_2) := bc_ BK796 2; have hcz26_3 : w24.cell? ⟨gb796, 3, none⟩ = some (.slice A1_3 l1_3.length c1_3) := bc_ BK796 3; have hfz26_0 := blk_frozen BK796.out 0; have hfz26_1 := blk_frozen BK796.out 1; have hfz26_2 := blk_frozen BK796.out 2; have hfz26_3 := blk_frozen BK796.out 3) | ((with_reducible refine gate_callee (f := 21) rfl ?_); refine goesL_ (some 20) rfl rfl Try.func21 (by kernel_rfl) rfl #[.slice A0_2 l0_2.length c0_2, .slice A1_2 l1_2.length c1_2] rfl tm_ ?_; (with_reducible refine (laws_eqIntS.calls k _ _ l0_2 _ _ l1_2 true _ ?side1 ?side2 ?side3 ?side4 A6.out).mono ?_); (case side1 => exact ca (Kd.C_below HR0_2.out HB.out)); (case side2 => exact HC0_2.out); (case side3 => exact ca (Kd.C_below HR1_2.out HB.out)); (case side4 => exact HC1_2.out); rintro e w' ⟨rfl, ⟨nd, rfl⟩⟩; refine ⟨_, rfl, ?_⟩) | ((with_reducible refine gate_callee (f := 93) rfl ?_); refine goesL_ (some 26) rfl rfl Try.func93 (by kernel_rfl) rfl #[.slice A0_3 l0_3.length c0_3, .slice A1_3 l1_3.length c1_3] rfl tm_ ?_; (with_reducible refine (laws_eqPlaceS.calls k _ _ l0_3 _ _ l1_3 false _ ?side1 ?side2 ?side3 ?side4 A8.out).mono ?_); (case side1 => exact ca (Kd.C_below HR0_3.out (hB HB))); (case side2 => exact HC0_3.out); (case side3 => exact ca (Kd.C_below HR1_3.out (hB HB))); (case side4 => exact HC1_3.out); rintro e w27 ⟨rfl, hb⟩; refine ⟨_, rfl, ?_⟩; replace BK795 := bb_ BK795 hb; replace BK796 := bb_ BK796 hb; replace HB := bst_ HB hb; clear hb))
 go_ret
 exact ⟨by first | rfl | (simp [errW_none, errW_some] <;> rfl) | (simp [*, errW_none, errW_some] <;> rfl), by repeat (first | (with_reducible first | exact HB.out | apply below_alloc | apply pw_below_drewN | apply below_drew1 | refine below_set ?_ GE795.out | refine below_set ?_ GE796.out) | exact HB.out)⟩

end Go.Proofs.Ytnoklicihomfoaa.P
