import Derived.Test.YtefdgdloghhnaaaF0
import Derived.Test.YtefdgdloghhnaaaF1
import Derived.Test.YtefdgdloghhnaaaF5
namespace Go.Proofs.Ytefdgdloghhnaaa.P
open Go.RowKit Go.Proofs.YtefdgdloghhnaaaW.PrintWords Go.Proofs.YtefdgdloghhnaaaW.PrintLast Go.Proofs.YtefdgdloghhnaaaW.PrintMore
attribute [local go_sem] max2_int min2_int max_two min_two max_three min_three max_four min_four   -- for this text's walks alone
set_option linter.unusedVariables false
set_option linter.unusedSimpArgs false
attribute [local go_sem high] eqA36

def spec_l1Cur_pair.j0 : Nat → List Int → Int → Int → List Int → List Int → List (S36) → Option (List Int × List Int × (List (S36)) × Int × Int)
 | 0, _, _, _, _, _, _ => none
 | k + 1, x1000, x1001, x1002, x302000, x302001, x302002 => (spec_l1Cur_pick.f x1000 x1001 x1002 20).bind fun bt312 => (if bt312.1 = 0 then ((spec_l1Cur_pick.f x1000 bt312.2.1 bt312.2.2 5).bind fun bt315 => (if 0 < (x302001.length : Int) then (some (x302000, (x302001.set (0 : Int).toNat bt315.1), x302002, bt315.2.1, bt315.2.2)) else (none))) else (if bt312.1 = 1 then ((spec_l1Cur_pick.f x1000 bt312.2.1 bt312.2.2 5).bind fun bt319 => (if 1 < (x302000.length : Int) then (some ((x302000.set (1 : Int).toNat (wrap64 (bt319.1 - 1))), x302001, x302002, bt319.2.1, bt319.2.2)) else (none))) else (some (x302000, x302001, x302002, bt312.2.1, bt312.2.2))))
def spec_l1Cur_pair.f (k : Nat) (s0_0 : List Int) (s0_1 : Int) (s0_2 : Int) : Option (List Int × List Int × (List (S36)) × Int × Int) := (spec_l1Cur_pairSteps.f k s0_0 s0_1 s0_2).bind fun bt283 => ((spec_PlayPair.f k bt283.1).bind fun bt288 => (if bt288.2.2.2.2 = true then (spec_l1Cur_pair.j0 k s0_0 bt283.2.1 bt283.2.2 bt288.1 bt288.2.1 bt288.2.2.1) else ((spec_NewPair.f 2).bind fun bt302 => (spec_l1Cur_pair.j0 k s0_0 bt283.2.1 bt283.2.2 bt302.1 bt302.2.1 bt302.2.2.1))))
theorem spec_l1Cur_pair.mono_l : ∀ k, (∀ y0 y1 y2 y3 y4 y5, LeO (spec_l1Cur_pair.j0 k y0 y1 y2 y3 y4 y5) (spec_l1Cur_pair.j0 (k + 1) y0 y1 y2 y3 y4 y5))
 | 0 => fun _ _ _ _ _ _ r h => by simp [spec_l1Cur_pair.j0] at h
 | k + 1 => by
  have ih0 := spec_l1Cur_pair.mono_l k
  ·intro y0 y1 y2 y3 y4 y5
   unfold spec_l1Cur_pair.j0
   repeat' first
   | (with_reducible exact ih0 _ _ _ _ _ _)
   | (with_reducible exact spec_PlayPair.mono _ _)
   | (with_reducible exact spec_l1Cur_pairSteps.mono _ _ _ _)
   | with_reducible first | exact LeO.refl _ | exact LeO.none _ | refine LeO.ite ?_ ?_ | refine LeO.bind ?_ fun _ => ?_
theorem spec_l1Cur_pair.mono : ∀ a0 a1 a2 k, LeO (spec_l1Cur_pair.f k a0 a1 a2) (spec_l1Cur_pair.f (k + 1) a0 a1 a2) := by
 intro a0 a1 a2 k
 have ih0 := spec_l1Cur_pair.mono_l k
 unfold spec_l1Cur_pair.f
 repeat' first
   | (with_reducible exact ih0 _ _ _ _ _ _)
   | (with_reducible exact spec_PlayPair.mono _ _)
   | (with_reducible exact spec_l1Cur_pairSteps.mono _ _ _ _)
   | with_reducible first | exact LeO.refl _ | exact LeO.none _ | refine LeO.ite ?_ ?_ | refine LeO.bind ?_ fun _ => ?_
set_option maxHeartbeats 8000000 in
set_option maxRecDepth 100000 in
theorem spec_l1Cur_pair.calls (k : Nat) (g : Nat) (s0_0 : List Int) (s0_1 : Int) (s0_2 : Int) (r1 : List Int) (r2 : List Int) (r3 : List (S36)) (r4 : Int) (r5 : Int) (w0 w : World) (hI : IsS47 w0 w g s0_0 s0_1 s0_2) (hB : Below w0.heap.size w0 w) (h : spec_l1Cur_pair.f k s0_0 s0_1 s0_2 = some (r1, r2, r3, r4, r5)) :
  Calls Try.prog 18 #[.pointer (some ⟨g, 0, none⟩)] w fun e w' => ∃ v0_ v1_ v2_ : Value, e = .returned (.agg #[v0_, v1_, v2_]) ∧ Kd.R (Kd.int .i64) 3 w' w.heap.size (fun k_ => no_ v1_ k_) v0_ r1 ∧ Kd.R (Kd.int .i64) 3 w' w.heap.size (fun k_ => no_ v0_ k_) v1_ r2 ∧ Kd.R k36 36 w' w.heap.size (fun _ => True) v2_ r3 ∧ IsS47 w0 w' g s0_0 r4 r5 ∧ Below w0.heap.size w0 w' ∧ KeepBut w w' g none := by
 have hu26 := Try.underlying26
 have HI0 := Aside0.mk hI
 have HK := Aside0.mk (KeepBut.refl w g none)
 have HL := Aside0.mk hB.size
 clear hI
 have HW0 := Aside0.mk hB.size
 have HB := Aside0.mk hB
 clear hB
 have H : ((spec_l1Cur_pairSteps.f k s0_0 s0_1 s0_2).bind fun bt283 => ((spec_PlayPair.f k bt283.1).bind fun bt288 => (if bt288.2.2.2.2 = true then (spec_l1Cur_pair.j0 k s0_0 bt283.2.1 bt283.2.2 bt288.1 bt288.2.1 bt288.2.2.1) else ((spec_NewPair.f 2).bind fun bt302 => (spec_l1Cur_pair.j0 k s0_0 bt283.2.1 bt283.2.2 bt302.1 bt302.2.1 bt302.2.2.1))))) = some (r1, r2, r3, r4, r5) := h
 clear h
 replace H := Option.bind_eq_some_iff.mp H
 obtain ⟨⟨t283, t286, t287⟩, A20, H⟩ := H
 replace H : ((spec_PlayPair.f k t283).bind fun bt288 => (if bt288.2.2.2.2 = true then (spec_l1Cur_pair.j0 k s0_0 t286 t287 bt288.1 bt288.2.1 bt288.2.2.1) else ((spec_NewPair.f 2).bind fun bt302 => (spec_l1Cur_pair.j0 k s0_0 t286 t287 bt302.1 bt302.2.1 bt302.2.2.1)))) = some (r1, r2, r3, r4, r5) := H
 have A2 := Aside0.mk A20
 clear A20
 replace H := Option.bind_eq_some_iff.mp H
 obtain ⟨⟨t288, t291, t294, t297, t300⟩, A30, H⟩ := H
 replace H : (if t300 = true then (spec_l1Cur_pair.j0 k s0_0 t286 t287 t288 t291 t294) else ((spec_NewPair.f 2).bind fun bt302 => (spec_l1Cur_pair.j0 k s0_0 t286 t287 bt302.1 bt302.2.1 bt302.2.2.1))) = some (r1, r2, r3, r4, r5) := H
 have A3 := Aside0.mk A30
 clear A30
 have HC4 := Aside0.mk H
 clear H
 go_enter Try.func18, Try.ntmps18
 go_upto_if 14 with (first | ((with_reducible refine gate_dst (N := 2) rfl ?_); refine bx_ev 2 #[.slice none 0 0, .slice none 0 0, .slice none 0 0] 26 ?_; intro gb282 hg w5 hbox hb; have BK282 := Aside0.mk (hbox); have GW282 := Aside0.mk ((by rw [hg]; exact (keep_size (w := w) (g := g) (row := none) (kb0_ HK)) : w.heap.size ≤ gb282)); have GE282 := Aside0.mk ((Nat.le_trans HW0.out (by rw [hg]; exact (keep_size (w := w) (g := g) (row := none) (kb0_ HK)) : w.heap.size ≤ gb282) : w0.heap.size ≤ gb282)); have NB0_282 := Aside0.mk ((by rw [hg]; exact Nat.ne_of_lt (IsS47.lt (show IsS47 w0 _ g s0_0 s0_1 s0_2 from by repeat (first | (with_reducible first | exact HI0.out | apply IsS47.alloc | apply IsS47.drewN | apply IsS47.drew | apply IsS47.set_1 | apply IsS47.set_2) | exact HI0.out))) : g ≠ gb282)); have NB282_0 := Aside0.mk ((by rw [hg]; exact Nat.ne_of_gt (IsS47.lt (show IsS47 w0 _ g s0_0 s0_1 s0_2 from by repeat (first | (with_reducible first | exact HI0.out | apply IsS47.alloc | apply IsS47.drewN | apply IsS47.drew | apply IsS47.set_1 | apply IsS47.set_2) | exact HI0.out))) : gb282 ≠ g)); replace HK := Aside0.mk (KeepBut.trans (kb0_ HK) (KeepBut.of_below hb g none) (.inl rfl)); replace HB := Aside0.mk (below_step (by repeat (first | (with_reducible first | exact HB.out | apply below_alloc | apply pw_below_drewN | apply below_drew1 | refine below_set ?_ (IsS47.ge HI0.out)) | exact HB.out)) hb); replace HI0 := Aside0.mk (IsS47.below (by repeat (first | (with_reducible first | exact HI0.out | apply IsS47.alloc | apply IsS47.drewN | apply IsS47.drew | apply IsS47.set_1 | apply IsS47.set_2) | exact HI0.out)) hb); clear hb hbox hg) | ((with_reducible refine gate_dst (N := 8) rfl ?_); refine goesL_ (some 8) rfl rfl Try.func19 (by kernel_rfl) rfl #[.pointer (some ⟨g, 0, none⟩)] rfl tm_ ?_; (with_reducible refine (spec_l1Cur_pairSteps.calls k g s0_0 s0_1 s0_2 t283 t286 t287 w0 _ ?side1 ?side2 A2.out).mono ?_); (case side1 => repeat (first | (with_reducible first | exact HI0.out | apply IsS47.alloc | apply IsS47.drewN | apply IsS47.drew | apply IsS47.set_1 | apply IsS47.set_2 | refine IsS47.far ?_ NB0_282.out _) | exact HI0.out)); (case side2 => repeat (first | (with_reducible first | exact HB.out | apply below_alloc | apply pw_below_drewN | apply below_drew1 | refine below_set ?_ (IsS47.ge HI0.out) | refine below_set ?_ GE282.out) | exact HB.out)); rintro e w6 ⟨v284, rfl, ho0, hi, hb, hk⟩; refine ⟨_, rfl, ?_⟩; have HO285 := Aside0.mk (Kd.R_lower ho0 (keep_size (w := w) (g := g) (row := none) (kb1_ HK GW282))); replace BK282 := Aside0.mk (KeepBut.blk hk (g' := gb282) (o := .cells #[.slice none 0 0, .slice none 0 0, .slice none 0 0] 26 (0, 0)) (ba BK282.out) NB282_0.out (by simp)); replace HK := Aside0.mk (KeepBut.trans (kb1_ HK GW282) hk (.inl rfl)); replace HB := Aside0.mk (hb); replace HI0 := Aside0.mk (hi); clear hb hk hi ho0; obtain ⟨Ao7, co7, eo7⟩ := Kd.R_slice HO285.out; subst eo7) | ((with_reducible refine gate_dst (N := 9) rfl ?_); refine goesL_ (some 9) rfl rfl Try.func33 (by kernel_rfl) rfl #[.slice Ao7 t283.length co7] rfl tm_ ?_; (with_reducible refine (spec_PlayPair.calls k _ _ t283 t288 t291 t294 t297 t300 _ ?side1 ?side2 A3.out).mono ?_); (case side1 => exact ca (Kd.R_reads' HO285.out).2.2); (case side2 => exact (Kd.R_reads' HO285.out).2.1); rintro e w8 ⟨v289, v292, v295, v298, rfl, ho0, ho1, ho2, ho3, hb⟩; refine ⟨_, rfl, ?_⟩; have HO290 := Aside0.mk (Kd.R_lower ho0 (keep_size (w := w) (g := g) (row := none) (kb1_ HK GW282))); have HO293 := Aside0.mk (Kd.R_lower ho1 (keep_size (w := w) (g := g) (row := none) (kb1_ HK GW282))); have HO296 := Aside0.mk (Kd.R_lower ho2 (keep_size (w := w) (g := g) (row := none) (kb1_ HK GW282))); have HO299 := Aside0.mk (Kd.R_lower ho3 (keep_size (w := w) (g := g) (row := none) (kb1_ HK GW282))); replace HO285 := rb_ HO285 hb; replace BK282 := bb_ BK282 hb; replace HK := Aside0.mk (KeepBut.trans (kb1_ HK GW282) (KeepBut.of_below hb g none) (.inl rfl)); replace HB := Aside0.mk (below_step (by repeat (first | (with_reducible first | exact HB.out | apply below_alloc | apply pw_below_drewN | apply below_drew1 | refine below_set ?_ (IsS47.ge HI0.out) | refine below_set ?_ GE282.out) | exact HB.out)) hb); replace HI0 := Aside0.mk (IsS47.below (by repeat (first | (with_reducible first | exact HI0.out | apply IsS47.alloc | apply IsS47.drewN | apply IsS47.drew | apply IsS47.set_1 | apply IsS47.set_2 | refine IsS47.far ?_ NB0_282.out _) | exact HI0.out)) hb); clear hb ho0 ho1 ho2 ho3) | ((with_reducible refine gate_dst (N := 3) rfl ?_); refine bx_ev 3 #[.slice none 0 0, .slice none 0 0, .slice none 0 0] 26 ?_; intro gb301 hg w9 hbox hb; have BK301 := Aside0.mk (hbox); have GW301 := Aside0.mk ((by rw [hg]; exact (keep_size (w := w) (g := g) (row := none) (kb1_ HK GW282)) : w.heap.size ≤ gb301)); have GE301 := Aside0.mk ((Nat.le_trans HW0.out (by rw [hg]; exact (keep_size (w := w) (g := g) (row := none) (kb1_ HK GW282)) : w.heap.size ≤ gb301) : w0.heap.size ≤ gb301)); have NB282_301 := nl_ hg BK282; have NB301_282 := ng_ hg BK282; have NB0_301 := Aside0.mk ((by rw [hg]; exact Nat.ne_of_lt (IsS47.lt (show IsS47 w0 _ g s0_0 t286 t287 from by repeat (first | (with_reducible first | exact HI0.out | apply IsS47.alloc | apply IsS47.drewN | apply IsS47.drew | apply IsS47.set_1 | apply IsS47.set_2 | refine IsS47.far ?_ NB0_282.out _) | exact HI0.out))) : g ≠ gb301)); have NB301_0 := Aside0.mk ((by rw [hg]; exact Nat.ne_of_gt (IsS47.lt (show IsS47 w0 _ g s0_0 t286 t287 from by repeat (first | (with_reducible first | exact HI0.out | apply IsS47.alloc | apply IsS47.drewN | apply IsS47.drew | apply IsS47.set_1 | apply IsS47.set_2 | refine IsS47.far ?_ NB0_282.out _) | exact HI0.out))) : gb301 ≠ g)); replace HO285 := rb_ HO285 hb; replace HO290 := rb_ HO290 hb; replace HO293 := rb_ HO293 hb; replace HO296 := rb_ HO296 hb; replace HO299 := rb_ HO299 hb; replace BK282 := bb_ BK282 hb; replace HK := Aside0.mk (KeepBut.trans (kb1_ HK GW282) (KeepBut.of_below hb g none) (.inl rfl)); replace HB := Aside0.mk (below_step (by repeat (first | (with_reducible first | exact HB.out | apply below_alloc | apply pw_below_drewN | apply below_drew1 | refine below_set ?_ (IsS47.ge HI0.out) | refine below_set ?_ GE282.out) | exact HB.out)) hb); replace HI0 := Aside0.mk (IsS47.below (by repeat (first | (with_reducible first | exact HI0.out | apply IsS47.alloc | apply IsS47.drewN | apply IsS47.drew | apply IsS47.set_1 | apply IsS47.set_2 | refine IsS47.far ?_ NB0_282.out _) | exact HI0.out)) hb); clear hb hbox hg; obtain ⟨Ao10, co10, eo10⟩ := Kd.R_slice HO290.out; subst eo10; obtain ⟨hnb11, hnc11⟩ := nn_ NB301_282; obtain ⟨hnb12, hnc12⟩ := nn_ NB301_0; obtain ⟨hcz13_0, hcz13_1, hcz13_2⟩ := bcs3_ BK301; obtain ⟨hfz13_0, hfz13_1, hfz13_2⟩ := bz3_ BK301; obtain ⟨Ao14, co14, eo14⟩ := Kd.R_slice HO293.out; subst eo14; obtain ⟨Ao15, co15, eo15⟩ := Kd.R_slice HO296.out; subst eo15))
 (try simp only [Act.put, List.setIfInBounds_toArray, List.set_cons_zero, List.set_cons_succ])
 go_cut [] (fun wc => ∃ (kq : Nat) (x302000_3 : List Int) (x302001_3 : List Int) (x302002_3 : List (S36)) (u302000 : Value) (u302001 : Value) (u302002 : Value), Aside0 (spec_l1Cur_pair.j0 kq s0_0 t286 t287 x302000_3 x302001_3 x302002_3 = some (r1, r2, r3, r4, r5)) ∧ Aside0 (kq ≤ k) ∧ Aside0 (Kd.R (Kd.int .i64) 3 wc w.heap.size (fun k_ => some k_ ≠ (u302001 : Value).ownBlock) u302000 x302000_3) ∧ Aside0 (Kd.R (Kd.int .i64) 3 wc w.heap.size (fun k_ => some k_ ≠ (u302000 : Value).ownBlock) u302001 x302001_3) ∧ Aside0 (Kd.R k36 36 wc w.heap.size (fun _ => True) u302002 x302002_3) ∧ Aside0 (wc.heap[gb282]? = some (.cells #[(.slice none 0 0), (.slice none 0 0), (.slice none 0 0)] 26 (0, 0))) ∧ Aside0 (wc.heap[gb301]? = some (.cells #[u302000, u302001, u302002] 26 (0, 0))) ∧ Aside0 (IsS47 w0 wc g s0_0 t286 t287) ∧ Aside0 (KeepBut w wc g none) ∧ Aside0 (Below w0.heap.size w0 wc))
 case first =>
  have H := HC4.out
  clear HC4
  by_cases c16 : t300 = true
  ·subst c16
   rw [if_pos rfl] at H
   have H' := Aside0.mk H
   clear H
   go_wp2
   go_meet
   case rel => exact ⟨_, (t288), (t291), (t294), (.slice Ao10 t288.length co10), (.slice Ao14 t291.length co14), (.slice Ao15 t294.length co15), H', ⟨by first | omega | exact Nat.le_refl _⟩, ⟨ro_ (fs3_ HO290.out BK301.out) (fun _ hk => hk.1)⟩, ⟨ro_ (fs3_ HO293.out BK301.out) (fun _ hk => hk.1)⟩, ⟨ro_ (fs3_ HO296.out BK301.out) (fun _ hk => trivial)⟩, ⟨bw1_ BK282 NB282_301⟩, ⟨bw0_ BK301⟩, ⟨by repeat (first | (with_reducible first | exact HI0.out | apply IsS47.alloc | apply IsS47.drewN | apply IsS47.drew | apply IsS47.set_1 | apply IsS47.set_2 | refine IsS47.far ?_ NB0_282.out _ | refine IsS47.far ?_ NB0_301.out _) | exact HI0.out)⟩, ⟨kb2_ HK GW282 GW301⟩, ⟨by repeat (first | (with_reducible first | exact HB.out | apply below_alloc | apply pw_below_drewN | apply below_drew1 | refine below_set ?_ (IsS47.ge HI0.out) | refine below_set ?_ GE282.out | refine below_set ?_ GE301.out) | exact HB.out)⟩⟩
  replace c16 := Bool.eq_false_iff.mpr c16
  subst c16
  rw [if_neg (show ¬ (false = true) by decide)] at H
  replace H := Option.bind_eq_some_iff.mp H
  obtain ⟨⟨t302, t305, t308, t311⟩, A170, H⟩ := H
  replace H : (spec_l1Cur_pair.j0 k s0_0 t286 t287 t302 t305 t308) = some (r1, r2, r3, r4, r5) := H
  have A17 := Aside0.mk A170
  clear A170
  have H' := Aside0.mk H
  clear H
  go_wp2_with (first | ((with_reducible refine gate_dst (N := 16) rfl ?_); refine goesL_ (some 16) rfl rfl Try.func17 (by kernel_rfl) rfl #[.int .i64 2] rfl tm_ ?_; (with_reducible refine (spec_NewPair.calls 2 t302 t305 t308 t311 _ A17.out).mono ?_); rintro e w18 ⟨v303, v306, v309, rfl, ho0, ho1, ho2, hb⟩; refine ⟨_, rfl, ?_⟩; have HO304 := Aside0.mk (Kd.R_lower (Kd.R_new' (Kd.R_new' ho0 (Kd.R_lt (ra (fm3_ HO290 BK301)))) (Kd.R_lt (ra (fm3_ HO293 BK301)))) (keep_size (w := w) (g := g) (row := none) (kb2_ HK GW282 GW301))); have HO307 := Aside0.mk (Kd.R_lower (Kd.R_new' (Kd.R_new' ho1 (Kd.R_lt (ra (fm3_ HO290 BK301)))) (Kd.R_lt (ra (fm3_ HO293 BK301)))) (keep_size (w := w) (g := g) (row := none) (kb2_ HK GW282 GW301))); have HO310 := Aside0.mk (Kd.R_lower (Kd.R_new' ho2 (Kd.R_lt (ra (fm3_ HO296 BK301)))) (keep_size (w := w) (g := g) (row := none) (kb2_ HK GW282 GW301))); replace HO285 := rb3_ HO285 BK301 hb; replace HO290 := Aside0.mk (Kd.R_mono (Kd.R_told (Kd.R_told (Kd.R_old (ra (fm3_ HO290 BK301)) hb) (Kd.R_base ho0)) (Kd.R_base ho1)) (fun _ h_ => h_.1)); replace HO293 := Aside0.mk (Kd.R_mono (Kd.R_told (Kd.R_told (Kd.R_old (ra (fm3_ HO293 BK301)) hb) (Kd.R_base ho0)) (Kd.R_base ho1)) (fun _ h_ => h_.1)); replace HO296 := Aside0.mk (Kd.R_elder' (ra (fm3_ HO296 BK301)) (Kd.R_base ho2) hb); replace HO299 := rb3_ HO299 BK301 hb; replace BK282 := Aside0.mk (blk_below (bx BK282) hb); replace BK301 := Aside0.mk (blk_below (g := gb301) (o := .cells #[.slice Ao10 t288.length co10, .slice Ao14 t291.length co14, .slice Ao15 t294.length co15] 26 (0, 0)) (bw0_ BK301) hb); replace HK := Aside0.mk (KeepBut.trans (kb2_ HK GW282 GW301) (KeepBut.of_below hb g none) (.inl rfl)); replace HB := Aside0.mk (below_step (by repeat (first | (with_reducible first | exact HB.out | apply below_alloc | apply pw_below_drewN | apply below_drew1 | refine below_set ?_ (IsS47.ge HI0.out) | refine below_set ?_ GE282.out | refine below_set ?_ GE301.out) | exact HB.out)) hb); replace HI0 := Aside0.mk (IsS47.below (show IsS47 w0 (((w9.setCell ⟨gb301, 0, none⟩ (.slice Ao10 t288.length co10)).setCell ⟨gb301, 1, none⟩ (.slice Ao14 t291.length co14)).setCell ⟨gb301, 2, none⟩ (.slice Ao15 t294.length co15)) g s0_0 t286 t287 from by repeat (first | (with_reducible first | exact HI0.out | apply IsS47.alloc | apply IsS47.drewN | apply IsS47.drew | apply IsS47.set_1 | apply IsS47.set_2 | refine IsS47.far ?_ NB0_282.out _ | refine IsS47.far ?_ NB0_301.out _) | exact HI0.out)) hb); clear hb ho0 ho1 ho2; obtain ⟨Ao19, co19, eo19⟩ := Kd.R_slice HO304.out; subst eo19; obtain ⟨hnb20, hnc20⟩ := nn_ NB301_282; obtain ⟨hnb21, hnc21⟩ := nn_ NB301_0; obtain ⟨hcz22_0, hcz22_1, hcz22_2⟩ := bcs3_ BK301; obtain ⟨hfz22_0, hfz22_1, hfz22_2⟩ := bz3_ BK301; obtain ⟨Ao23, co23, eo23⟩ := Kd.R_slice HO307.out; subst eo23; obtain ⟨Ao24, co24, eo24⟩ := Kd.R_slice HO310.out; subst eo24))
  go_meet
  case rel => exact ⟨_, (t302), (t305), (t308), (.slice Ao19 t302.length co19), (.slice Ao23 t305.length co23), (.slice Ao24 t308.length co24), H', ⟨by first | omega | exact Nat.le_refl _⟩, ⟨ro_ (fs3_ HO304.out BK301.out) (fun _ hk => hk.1.1.1)⟩, ⟨ro_ (fs3_ HO307.out BK301.out) (fun _ hk => hk.1.1.1)⟩, ⟨ro_ (fs3_ HO310.out BK301.out) (fun _ hk => trivial)⟩, ⟨bw1_ BK282 NB282_301⟩, ⟨bw0_ BK301⟩, ⟨by repeat (first | (with_reducible first | exact HI0.out | apply IsS47.alloc | apply IsS47.drewN | apply IsS47.drew | apply IsS47.set_1 | apply IsS47.set_2 | refine IsS47.far ?_ NB0_282.out _ | refine IsS47.far ?_ NB0_301.out _) | exact HI0.out)⟩, ⟨kb2_ HK GW282 GW301⟩, ⟨by repeat (first | (with_reducible first | exact HB.out | apply below_alloc | apply pw_below_drewN | apply below_drew1 | refine below_set ?_ (IsS47.ge HI0.out) | refine below_set ?_ GE282.out | refine below_set ?_ GE301.out) | exact HB.out)⟩⟩
 case rest =>
  clear HC4
  try clear hcz13_0
  try clear hcz13_1
  try clear hcz13_2
  try clear hfz13_0
  try clear hfz13_1
  try clear hfz13_2
  obtain ⟨kq, x302000_3, x302001_3, x302002_3, u302000, u302001, u302002, HA, HJ3, HO_302000, HO_302001, HO_302002, BK282, BK301, HI0, HK, HB⟩ := hcut
  cases kq with
  | zero => exact absurd HA.out (by simp [spec_l1Cur_pair.j0])
  | succ kj3 =>
   have H := HA.out
   clear HA
   simp only [spec_l1Cur_pair.j0] at H
   replace H := Option.bind_eq_some_iff.mp H
   obtain ⟨⟨t312, t313, t314⟩, A250, H⟩ := H
   replace H : (if t312 = 0 then ((spec_l1Cur_pick.f s0_0 t313 t314 5).bind fun bt315 => (if 0 < (x302001_3.length : Int) then (some (x302000_3, (x302001_3.set (0 : Int).toNat bt315.1), x302002_3, bt315.2.1, bt315.2.2)) else (none))) else (if t312 = 1 then ((spec_l1Cur_pick.f s0_0 t313 t314 5).bind fun bt319 => (if 1 < (x302000_3.length : Int) then (some ((x302000_3.set (1 : Int).toNat (wrap64 (bt319.1 - 1))), x302001_3, x302002_3, bt319.2.1, bt319.2.2)) else (none))) else (some (x302000_3, x302001_3, x302002_3, t313, t314)))) = some (r1, r2, r3, r4, r5) := H
   have A25 := Aside0.mk A250
   clear A250
   by_cases c26 : t312 = 0
   ·rw [if_pos c26] at H
    have c26b0 : (t312 == 0) = true := beq_iff_eq.mpr c26
    have c26b1 : (t312 != 0) = false := bne_eq_false_iff_eq.mpr c26
    clear c26
    replace H := Option.bind_eq_some_iff.mp H
    obtain ⟨⟨t315, t316, t317⟩, A270, H⟩ := H
    replace H : (if 0 < (x302001_3.length : Int) then (some (x302000_3, (x302001_3.set (0 : Int).toNat t315), x302002_3, t316, t317)) else (none)) = some (r1, r2, r3, r4, r5) := H
    have A27 := Aside0.mk A270
    clear A270
    by_cases c28 : 0 < (x302001_3.length : Int)
    rotate_left
    ·rw [if_neg c28] at H
     exact absurd H (by simp)
    rw [if_pos c28] at H
    have c28b0 : decide (0 < (x302001_3.length : Int)) = true := decide_eq_true c28
    have c28b1 : decide (0 < x302001_3.length) = true := decide_eq_true (by omega)
    clear c28
    obtain ⟨y318, hy318⟩ : ∃ y_ : List Int, y_ = (x302001_3.set (0 : Int).toNat t315) := ⟨_, rfl⟩
    replace H : (some (x302000_3, y318, x302002_3, t316, t317)) = some (r1, r2, r3, r4, r5) := by first | (rw [hy318]; with_reducible exact H) | (have H2_ := (Option.bind_some _ _).symm.trans H; rw [hy318]; with_reducible exact H2_) | (have H2_ := (Option.bind_some _ _).symm.trans H; with_reducible exact H2_) | with_reducible exact H | (rw [hy318]; exact H) | exact H
    have Ny318 := Aside0.mk hy318
    clear hy318
    simp only [Option.some.injEq, Prod.mk.injEq] at H
    obtain ⟨rfl, rfl, rfl, rfl, rfl⟩ := H
    try go_wp2_with (first | ((with_reducible refine gate_dst (N := 20) rfl ?_); refine goesL_ (some 20) rfl rfl Try.func32 (by kernel_rfl) rfl #[.pointer (some ⟨g, 0, none⟩), .int .i64 20] rfl tm_ ?_; (with_reducible refine (spec_l1Cur_pick.calls g s0_0 t286 t287 20 t312 t313 t314 w0 _ ?side1 ?side2 A25.out).mono ?_); (case side1 => repeat (first | (with_reducible first | exact HI0.out | apply IsS47.alloc | apply IsS47.drewN | apply IsS47.drew | apply IsS47.set_1 | apply IsS47.set_2 | refine IsS47.far ?_ NB0_282.out _ | refine IsS47.far ?_ NB0_301.out _) | exact HI0.out)); (case side2 => repeat (first | (with_reducible first | exact HB.out | apply below_alloc | apply pw_below_drewN | apply below_drew1 | refine below_set ?_ (IsS47.ge HI0.out) | refine below_set ?_ GE282.out | refine below_set ?_ GE301.out) | exact HB.out)); rintro e w30 ⟨rfl, hi, hb, hk⟩; refine ⟨_, rfl, ?_⟩; replace HO_302000 := Aside0.mk (Kd.R_mono (Kd.R_keep (IsS47.apart (show IsS47 w0 _ g s0_0 t286 t287 from by repeat (first | (with_reducible first | exact HI0.out | apply IsS47.alloc | apply IsS47.drewN | apply IsS47.drew | apply IsS47.set_1 | apply IsS47.set_2 | refine IsS47.far ?_ NB0_282.out _ | refine IsS47.far ?_ NB0_301.out _) | exact HI0.out)) (ra HO_302000.out) (by decide)) hk (fun _ h => h.2)) (fun _ h => h.1)); replace HO_302001 := Aside0.mk (Kd.R_mono (Kd.R_keep (IsS47.apart (show IsS47 w0 _ g s0_0 t286 t287 from by repeat (first | (with_reducible first | exact HI0.out | apply IsS47.alloc | apply IsS47.drewN | apply IsS47.drew | apply IsS47.set_1 | apply IsS47.set_2 | refine IsS47.far ?_ NB0_282.out _ | refine IsS47.far ?_ NB0_301.out _) | exact HI0.out)) (ra HO_302001.out) (by decide)) hk (fun _ h => h.2)) (fun _ h => h.1)); replace HO_302002 := Aside0.mk (Kd.R_mono (Kd.R_keep (IsS47.apart (show IsS47 w0 _ g s0_0 t286 t287 from by repeat (first | (with_reducible first | exact HI0.out | apply IsS47.alloc | apply IsS47.drewN | apply IsS47.drew | apply IsS47.set_1 | apply IsS47.set_2 | refine IsS47.far ?_ NB0_282.out _ | refine IsS47.far ?_ NB0_301.out _) | exact HI0.out)) (ra HO_302002.out) (by decide)) hk (fun _ h => h.2)) (fun _ h => h.1)); replace BK282 := Aside0.mk (KeepBut.blk hk (g' := gb282) (o := .cells #[.slice none 0 0, .slice none 0 0, .slice none 0 0] 26 (0, 0)) (ba BK282.out) NB282_0.out (by simp)); replace BK301 := Aside0.mk (KeepBut.blk hk (g' := gb301) (o := .cells #[u302000, u302001, u302002] 26 (0, 0)) (ba BK301.out) NB301_0.out (by simp)); replace HK := Aside0.mk (KeepBut.trans (kb2_ HK GW282 GW301) hk (.inl rfl)); replace HB := Aside0.mk (hb); replace HI0 := Aside0.mk (hi); clear hb hk hi))
    replace HO_302000 := rd_ HO_302000
    replace HO_302001 := rd_ HO_302001
    replace HO_302002 := rd_ HO_302002
    replace BK282 := bd_ BK282
    replace BK301 := bd_ BK301
    replace HI0 := Aside0.mk (IsS47.drew HI0.out)
    replace HK := Aside0.mk (keep_drew HK.out)
    replace HB := Aside0.mk (below_drew1 HB.out)
    refine start_ (n := 6) (S := fun w' => w'.cell? ⟨gb301, 0, none⟩ = some (u302000) ∧ w'.cell? ⟨gb301, 1, none⟩ = some (u302001) ∧ w'.cell? ⟨gb301, 2, none⟩ = some (u302002)) (ds := [5]) (bs 6 0) (by kernel_rfl) rfl rfl ⟨bc_ BK301 0, bc_ BK301 1, bc_ BK301 2⟩ (fun hHeld => ?_)
    generalize w30.drew = w31 at HO_302000 HO_302001 HO_302002 BK282 BK301 HI0 HK HB hHeld ⊢
    refine pure_ (i := 0) (N := some 23) (v := ?_) (a' := ?_) (bs 6 1) rfl rfl (by kernel_rfl) (fun _ _ _ h => h) (Or.inl ⟨by rfl, ?_⟩) ?_ ?_
    rotate_left
    ·intro w'
     go_simp
     with_reducible rfl
    rotate_left
    ·simp only [Act.put, List.setIfInBounds_toArray, List.set_cons_zero, List.set_cons_succ, i64_w, i32_w]
     rfl
    refine pure_ (i := 2) (N := some 25) (v := ?_) (a' := ?_) (bs 6 5) rfl rfl (by kernel_rfl) (fun _ _ _ h => h) (Or.inl ⟨by rfl, ?_⟩) ?_ ?_
    rotate_left
    ·intro w'
     go_simp
     with_reducible rfl
    rotate_left
    ·simp only [Act.put, List.setIfInBounds_toArray, List.set_cons_zero, List.set_cons_succ, i64_w, i32_w]
     rfl
    refine take_ (i := 1) (N := some 24) (v := ?_) (a' := ?_) (bs 6 7) rfl rfl (by kernel_rfl) (fun _ _ _ h => h) (Or.inl ⟨by rfl, ?_⟩) hHeld ?_ ?_
    rotate_left
    ·rintro w' ⟨s0, s1, s2⟩
     go_simp
     with_reducible rfl
    rotate_left
    ·simp only [Act.put, List.setIfInBounds_toArray, List.set_cons_zero, List.set_cons_succ, i64_w, i32_w]
     rfl
    refine one_ (i := 3) (N := some 26) (bs 6 15) rfl rfl (by kernel_rfl) (by decide) (fun K hK => ?_)
    refine goes_ Try.func32 (by kernel_rfl) rfl #[.pointer (some ⟨g, 0, none⟩), .int .i64 5] (by rfl) rfl rfl tm_ ?_
    with_reducible refine (spec_l1Cur_pick.calls g s0_0 t313 t314 5 t315 t316 t317 w0 _ ?side1 ?side2 A27.out).mono ?_
    (case side1 => repeat (first | (with_reducible first | exact HI0.out | apply IsS47.alloc | apply IsS47.drewN | apply IsS47.drew | apply IsS47.set_1 | apply IsS47.set_2 | refine IsS47.far ?_ NB0_282.out _ | refine IsS47.far ?_ NB0_301.out _) | exact HI0.out))
    (case side2 => repeat (first | (with_reducible first | exact HB.out | apply below_alloc | apply pw_below_drewN | apply below_drew1 | refine below_set ?_ (IsS47.ge HI0.out) | refine below_set ?_ GE282.out | refine below_set ?_ GE301.out) | exact HB.out))
    rintro e w32 ⟨rfl, hi, hb, hk⟩
    refine ⟨_, rfl, ?_⟩
    replace HO_302000 := Aside0.mk (Kd.R_mono (Kd.R_keep (IsS47.apart (show IsS47 w0 _ g s0_0 t313 t314 from by repeat (first | (with_reducible first | exact HI0.out | apply IsS47.alloc | apply IsS47.drewN | apply IsS47.drew | apply IsS47.set_1 | apply IsS47.set_2 | refine IsS47.far ?_ NB0_282.out _ | refine IsS47.far ?_ NB0_301.out _) | exact HI0.out)) (ra HO_302000.out) (by decide)) hk (fun _ h => h.2)) (fun _ h => h.1))
    replace HO_302001 := Aside0.mk (Kd.R_mono (Kd.R_keep (IsS47.apart (show IsS47 w0 _ g s0_0 t313 t314 from by repeat (first | (with_reducible first | exact HI0.out | apply IsS47.alloc | apply IsS47.drewN | apply IsS47.drew | apply IsS47.set_1 | apply IsS47.set_2 | refine IsS47.far ?_ NB0_282.out _ | refine IsS47.far ?_ NB0_301.out _) | exact HI0.out)) (ra HO_302001.out) (by decide)) hk (fun _ h => h.2)) (fun _ h => h.1))
    replace HO_302002 := Aside0.mk (Kd.R_mono (Kd.R_keep (IsS47.apart (show IsS47 w0 _ g s0_0 t313 t314 from by repeat (first | (with_reducible first | exact HI0.out | apply IsS47.alloc | apply IsS47.drewN | apply IsS47.drew | apply IsS47.set_1 | apply IsS47.set_2 | refine IsS47.far ?_ NB0_282.out _ | refine IsS47.far ?_ NB0_301.out _) | exact HI0.out)) (ra HO_302002.out) (by decide)) hk (fun _ h => h.2)) (fun _ h => h.1))
    replace BK282 := Aside0.mk (KeepBut.blk hk (g' := gb282) (o := .cells #[.slice none 0 0, .slice none 0 0, .slice none 0 0] 26 (0, 0)) (ba BK282.out) NB282_0.out (by simp))
    replace BK301 := Aside0.mk (KeepBut.blk hk (g' := gb301) (o := .cells #[u302000, u302001, u302002] 26 (0, 0)) (ba BK301.out) NB301_0.out (by simp))
    replace HK := Aside0.mk (KeepBut.trans (kb2_ HK GW282 GW301) hk (.inl rfl))
    replace HB := Aside0.mk (hb)
    replace HI0 := Aside0.mk (hi)
    clear hb hk hi
    have p29 : 0 ≤ (0 : Int) := (by omega)
    have q29 : (0 : Int) < ((x302001_3.length : Int) : Int) := od_
    have qi29 : (0 < x302001_3.length) = True := eq_true (by omega)
    obtain ⟨go29, co29, eo29, gb29, gl29, cl29, HG29⟩ := Kd.R_form HO_302001.out (by omega)
    (first | cases eo29 | (injection eo29 with ea_ en_ ec_; (first | subst ea_ | (injection ea_ with ea_; subst ea_)); subst ec_; clear en_))
    have GB29 := Aside0.mk gb29
    have GG29 := Aside0.mk HG29
    clear gb29 gl29 HG29
    obtain ⟨hx29_0, hf29_0⟩ := Kd.R_celln 0 HO_302001.out (0 : Int) p29 q29
    (try rw [show ((0 : Int)).toNat = 0 from rfl] at hx29_0)
    (try simp only [Nat.reduceMul, Nat.zero_mul, Nat.zero_add, Nat.reduceAdd] at hx29_0)
    (try rw [show ((0 : Int)).toNat = 0 from rfl] at hf29_0)
    (try simp only [Nat.reduceMul, Nat.zero_mul, Nat.zero_add, Nat.reduceAdd] at hf29_0)
    replace p29 := eq_true p29
    replace q29 := eq_true q29
    have HN0_go29 := Aside0.mk (show g ≠ go29 from by have h_ := IsS47.own_ne HI0.out HO_302001.out (by decide); intro e_; exact h_ (by rw [e_]; rfl))
    have HP33 := Kd.R_putn HO_302001.out (0 : Int) t315
    rw [← Ny318.out] at HP33
    have HQ33 := Aside0.mk HP33
    clear HP33
    refine hK.out _ _ ⟨bc_ BK301 0, bc_ BK301 1, bc_ BK301 2⟩ (fun hHeld => ?_)
    clear hK K
    refine nm_ 26 ?_
    refine pure_ (i := 4) (N := some 27) (v := ?_) (a' := ?_) (bs 6 31) rfl rfl (by kernel_rfl) (fun _ _ _ h => h) (Or.inl ⟨by rfl, ?_⟩) ?_ ?_
    rotate_left
    ·intro w'
     go_simp
     with_reducible rfl
    rotate_left
    ·simp only [Act.put, List.setIfInBounds_toArray, List.set_cons_zero, List.set_cons_succ, i64_w, i32_w]
     rfl
    refine last_ (i := 5) (N := none) (bs 6 63) rfl rfl (by kernel_rfl) (by decide) (fun K hK => ?_)
    refine skip_ (w1 := ?_) (by rfl) rfl ?_ ?_
    rotate_left
    ·go_simp
     rfl
    refine hK.out _ _ ?_
    clear hK K
    refine done_ (by kernel_rfl) ?_
    have n0_ : Aside0 (Kd.R (Kd.int .i64) 3 (w32.setCell ⟨go29, 0, none⟩ (.int .i64 t315)) w.heap.size (fun k_ => some k_ ≠ (.slice (some ⟨go29, 0, none⟩) x302001_3.length co29 : Value).ownBlock) u302000 x302000_3) := ⟨ro_ (Kd.R_far (p := ⟨go29, 0, none⟩) (Kd.R_mono HO_302000.out (fun k_ hk => (⟨hk, fun e_ => hk (by rw [e_]; rfl)⟩ : _ ∧ k_ ≠ go29))) (fun _ hk => hk.2) (.int .i64 t315)) (fun _ hk => hk.1)⟩
    have n1_ : Aside0 (Kd.R (Kd.int .i64) 3 (w32.setCell ⟨go29, 0, none⟩ (.int .i64 t315)) w.heap.size (fun k_ => some k_ ≠ (u302000 : Value).ownBlock) (.slice (some ⟨go29, 0, none⟩) x302001_3.length co29) y318) := ⟨ra HQ33.out⟩
    have n2_ : Aside0 (Kd.R k36 36 (w32.setCell ⟨go29, 0, none⟩ (.int .i64 t315)) w.heap.size (fun _ => True) u302002 x302002_3) := ⟨ro_ (Kd.R_far (p := ⟨go29, 0, none⟩) (Kd.R_types HO_302002.out GG29.out (by decide)) (fun _ hk => hk.2) (.int .i64 t315)) (fun _ hk => trivial)⟩
    have n3_ : Aside0 ((w32.setCell ⟨go29, 0, none⟩ (.int .i64 t315)).heap[gb282]? = some (.cells #[.slice none 0 0, .slice none 0 0, .slice none 0 0] 26 (0, 0))) := ⟨by (with_reducible repeat (first | refine blk_drewN ?_ _ | refine blk_drew ?_ | refine blk_alloc ?_ _)); refine blk_far ?_ (by have h_ := Kd.R_ne HO_302001.out BK282.out (by decide); intro e_; exact h_ (by rw [e_]; rfl)) _; (with_reducible repeat (first | refine blk_drewN ?_ _ | refine blk_drew ?_ | refine blk_alloc ?_ _)); exact BK282.out⟩
    have n4_ : Aside0 ((w32.setCell ⟨go29, 0, none⟩ (.int .i64 t315)).heap[gb301]? = some (.cells #[u302000, .slice (some ⟨go29, 0, none⟩) x302001_3.length co29, u302002] 26 (0, 0))) := ⟨by (with_reducible repeat (first | refine blk_drewN ?_ _ | refine blk_drew ?_ | refine blk_alloc ?_ _)); refine blk_far ?_ (by have h_ := Kd.R_ne HO_302001.out BK301.out (by decide); intro e_; exact h_ (by rw [e_]; rfl)) _; (with_reducible repeat (first | refine blk_drewN ?_ _ | refine blk_drew ?_ | refine blk_alloc ?_ _)); exact BK301.out⟩
    have n5_ : Aside0 (IsS47 w0 (w32.setCell ⟨go29, 0, none⟩ (.int .i64 t315)) g s0_0 t316 t317) := ⟨by repeat (first | (with_reducible first | exact HI0.out | apply IsS47.alloc | apply IsS47.drewN | apply IsS47.drew | apply IsS47.set_1 | apply IsS47.set_2 | refine IsS47.far ?_ HN0_go29.out _ | refine IsS47.far ?_ NB0_282.out _ | refine IsS47.far ?_ NB0_301.out _) | exact HI0.out)⟩
    have n6_ : Aside0 (KeepBut w (w32.setCell ⟨go29, 0, none⟩ (.int .i64 t315)) g none) := ⟨kb3_ HK GB29 GW282 GW301⟩
    have n7_ : Aside0 (Below w0.heap.size w0 (w32.setCell ⟨go29, 0, none⟩ (.int .i64 t315))) := ⟨by repeat (first | (with_reducible first | exact HB.out | apply below_alloc | apply pw_below_drewN | apply below_drew1 | refine below_set ?_ (Nat.le_trans HL.out GB29.out) | refine below_set ?_ (IsS47.ge HI0.out) | refine below_set ?_ GE282.out | refine below_set ?_ GE301.out) | exact HB.out)⟩
    (try clear HO_302000)
    (try clear HO_302001)
    (try clear HO_302002)
    (try clear BK282)
    (try clear BK301)
    (try clear HI0)
    (try clear HK)
    (try clear HB)
    generalize (w32.setCell ⟨go29, 0, none⟩ (.int .i64 t315)) = w34 at n0_ n1_ n2_ n3_ n4_ n5_ n6_ n7_ ⊢
    have HO_302000 := n0_
    have HO_302001 := n1_
    have HO_302002 := n2_
    have BK282 := n3_
    have BK301 := n4_
    have HI0 := n5_
    have HK := n6_
    have HB := n7_
    clear n0_ n1_ n2_ n3_ n4_ n5_ n6_ n7_
    obtain ⟨hnb35, hnc35⟩ := nn_ NB301_282
    obtain ⟨hnb36, hnc36⟩ := nn_ NB301_0
    obtain ⟨hcz37_0, hcz37_1, hcz37_2⟩ := bcs3_ BK301
    obtain ⟨hfz37_0, hfz37_1, hfz37_2⟩ := bz3_ BK301
    obtain ⟨Ao38, co38, eo38⟩ := Kd.R_slice HO_302000.out
    subst eo38
    obtain ⟨hnb39, hnc39⟩ := nn_ NB282_0
    obtain ⟨hcz40_0, hcz40_1, hcz40_2⟩ := bcs3_ BK282
    obtain ⟨hfz40_0, hfz40_1, hfz40_2⟩ := bz3_ BK282
    obtain ⟨Ao41, co41, eo41⟩ := Kd.R_slice HO_302002.out
    subst eo41
    try go_wp2
    refine bodyPost_ret (results_cell_row rfl _ _ gb282 26 #[.slice Ao38 x302000_3.length co38, .slice (some ⟨go29, 0, none⟩) x302001_3.length co29, .slice Ao41 x302002_3.length co41] (0, 0) _ rfl (bw0_ BK282) Try.underlying26 rfl (by kernel_rfl)) rfl ?_
    exact ⟨_, _, _, rt_, ro_ (fs3_ HO_302000.out BK282.out) (fun _ hk => hk.1), ro_ (fs3_ HO_302001.out BK282.out) (fun _ hk => hk.1), ro_ (fs3_ HO_302002.out BK282.out) (fun _ hk => trivial), by repeat (first | (with_reducible first | exact HI0.out | apply IsS47.alloc | apply IsS47.drewN | apply IsS47.drew | apply IsS47.set_1 | apply IsS47.set_2 | refine IsS47.far ?_ NB0_282.out _ | refine IsS47.far ?_ NB0_301.out _) | exact HI0.out), by repeat (first | (with_reducible first | exact HB.out | apply below_alloc | apply pw_below_drewN | apply below_drew1 | refine below_set ?_ (IsS47.ge HI0.out) | refine below_set ?_ GE282.out | refine below_set ?_ GE301.out) | exact HB.out), kb2_ HK GW282 GW301⟩
   rw [if_neg c26] at H
   have c26b0 : (t312 == 0) = false := beq_eq_false_iff_ne.mpr c26
   have c26b1 : (t312 != 0) = true := bne_iff_ne.mpr c26
   by_cases c42 : t312 = 1
   rotate_left
   ·rw [if_neg c42] at H
    have c42b0 : (t312 == 1) = false := beq_eq_false_iff_ne.mpr c42
    have c42b1 : (t312 != 1) = true := bne_iff_ne.mpr c42
    simp only [Option.some.injEq, Prod.mk.injEq] at H
    obtain ⟨rfl, rfl, rfl, rfl, rfl⟩ := H
    go_wp2_with (first | ((with_reducible refine gate_dst (N := 20) rfl ?_); refine goesL_ (some 20) rfl rfl Try.func32 (by kernel_rfl) rfl #[.pointer (some ⟨g, 0, none⟩), .int .i64 20] rfl tm_ ?_; (with_reducible refine (spec_l1Cur_pick.calls g s0_0 t286 t287 20 t312 t313 t314 w0 _ ?side1 ?side2 A25.out).mono ?_); (case side1 => repeat (first | (with_reducible first | exact HI0.out | apply IsS47.alloc | apply IsS47.drewN | apply IsS47.drew | apply IsS47.set_1 | apply IsS47.set_2 | refine IsS47.far ?_ NB0_282.out _ | refine IsS47.far ?_ NB0_301.out _) | exact HI0.out)); (case side2 => repeat (first | (with_reducible first | exact HB.out | apply below_alloc | apply pw_below_drewN | apply below_drew1 | refine below_set ?_ (IsS47.ge HI0.out) | refine below_set ?_ GE282.out | refine below_set ?_ GE301.out) | exact HB.out)); rintro e w58 ⟨rfl, hi, hb, hk⟩; refine ⟨_, rfl, ?_⟩; replace HO_302000 := Aside0.mk (Kd.R_mono (Kd.R_keep (IsS47.apart (show IsS47 w0 _ g s0_0 t286 t287 from by repeat (first | (with_reducible first | exact HI0.out | apply IsS47.alloc | apply IsS47.drewN | apply IsS47.drew | apply IsS47.set_1 | apply IsS47.set_2 | refine IsS47.far ?_ NB0_282.out _ | refine IsS47.far ?_ NB0_301.out _) | exact HI0.out)) (ra HO_302000.out) (by decide)) hk (fun _ h => h.2)) (fun _ h => h.1)); replace HO_302001 := Aside0.mk (Kd.R_mono (Kd.R_keep (IsS47.apart (show IsS47 w0 _ g s0_0 t286 t287 from by repeat (first | (with_reducible first | exact HI0.out | apply IsS47.alloc | apply IsS47.drewN | apply IsS47.drew | apply IsS47.set_1 | apply IsS47.set_2 | refine IsS47.far ?_ NB0_282.out _ | refine IsS47.far ?_ NB0_301.out _) | exact HI0.out)) (ra HO_302001.out) (by decide)) hk (fun _ h => h.2)) (fun _ h => h.1)); replace HO_302002 := Aside0.mk (Kd.R_mono (Kd.R_keep (IsS47.apart (show IsS47 w0 _ g s0_0 t286 t287 from by repeat (first | (with_reducible first | exact HI0.out | apply IsS47.alloc | apply IsS47.drewN | apply IsS47.drew | apply IsS47.set_1 | apply IsS47.set_2 | refine IsS47.far ?_ NB0_282.out _ | refine IsS47.far ?_ NB0_301.out _) | exact HI0.out)) (ra HO_302002.out) (by decide)) hk (fun _ h => h.2)) (fun _ h => h.1)); replace BK282 := Aside0.mk (KeepBut.blk hk (g' := gb282) (o := .cells #[.slice none 0 0, .slice none 0 0, .slice none 0 0] 26 (0, 0)) (ba BK282.out) NB282_0.out (by simp)); replace BK301 := Aside0.mk (KeepBut.blk hk (g' := gb301) (o := .cells #[u302000, u302001, u302002] 26 (0, 0)) (ba BK301.out) NB301_0.out (by simp)); replace HK := Aside0.mk (KeepBut.trans (kb2_ HK GW282 GW301) hk (.inl rfl)); replace HB := Aside0.mk (hb); replace HI0 := Aside0.mk (hi); clear hb hk hi; obtain ⟨hnb59, hnc59⟩ := nn_ NB301_282; obtain ⟨hnb60, hnc60⟩ := nn_ NB301_0; obtain ⟨hcz61_0, hcz61_1, hcz61_2⟩ := bcs3_ BK301; obtain ⟨hfz61_0, hfz61_1, hfz61_2⟩ := bz3_ BK301; obtain ⟨Ao62, co62, eo62⟩ := Kd.R_slice HO_302000.out; subst eo62; obtain ⟨hnb63, hnc63⟩ := nn_ NB282_0; obtain ⟨hcz64_0, hcz64_1, hcz64_2⟩ := bcs3_ BK282; obtain ⟨hfz64_0, hfz64_1, hfz64_2⟩ := bz3_ BK282; obtain ⟨Ao65, co65, eo65⟩ := Kd.R_slice HO_302001.out; subst eo65; obtain ⟨Ao66, co66, eo66⟩ := Kd.R_slice HO_302002.out; subst eo66))
    refine bodyPost_ret (results_cell_row rfl _ _ gb282 26 #[.slice Ao62 x302000_3.length co62, .slice Ao65 x302001_3.length co65, .slice Ao66 x302002_3.length co66] (0, 0) _ rfl (bw0_ BK282) Try.underlying26 rfl (by kernel_rfl)) rfl ?_
    exact ⟨_, _, _, rt_, ro_ (fs3_ HO_302000.out BK282.out) (fun _ hk => hk.1), ro_ (fs3_ HO_302001.out BK282.out) (fun _ hk => hk.1), ro_ (fs3_ HO_302002.out BK282.out) (fun _ hk => trivial), by repeat (first | (with_reducible first | exact HI0.out | apply IsS47.alloc | apply IsS47.drewN | apply IsS47.drew | apply IsS47.set_1 | apply IsS47.set_2 | refine IsS47.far ?_ NB0_282.out _ | refine IsS47.far ?_ NB0_301.out _) | exact HI0.out), by repeat (first | (with_reducible first | exact HB.out | apply below_alloc | apply pw_below_drewN | apply below_drew1 | refine below_set ?_ (IsS47.ge HI0.out) | refine below_set ?_ GE282.out | refine below_set ?_ GE301.out) | exact HB.out), kb2_ HK GW282 GW301⟩
   rw [if_pos c42] at H
   have c42b0 : (t312 == 1) = true := beq_iff_eq.mpr c42
   have c42b1 : (t312 != 1) = false := bne_eq_false_iff_eq.mpr c42
   clear c42
   replace H := Option.bind_eq_some_iff.mp H
   obtain ⟨⟨t319, t320, t321⟩, A430, H⟩ := H
   replace H : (if 1 < (x302000_3.length : Int) then (some ((x302000_3.set (1 : Int).toNat (wrap64 (t319 - 1))), x302001_3, x302002_3, t320, t321)) else (none)) = some (r1, r2, r3, r4, r5) := H
   have A43 := Aside0.mk A430
   clear A430
   by_cases c44 : 1 < (x302000_3.length : Int)
   rotate_left
   ·rw [if_neg c44] at H
    exact absurd H (by simp)
   rw [if_pos c44] at H
   have c44b0 : decide (1 < (x302000_3.length : Int)) = true := decide_eq_true c44
   have c44b1 : decide (1 < x302000_3.length) = true := decide_eq_true (by omega)
   clear c44
   obtain ⟨y322, hy322⟩ : ∃ y_ : List Int, y_ = (x302000_3.set (1 : Int).toNat (wrap64 (t319 - 1))) := ⟨_, rfl⟩
   replace H : (some (y322, x302001_3, x302002_3, t320, t321)) = some (r1, r2, r3, r4, r5) := by first | (rw [hy322]; with_reducible exact H) | (have H2_ := (Option.bind_some _ _).symm.trans H; rw [hy322]; with_reducible exact H2_) | (have H2_ := (Option.bind_some _ _).symm.trans H; with_reducible exact H2_) | with_reducible exact H | (rw [hy322]; exact H) | exact H
   have Ny322 := Aside0.mk hy322
   clear hy322
   simp only [Option.some.injEq, Prod.mk.injEq] at H
   obtain ⟨rfl, rfl, rfl, rfl, rfl⟩ := H
   try go_wp2_with (first | ((with_reducible refine gate_dst (N := 20) rfl ?_); refine goesL_ (some 20) rfl rfl Try.func32 (by kernel_rfl) rfl #[.pointer (some ⟨g, 0, none⟩), .int .i64 20] rfl tm_ ?_; (with_reducible refine (spec_l1Cur_pick.calls g s0_0 t286 t287 20 t312 t313 t314 w0 _ ?side1 ?side2 A25.out).mono ?_); (case side1 => repeat (first | (with_reducible first | exact HI0.out | apply IsS47.alloc | apply IsS47.drewN | apply IsS47.drew | apply IsS47.set_1 | apply IsS47.set_2 | refine IsS47.far ?_ NB0_282.out _ | refine IsS47.far ?_ NB0_301.out _) | exact HI0.out)); (case side2 => repeat (first | (with_reducible first | exact HB.out | apply below_alloc | apply pw_below_drewN | apply below_drew1 | refine below_set ?_ (IsS47.ge HI0.out) | refine below_set ?_ GE282.out | refine below_set ?_ GE301.out) | exact HB.out)); rintro e w46 ⟨rfl, hi, hb, hk⟩; refine ⟨_, rfl, ?_⟩; replace HO_302000 := Aside0.mk (Kd.R_mono (Kd.R_keep (IsS47.apart (show IsS47 w0 _ g s0_0 t286 t287 from by repeat (first | (with_reducible first | exact HI0.out | apply IsS47.alloc | apply IsS47.drewN | apply IsS47.drew | apply IsS47.set_1 | apply IsS47.set_2 | refine IsS47.far ?_ NB0_282.out _ | refine IsS47.far ?_ NB0_301.out _) | exact HI0.out)) (ra HO_302000.out) (by decide)) hk (fun _ h => h.2)) (fun _ h => h.1)); replace HO_302001 := Aside0.mk (Kd.R_mono (Kd.R_keep (IsS47.apart (show IsS47 w0 _ g s0_0 t286 t287 from by repeat (first | (with_reducible first | exact HI0.out | apply IsS47.alloc | apply IsS47.drewN | apply IsS47.drew | apply IsS47.set_1 | apply IsS47.set_2 | refine IsS47.far ?_ NB0_282.out _ | refine IsS47.far ?_ NB0_301.out _) | exact HI0.out)) (ra HO_302001.out) (by decide)) hk (fun _ h => h.2)) (fun _ h => h.1)); replace HO_302002 := Aside0.mk (Kd.R_mono (Kd.R_keep (IsS47.apart (show IsS47 w0 _ g s0_0 t286 t287 from by repeat (first | (with_reducible first | exact HI0.out | apply IsS47.alloc | apply IsS47.drewN | apply IsS47.drew | apply IsS47.set_1 | apply IsS47.set_2 | refine IsS47.far ?_ NB0_282.out _ | refine IsS47.far ?_ NB0_301.out _) | exact HI0.out)) (ra HO_302002.out) (by decide)) hk (fun _ h => h.2)) (fun _ h => h.1)); replace BK282 := Aside0.mk (KeepBut.blk hk (g' := gb282) (o := .cells #[.slice none 0 0, .slice none 0 0, .slice none 0 0] 26 (0, 0)) (ba BK282.out) NB282_0.out (by simp)); replace BK301 := Aside0.mk (KeepBut.blk hk (g' := gb301) (o := .cells #[u302000, u302001, u302002] 26 (0, 0)) (ba BK301.out) NB301_0.out (by simp)); replace HK := Aside0.mk (KeepBut.trans (kb2_ HK GW282 GW301) hk (.inl rfl)); replace HB := Aside0.mk (hb); replace HI0 := Aside0.mk (hi); clear hb hk hi))
   replace HO_302000 := rd_ HO_302000
   replace HO_302001 := rd_ HO_302001
   replace HO_302002 := rd_ HO_302002
   replace BK282 := bd_ BK282
   replace BK301 := bd_ BK301
   replace HI0 := Aside0.mk (IsS47.drew HI0.out)
   replace HK := Aside0.mk (keep_drew HK.out)
   replace HB := Aside0.mk (below_drew1 HB.out)
   refine start_ (n := 7) (S := fun w' => w'.cell? ⟨gb301, 0, none⟩ = some (u302000) ∧ w'.cell? ⟨gb301, 1, none⟩ = some (u302001) ∧ w'.cell? ⟨gb301, 2, none⟩ = some (u302002)) (ds := [6]) (bs 7 0) (by kernel_rfl) rfl rfl ⟨bc_ BK301 0, bc_ BK301 1, bc_ BK301 2⟩ (fun hHeld => ?_)
   generalize w46.drew = w47 at HO_302000 HO_302001 HO_302002 BK282 BK301 HI0 HK HB hHeld ⊢
   refine pure_ (i := 0) (N := some 30) (v := ?_) (a' := ?_) (bs 7 1) rfl rfl (by kernel_rfl) (fun _ _ _ h => h) (Or.inl ⟨by rfl, ?_⟩) ?_ ?_
   rotate_left
   ·intro w'
    go_simp
    with_reducible rfl
   rotate_left
   ·simp only [Act.put, List.setIfInBounds_toArray, List.set_cons_zero, List.set_cons_succ, i64_w, i32_w]
    rfl
   refine pure_ (i := 2) (N := some 32) (v := ?_) (a' := ?_) (bs 7 5) rfl rfl (by kernel_rfl) (fun _ _ _ h => h) (Or.inl ⟨by rfl, ?_⟩) ?_ ?_
   rotate_left
   ·intro w'
    go_simp
    with_reducible rfl
   rotate_left
   ·simp only [Act.put, List.setIfInBounds_toArray, List.set_cons_zero, List.set_cons_succ, i64_w, i32_w]
    rfl
   refine take_ (i := 1) (N := some 31) (v := ?_) (a' := ?_) (bs 7 7) rfl rfl (by kernel_rfl) (fun _ _ _ h => h) (Or.inl ⟨by rfl, ?_⟩) hHeld ?_ ?_
   rotate_left
   ·rintro w' ⟨s0, s1, s2⟩
    go_simp
    with_reducible rfl
   rotate_left
   ·simp only [Act.put, List.setIfInBounds_toArray, List.set_cons_zero, List.set_cons_succ, i64_w, i32_w]
    rfl
   refine one_ (i := 3) (N := some 33) (bs 7 15) rfl rfl (by kernel_rfl) (by decide) (fun K hK => ?_)
   refine goes_ Try.func32 (by kernel_rfl) rfl #[.pointer (some ⟨g, 0, none⟩), .int .i64 5] (by rfl) rfl rfl tm_ ?_
   with_reducible refine (spec_l1Cur_pick.calls g s0_0 t313 t314 5 t319 t320 t321 w0 _ ?side1 ?side2 A43.out).mono ?_
   (case side1 => repeat (first | (with_reducible first | exact HI0.out | apply IsS47.alloc | apply IsS47.drewN | apply IsS47.drew | apply IsS47.set_1 | apply IsS47.set_2 | refine IsS47.far ?_ NB0_282.out _ | refine IsS47.far ?_ NB0_301.out _) | exact HI0.out))
   (case side2 => repeat (first | (with_reducible first | exact HB.out | apply below_alloc | apply pw_below_drewN | apply below_drew1 | refine below_set ?_ (IsS47.ge HI0.out) | refine below_set ?_ GE282.out | refine below_set ?_ GE301.out) | exact HB.out))
   rintro e w48 ⟨rfl, hi, hb, hk⟩
   refine ⟨_, rfl, ?_⟩
   replace HO_302000 := Aside0.mk (Kd.R_mono (Kd.R_keep (IsS47.apart (show IsS47 w0 _ g s0_0 t313 t314 from by repeat (first | (with_reducible first | exact HI0.out | apply IsS47.alloc | apply IsS47.drewN | apply IsS47.drew | apply IsS47.set_1 | apply IsS47.set_2 | refine IsS47.far ?_ NB0_282.out _ | refine IsS47.far ?_ NB0_301.out _) | exact HI0.out)) (ra HO_302000.out) (by decide)) hk (fun _ h => h.2)) (fun _ h => h.1))
   replace HO_302001 := Aside0.mk (Kd.R_mono (Kd.R_keep (IsS47.apart (show IsS47 w0 _ g s0_0 t313 t314 from by repeat (first | (with_reducible first | exact HI0.out | apply IsS47.alloc | apply IsS47.drewN | apply IsS47.drew | apply IsS47.set_1 | apply IsS47.set_2 | refine IsS47.far ?_ NB0_282.out _ | refine IsS47.far ?_ NB0_301.out _) | exact HI0.out)) (ra HO_302001.out) (by decide)) hk (fun _ h => h.2)) (fun _ h => h.1))
   replace HO_302002 := Aside0.mk (Kd.R_mono (Kd.R_keep (IsS47.apart (show IsS47 w0 _ g s0_0 t313 t314 from by repeat (first | (with_reducible first | exact HI0.out | apply IsS47.alloc | apply IsS47.drewN | apply IsS47.drew | apply IsS47.set_1 | apply IsS47.set_2 | refine IsS47.far ?_ NB0_282.out _ | refine IsS47.far ?_ NB0_301.out _) | exact HI0.out)) (ra HO_302002.out) (by decide)) hk (fun _ h => h.2)) (fun _ h => h.1))
   replace BK282 := Aside0.mk (KeepBut.blk hk (g' := gb282) (o := .cells #[.slice none 0 0, .slice none 0 0, .slice none 0 0] 26 (0, 0)) (ba BK282.out) NB282_0.out (by simp))
   replace BK301 := Aside0.mk (KeepBut.blk hk (g' := gb301) (o := .cells #[u302000, u302001, u302002] 26 (0, 0)) (ba BK301.out) NB301_0.out (by simp))
   replace HK := Aside0.mk (KeepBut.trans (kb2_ HK GW282 GW301) hk (.inl rfl))
   replace HB := Aside0.mk (hb)
   replace HI0 := Aside0.mk (hi)
   clear hb hk hi
   have p45 : 0 ≤ (1 : Int) := (by omega)
   have q45 : (1 : Int) < ((x302000_3.length : Int) : Int) := od_
   have qi45 : (1 < x302000_3.length) = True := eq_true (by omega)
   obtain ⟨go45, co45, eo45, gb45, gl45, cl45, HG45⟩ := Kd.R_form HO_302000.out (by omega)
   (first | cases eo45 | (injection eo45 with ea_ en_ ec_; (first | subst ea_ | (injection ea_ with ea_; subst ea_)); subst ec_; clear en_))
   have GB45 := Aside0.mk gb45
   have GG45 := Aside0.mk HG45
   clear gb45 gl45 HG45
   obtain ⟨hx45_0, hf45_0⟩ := Kd.R_celln 0 HO_302000.out (1 : Int) p45 q45
   (try rw [show ((1 : Int)).toNat = 1 from rfl] at hx45_0)
   (try simp only [Nat.reduceMul, Nat.zero_mul, Nat.zero_add, Nat.reduceAdd] at hx45_0)
   (try rw [show ((1 : Int)).toNat = 1 from rfl] at hf45_0)
   (try simp only [Nat.reduceMul, Nat.zero_mul, Nat.zero_add, Nat.reduceAdd] at hf45_0)
   replace p45 := eq_true p45
   replace q45 := eq_true q45
   have HN0_go45 := Aside0.mk (show g ≠ go45 from by have h_ := IsS47.own_ne HI0.out HO_302000.out (by decide); intro e_; exact h_ (by rw [e_]; rfl))
   have HP49 := Kd.R_putn HO_302000.out (1 : Int) (wrap64 (t319 - 1))
   rw [← Ny322.out] at HP49
   have HQ49 := Aside0.mk HP49
   clear HP49
   refine hK.out _ _ ⟨bc_ BK301 0, bc_ BK301 1, bc_ BK301 2⟩ (fun hHeld => ?_)
   clear hK K
   refine nm_ 33 ?_
   refine pure_ (i := 4) (N := some 34) (v := ?_) (a' := ?_) (bs 7 31) rfl rfl (by kernel_rfl) (fun _ _ _ h => h) (Or.inl ⟨by rfl, ?_⟩) ?_ ?_
   rotate_left
   ·intro w'
    go_simp
    with_reducible rfl
   rotate_left
   ·simp only [Act.put, List.setIfInBounds_toArray, List.set_cons_zero, List.set_cons_succ, i64_w, i32_w]
    rfl
   refine pure_ (i := 5) (N := some 35) (v := ?_) (a' := ?_) (bs 7 63) rfl rfl (by kernel_rfl) (fun _ _ _ h => h) (Or.inl ⟨by rfl, ?_⟩) ?_ ?_
   rotate_left
   ·intro w'
    go_simp
    with_reducible rfl
   rotate_left
   ·simp only [Act.put, List.setIfInBounds_toArray, List.set_cons_zero, List.set_cons_succ, i64_w, i32_w]
    rfl
   refine last_ (i := 6) (N := none) (bs 7 127) rfl rfl (by kernel_rfl) (by decide) (fun K hK => ?_)
   refine skip_ (w1 := ?_) (by rfl) rfl ?_ ?_
   rotate_left
   ·go_simp
    rfl
   refine hK.out _ _ ?_
   clear hK K
   refine done_ (by kernel_rfl) ?_
   have n0_ : Aside0 (Kd.R (Kd.int .i64) 3 (w48.setCell ⟨go45, 1, none⟩ (.int .i64 (wrap64 (t319 - 1)))) w.heap.size (fun k_ => some k_ ≠ (u302001 : Value).ownBlock) (.slice (some ⟨go45, 0, none⟩) x302000_3.length co45) y322) := ⟨ra HQ49.out⟩
   have n1_ : Aside0 (Kd.R (Kd.int .i64) 3 (w48.setCell ⟨go45, 1, none⟩ (.int .i64 (wrap64 (t319 - 1)))) w.heap.size (fun k_ => some k_ ≠ (.slice (some ⟨go45, 0, none⟩) x302000_3.length co45 : Value).ownBlock) u302001 x302001_3) := ⟨ro_ (Kd.R_far (p := ⟨go45, 1, none⟩) (Kd.R_mono HO_302001.out (fun k_ hk => (⟨hk, fun e_ => hk (by rw [e_]; rfl)⟩ : _ ∧ k_ ≠ go45))) (fun _ hk => hk.2) (.int .i64 (wrap64 (t319 - 1)))) (fun _ hk => hk.1)⟩
   have n2_ : Aside0 (Kd.R k36 36 (w48.setCell ⟨go45, 1, none⟩ (.int .i64 (wrap64 (t319 - 1)))) w.heap.size (fun _ => True) u302002 x302002_3) := ⟨ro_ (Kd.R_far (p := ⟨go45, 1, none⟩) (Kd.R_types HO_302002.out GG45.out (by decide)) (fun _ hk => hk.2) (.int .i64 (wrap64 (t319 - 1)))) (fun _ hk => trivial)⟩
   have n3_ : Aside0 ((w48.setCell ⟨go45, 1, none⟩ (.int .i64 (wrap64 (t319 - 1)))).heap[gb282]? = some (.cells #[.slice none 0 0, .slice none 0 0, .slice none 0 0] 26 (0, 0))) := ⟨by (with_reducible repeat (first | refine blk_drewN ?_ _ | refine blk_drew ?_ | refine blk_alloc ?_ _)); refine blk_far ?_ (by have h_ := Kd.R_ne HO_302000.out BK282.out (by decide); intro e_; exact h_ (by rw [e_]; rfl)) _; (with_reducible repeat (first | refine blk_drewN ?_ _ | refine blk_drew ?_ | refine blk_alloc ?_ _)); exact BK282.out⟩
   have n4_ : Aside0 ((w48.setCell ⟨go45, 1, none⟩ (.int .i64 (wrap64 (t319 - 1)))).heap[gb301]? = some (.cells #[.slice (some ⟨go45, 0, none⟩) x302000_3.length co45, u302001, u302002] 26 (0, 0))) := ⟨by (with_reducible repeat (first | refine blk_drewN ?_ _ | refine blk_drew ?_ | refine blk_alloc ?_ _)); refine blk_far ?_ (by have h_ := Kd.R_ne HO_302000.out BK301.out (by decide); intro e_; exact h_ (by rw [e_]; rfl)) _; (with_reducible repeat (first | refine blk_drewN ?_ _ | refine blk_drew ?_ | refine blk_alloc ?_ _)); exact BK301.out⟩
   have n5_ : Aside0 (IsS47 w0 (w48.setCell ⟨go45, 1, none⟩ (.int .i64 (wrap64 (t319 - 1)))) g s0_0 t320 t321) := ⟨by repeat (first | (with_reducible first | exact HI0.out | apply IsS47.alloc | apply IsS47.drewN | apply IsS47.drew | apply IsS47.set_1 | apply IsS47.set_2 | refine IsS47.far ?_ HN0_go45.out _ | refine IsS47.far ?_ NB0_282.out _ | refine IsS47.far ?_ NB0_301.out _) | exact HI0.out)⟩
   have n6_ : Aside0 (KeepBut w (w48.setCell ⟨go45, 1, none⟩ (.int .i64 (wrap64 (t319 - 1)))) g none) := ⟨kb3_ HK GB45 GW282 GW301⟩
   have n7_ : Aside0 (Below w0.heap.size w0 (w48.setCell ⟨go45, 1, none⟩ (.int .i64 (wrap64 (t319 - 1))))) := ⟨by repeat (first | (with_reducible first | exact HB.out | apply below_alloc | apply pw_below_drewN | apply below_drew1 | refine below_set ?_ (Nat.le_trans HL.out GB45.out) | refine below_set ?_ (IsS47.ge HI0.out) | refine below_set ?_ GE282.out | refine below_set ?_ GE301.out) | exact HB.out)⟩
   (try clear HO_302000)
   (try clear HO_302001)
   (try clear HO_302002)
   (try clear BK282)
   (try clear BK301)
   (try clear HI0)
   (try clear HK)
   (try clear HB)
   generalize (w48.setCell ⟨go45, 1, none⟩ (.int .i64 (wrap64 (t319 - 1)))) = w50 at n0_ n1_ n2_ n3_ n4_ n5_ n6_ n7_ ⊢
   have HO_302000 := n0_
   have HO_302001 := n1_
   have HO_302002 := n2_
   have BK282 := n3_
   have BK301 := n4_
   have HI0 := n5_
   have HK := n6_
   have HB := n7_
   clear n0_ n1_ n2_ n3_ n4_ n5_ n6_ n7_
   obtain ⟨hnb51, hnc51⟩ := nn_ NB301_282
   obtain ⟨hnb52, hnc52⟩ := nn_ NB301_0
   obtain ⟨hcz53_0, hcz53_1, hcz53_2⟩ := bcs3_ BK301
   obtain ⟨hfz53_0, hfz53_1, hfz53_2⟩ := bz3_ BK301
   obtain ⟨hnb54, hnc54⟩ := nn_ NB282_0
   obtain ⟨hcz55_0, hcz55_1, hcz55_2⟩ := bcs3_ BK282
   obtain ⟨hfz55_0, hfz55_1, hfz55_2⟩ := bz3_ BK282
   obtain ⟨Ao56, co56, eo56⟩ := Kd.R_slice HO_302001.out
   subst eo56
   obtain ⟨Ao57, co57, eo57⟩ := Kd.R_slice HO_302002.out
   subst eo57
   try go_wp2
   refine bodyPost_ret (results_cell_row rfl _ _ gb282 26 #[.slice (some ⟨go45, 0, none⟩) x302000_3.length co45, .slice Ao56 x302001_3.length co56, .slice Ao57 x302002_3.length co57] (0, 0) _ rfl (bw0_ BK282) Try.underlying26 rfl (by kernel_rfl)) rfl ?_
   exact ⟨_, _, _, rt_, ro_ (fs3_ HO_302000.out BK282.out) (fun _ hk => hk.1), ro_ (fs3_ HO_302001.out BK282.out) (fun _ hk => hk.1), ro_ (fs3_ HO_302002.out BK282.out) (fun _ hk => trivial), by repeat (first | (with_reducible first | exact HI0.out | apply IsS47.alloc | apply IsS47.drewN | apply IsS47.drew | apply IsS47.set_1 | apply IsS47.set_2 | refine IsS47.far ?_ NB0_282.out _ | refine IsS47.far ?_ NB0_301.out _) | exact HI0.out), by repeat (first | (with_reducible first | exact HB.out | apply below_alloc | apply pw_below_drewN | apply below_drew1 | refine below_set ?_ (IsS47.ge HI0.out) | refine below_set ?_ GE282.out | refine below_set ?_ GE301.out) | exact HB.out), kb2_ HK GW282 GW301⟩

def slices_xorshift_Next.f (l0 : List Int) : Option (List Int × Int × Int) := some (l0, 0, 0)

end Go.Proofs.Ytefdgdloghhnaaa.P
