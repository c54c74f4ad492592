import Derived.Lib.LazyBuf
import Derived.Shelf.RegionOpenPlain
import Derived.Deep.RegionLaw
import Derived.Lib.SliceRun
import Derived.Sort.WalkB12
import Derived.Test.YtefdgdloghhnaaaF0
import Derived.Test.YtefdgdloghhnaaaF1
import Derived.Test.YtefdgdloghhnaaaF6
namespace Go.Proofs.Ytefdgdloghhnaaa.P
open Go.RowKit Go.Proofs.YtefdgdloghhnaaaW.PrintWords Go.Proofs.YtefdgdloghhnaaaW.PrintLast Go.Proofs.YtefdgdloghhnaaaW.PrintMore
attribute [local go_sem] max2_int min2_int max_two min_two max_three min_three max_four min_four   -- for this text's walks alone
set_option linter.unusedVariables false
set_option linter.unusedSimpArgs false
attribute [local go_sem high] eqA36

def spec_DrawStepPair.f (k : Nat) (l0 : List Int) : Option (List Int × List Int × (List (S36)) × Int × Int) := (slices_xorshift_Next.f l0).bind fun bt326 => ((spec_l1Cur_pair.f k bt326.1 bt326.2.1 bt326.2.2).bind fun bt330 => ((spec_l1Cur_pairSteps.f k bt326.1 bt330.2.2.2.1 bt330.2.2.2.2).bind fun bt342 => (if (bt342.1.length : Int) = 0 then (some (bt330.1, bt330.2.1, bt330.2.2.1, 4, 0)) else (if 0 < (bt342.1.length : Int) then (some (bt330.1, bt330.2.1, bt330.2.2.1, (rd_T28 bt342.1 0).f0, (rd_T28 bt342.1 0).f1)) else (none)))))
theorem spec_DrawStepPair.mono : ∀ a0 k, LeO (spec_DrawStepPair.f k a0) (spec_DrawStepPair.f (k + 1) a0) := by
 intro a0 k
 unfold spec_DrawStepPair.f
 repeat' first
   | (with_reducible exact spec_l1Cur_pair.mono _ _ _ _)
   | (with_reducible exact spec_l1Cur_pairSteps.mono _ _ _ _)
   | with_reducible first | exact LeO.refl _ | exact LeO.none _ | refine LeO.ite ?_ ?_ | refine LeO.bind ?_ fun _ => ?_
set_option maxHeartbeats 8000000 in
set_option maxRecDepth 100000 in
theorem spec_DrawStepPair.calls (k : Nat) (A0 : Option Addr) (c0 : Nat) (l0 : List Int) (r1 : List Int) (r2 : List Int) (r3 : List (S36)) (r4 : Int) (r5 : Int) (w : World) (hr0 : Kd.C (Kd.int .u8) w A0 l0.length l0) (hc0 : l0.length ≤ c0) (h : spec_DrawStepPair.f k l0 = some (r1, r2, r3, r4, r5)) :
  Calls Try.prog 4 #[.slice A0 l0.length c0] w fun e w' => ∃ v0_ v1_ v2_ : Value, e = .returned (.tuple #[.agg #[v0_, v1_, v2_], .agg #[.int .i64 r4, .int .i64 r5]]) ∧ Kd.R (Kd.int .i64) 3 w' w.heap.size (fun k_ => no_ v1_ k_) v0_ r1 ∧ Kd.R (Kd.int .i64) 3 w' w.heap.size (fun k_ => no_ v0_ k_) v1_ r2 ∧ Kd.R k36 36 w' w.heap.size (fun _ => True) v2_ r3 ∧ Below w.heap.size w w' := by
 have hu26 := Try.underlying26
 have hu28 := Try.underlying28
 have HR0 := Aside0.mk hr0
 have HC0 := Aside0.mk hc0
 clear hr0 hc0
 have HB := Aside0.mk (Below.refl w.heap.size w)
 have H : ((slices_xorshift_Next.f l0).bind fun bt326 => ((spec_l1Cur_pair.f k bt326.1 bt326.2.1 bt326.2.2).bind fun bt330 => ((spec_l1Cur_pairSteps.f k bt326.1 bt330.2.2.2.1 bt330.2.2.2.2).bind fun bt342 => (if (bt342.1.length : Int) = 0 then (some (bt330.1, bt330.2.1, bt330.2.2.1, 4, 0)) else (if 0 < (bt342.1.length : Int) then (some (bt330.1, bt330.2.1, bt330.2.2.1, (rd_T28 bt342.1 0).f0, (rd_T28 bt342.1 0).f1)) else (none)))))) = some (r1, r2, r3, r4, r5) := h
 clear h
 replace H := Option.bind_eq_some_iff.mp H
 obtain ⟨⟨t326, t327, t328⟩, A20, H⟩ := H
 replace H : ((spec_l1Cur_pair.f k t326 t327 t328).bind fun bt330 => ((spec_l1Cur_pairSteps.f k t326 bt330.2.2.2.1 bt330.2.2.2.2).bind fun bt342 => (if (bt342.1.length : Int) = 0 then (some (bt330.1, bt330.2.1, bt330.2.2.1, 4, 0)) else (if 0 < (bt342.1.length : Int) then (some (bt330.1, bt330.2.1, bt330.2.2.1, (rd_T28 bt342.1 0).f0, (rd_T28 bt342.1 0).f1)) else (none))))) = some (r1, r2, r3, r4, r5) := H
 have DE_A2 : Aside0 (t326 = l0 ∧ t327 = 0 ∧ t328 = 0) := ⟨by have h_ := A20; simp only [slices_xorshift_Next.f, Option.some.injEq, Prod.mk.injEq] at h_; exact ⟨h_.1.symm, h_.2.1.symm, h_.2.2.symm⟩⟩
 have A2 := Aside0.mk A20
 clear A20
 replace H := Option.bind_eq_some_iff.mp H
 obtain ⟨⟨t330, t333, t336, t339, t340⟩, A30, H⟩ := H
 replace H : ((spec_l1Cur_pairSteps.f k t326 t339 t340).bind fun bt342 => (if (bt342.1.length : Int) = 0 then (some (t330, t333, t336, 4, 0)) else (if 0 < (bt342.1.length : Int) then (some (t330, t333, t336, (rd_T28 bt342.1 0).f0, (rd_T28 bt342.1 0).f1)) else (none)))) = some (r1, r2, r3, r4, r5) := H
 have A3 := Aside0.mk A30
 clear A30
 replace H := Option.bind_eq_some_iff.mp H
 obtain ⟨⟨t342, t345, t346⟩, A40, H⟩ := H
 replace H : (if (t342.length : Int) = 0 then (some (t330, t333, t336, 4, 0)) else (if 0 < (t342.length : Int) then (some (t330, t333, t336, (rd_T28 t342 0).f0, (rd_T28 t342 0).f1)) else (none))) = some (r1, r2, r3, r4, r5) := H
 have A4 := Aside0.mk A40
 clear A40
 by_cases c5 : (t342.length : Int) = 0
 ·rw [if_pos c5] at H
  have c5b0 : ((t342.length : Int) == 0) = true := beq_iff_eq.mpr c5
  have c5b1 : ((t342.length : Int) != 0) = false := bne_eq_false_iff_eq.mpr c5
  clear c5
  simp only [Option.some.injEq, Prod.mk.injEq] at H
  obtain ⟨rfl, rfl, rfl, rfl, rfl⟩ := H
  go_enter Try.func4, Try.ntmps4
  go_wp2_with (first | ((with_reducible refine gate_dst (N := 2) rfl ?_); refine bx_ev 2 #[.slice none 0 0, .slice none 0 0, .slice none 0 0] 26 ?_; intro gb324 hg w6 hbox hb; have BK324 := Aside0.mk (hbox); have GW324 := gw_ hg HB; have GE324 := gw_ hg HB; replace HB := bst_ HB hb; clear hb hbox hg) | ((with_reducible refine gate_dst (N := 3) rfl ?_); refine bx_ev 3 #[.int .i64 0, .int .i64 0] 28 ?_; intro gb325 hg w7 hbox hb; have BK325 := Aside0.mk (hbox); have GW325 := gw_ hg HB; have GE325 := gw_ hg HB; have NB324_325 := nl_ hg BK324; have NB325_324 := ng_ hg BK324; replace BK324 := bb_ BK324 hb; replace HB := bst_ HB hb; clear hb hbox hg) | ((with_reducible refine gate_dst (N := 9) rfl ?_); refine bx_ev 9 #[.slice A0 l0.length c0, .int .i64 0, .int .u64 0] 47 ?_; intro g329 hg w8 hbox hb2; have hi : IsS47 w w8 g329 t326 t327 t328 := (by rw [DE_A2.out.1, DE_A2.out.2.1, DE_A2.out.2.2]; exact ⟨_, _, hbox, (gw_ hg HB).out, HR0.out⟩); have hb := (bst_ HB hb2).out; clear hg hbox; have HI329 := Aside0.mk (hi); have NB329_324 := Aside0.mk (IsS47.ne_blk hi (blk_below (g := gb324) (o := .cells #[.slice none 0 0, .slice none 0 0, .slice none 0 0] 26 (0, 0)) (ba BK324.out) hb2) (by decide)); have NB324_329 := Aside0.mk (Ne.symm (IsS47.ne_blk hi (blk_below (g := gb324) (o := .cells #[.slice none 0 0, .slice none 0 0, .slice none 0 0] 26 (0, 0)) (ba BK324.out) hb2) (by decide))); have NB329_325 := Aside0.mk (IsS47.ne_blk hi (blk_below (g := gb325) (o := .cells #[.int .i64 0, .int .i64 0] 28 (0, 0)) (ba BK325.out) hb2) (by decide)); have NB325_329 := Aside0.mk (Ne.symm (IsS47.ne_blk hi (blk_below (g := gb325) (o := .cells #[.int .i64 0, .int .i64 0] 28 (0, 0)) (ba BK325.out) hb2) (by decide))); replace BK324 := Aside0.mk (blk_below (g := gb324) (o := .cells #[.slice none 0 0, .slice none 0 0, .slice none 0 0] 26 (0, 0)) (ba BK324.out) hb2); replace BK325 := Aside0.mk (blk_below (g := gb325) (o := .cells #[.int .i64 0, .int .i64 0] 28 (0, 0)) (ba BK325.out) hb2); replace HB := Aside0.mk (hb); clear hb hb2 hi) | ((with_reducible refine gate_dst (N := 11) rfl ?_); refine goesL_ (some 11) rfl rfl Try.func18 (by kernel_rfl) rfl #[.pointer (some ⟨g329, 0, none⟩)] rfl tm_ ?_; (with_reducible refine (spec_l1Cur_pair.calls k g329 t326 t327 t328 t330 t333 t336 t339 t340 w _ ?side1 ?side2 A3.out).mono ?_); (case side1 => repeat (first | (with_reducible first | exact HI329.out | apply IsS47.alloc | apply IsS47.drewN | apply IsS47.drew | apply IsS47.set_1 | apply IsS47.set_2 | refine IsS47.far ?_ NB329_324.out _ | refine IsS47.far ?_ NB329_325.out _) | exact HI329.out)); (case side2 => repeat (first | (with_reducible first | exact HB.out | apply below_alloc | apply pw_below_drewN | apply below_drew1 | refine below_set ?_ (IsS47.ge HI329.out) | refine below_set ?_ GE324.out | refine below_set ?_ GE325.out) | exact HB.out)); rintro e w9 ⟨v331, v334, v337, rfl, ho0, ho1, ho2, hi, hb, hk⟩; refine ⟨_, rfl, ?_⟩; have HO332 := Aside0.mk (Kd.R_lower ho0 (below_size (by repeat (first | (with_reducible first | exact HB.out | apply below_alloc | apply pw_below_drewN | apply below_drew1 | refine below_set ?_ (IsS47.ge HI329.out) | refine below_set ?_ GE324.out | refine below_set ?_ GE325.out) | exact HB.out)))); have HO335 := Aside0.mk (Kd.R_lower ho1 (below_size (by repeat (first | (with_reducible first | exact HB.out | apply below_alloc | apply pw_below_drewN | apply below_drew1 | refine below_set ?_ (IsS47.ge HI329.out) | refine below_set ?_ GE324.out | refine below_set ?_ GE325.out) | exact HB.out)))); have HO338 := Aside0.mk (Kd.R_lower ho2 (below_size (by repeat (first | (with_reducible first | exact HB.out | apply below_alloc | apply pw_below_drewN | apply below_drew1 | refine below_set ?_ (IsS47.ge HI329.out) | refine below_set ?_ GE324.out | refine below_set ?_ GE325.out) | exact HB.out)))); replace BK324 := Aside0.mk (KeepBut.blk hk (g' := gb324) (o := .cells #[.slice none 0 0, .slice none 0 0, .slice none 0 0] 26 (0, 0)) (ba BK324.out) NB324_329.out (by simp)); replace BK325 := Aside0.mk (KeepBut.blk hk (g' := gb325) (o := .cells #[.int .i64 0, .int .i64 0] 28 (0, 0)) (ba BK325.out) NB325_329.out (by simp)); replace HB := Aside0.mk (hb); replace HI329 := Aside0.mk (hi); clear hb hk hi ho0 ho1 ho2) | ((with_reducible refine gate_dst (N := 5) rfl ?_); refine bx_ev 5 #[.slice none 0 0, .slice none 0 0, .slice none 0 0] 26 ?_; intro gb341 hg w10 hbox hb; have BK341 := Aside0.mk (hbox); have GW341 := Aside0.mk ((by rw [hg]; exact (below_size (by repeat (first | (with_reducible first | exact HB.out | apply below_alloc | apply pw_below_drewN | apply below_drew1 | refine below_set ?_ (IsS47.ge HI329.out) | refine below_set ?_ GE324.out | refine below_set ?_ GE325.out) | exact HB.out))) : w.heap.size ≤ gb341)); have GE341 := Aside0.mk ((by rw [hg]; exact (below_size (by repeat (first | (with_reducible first | exact HB.out | apply below_alloc | apply pw_below_drewN | apply below_drew1 | refine below_set ?_ (IsS47.ge HI329.out) | refine below_set ?_ GE324.out | refine below_set ?_ GE325.out) | exact HB.out))) : w.heap.size ≤ gb341)); have NB324_341 := nl_ hg BK324; have NB341_324 := ng_ hg BK324; have NB325_341 := nl_ hg BK325; have NB341_325 := ng_ hg BK325; have NB329_341 := Aside0.mk ((by rw [hg]; exact Nat.ne_of_lt (IsS47.lt (show IsS47 w _ g329 t326 t339 t340 from by repeat (first | (with_reducible first | exact HI329.out | apply IsS47.alloc | apply IsS47.drewN | apply IsS47.drew | apply IsS47.set_1 | apply IsS47.set_2 | refine IsS47.far ?_ NB329_324.out _ | refine IsS47.far ?_ NB329_325.out _) | exact HI329.out))) : g329 ≠ gb341)); have NB341_329 := Aside0.mk ((by rw [hg]; exact Nat.ne_of_gt (IsS47.lt (show IsS47 w _ g329 t326 t339 t340 from by repeat (first | (with_reducible first | exact HI329.out | apply IsS47.alloc | apply IsS47.drewN | apply IsS47.drew | apply IsS47.set_1 | apply IsS47.set_2 | refine IsS47.far ?_ NB329_324.out _ | refine IsS47.far ?_ NB329_325.out _) | exact HI329.out))) : gb341 ≠ g329)); replace HO332 := rb_ HO332 hb; replace HO335 := rb_ HO335 hb; replace HO338 := rb_ HO338 hb; replace BK324 := bb_ BK324 hb; replace BK325 := bb_ BK325 hb; replace HB := Aside0.mk (below_step (by repeat (first | (with_reducible first | exact HB.out | apply below_alloc | apply pw_below_drewN | apply below_drew1 | refine below_set ?_ (IsS47.ge HI329.out) | refine below_set ?_ GE324.out | refine below_set ?_ GE325.out) | exact HB.out)) hb); replace HI329 := Aside0.mk (IsS47.below (by repeat (first | (with_reducible first | exact HI329.out | apply IsS47.alloc | apply IsS47.drewN | apply IsS47.drew | apply IsS47.set_1 | apply IsS47.set_2 | refine IsS47.far ?_ NB329_324.out _ | refine IsS47.far ?_ NB329_325.out _) | exact HI329.out)) hb); clear hb hbox hg; obtain ⟨Ao11, co11, eo11⟩ := Kd.R_slice HO332.out; subst eo11; obtain ⟨hnb12, hnc12⟩ := nn_ NB341_324; obtain ⟨hnb13, hnc13⟩ := nn_ NB341_325; obtain ⟨hnb14, hnc14⟩ := nn_ NB341_329; obtain ⟨hcz15_0, hcz15_1, hcz15_2⟩ := bcs3_ BK341; obtain ⟨hfz15_0, hfz15_1, hfz15_2⟩ := bz3_ BK341; obtain ⟨Ao16, co16, eo16⟩ := Kd.R_slice HO335.out; subst eo16; obtain ⟨Ao17, co17, eo17⟩ := Kd.R_slice HO338.out; subst eo17) | ((with_reducible refine gate_dst (N := 13) rfl ?_); refine goesL_ (some 13) rfl rfl Try.func19 (by kernel_rfl) rfl #[.pointer (some ⟨g329, 0, none⟩)] rfl tm_ ?_; (with_reducible refine (spec_l1Cur_pairSteps.calls k g329 t326 t339 t340 t342 t345 t346 w _ ?side1 ?side2 A4.out).mono ?_); (case side1 => repeat (first | (with_reducible first | exact HI329.out | apply IsS47.alloc | apply IsS47.drewN | apply IsS47.drew | apply IsS47.set_1 | apply IsS47.set_2 | refine IsS47.far ?_ NB329_324.out _ | refine IsS47.far ?_ NB329_325.out _ | refine IsS47.far ?_ NB329_341.out _) | exact HI329.out)); (case side2 => repeat (first | (with_reducible first | exact HB.out | apply below_alloc | apply pw_below_drewN | apply below_drew1 | refine below_set ?_ (IsS47.ge HI329.out) | refine below_set ?_ GE324.out | refine below_set ?_ GE325.out | refine below_set ?_ GE341.out) | exact HB.out)); rintro e w18 ⟨v343, rfl, ho0, hi, hb, hk⟩; refine ⟨_, rfl, ?_⟩; have HO344 := Aside0.mk (Kd.R_lower (Kd.R_newB ho0 (g := gb325) (o := .cells #[.int .i64 0, .int .i64 0] 28 (0, 0)) (bx BK325)) (below_size (by repeat (first | (with_reducible first | exact HB.out | apply below_alloc | apply pw_below_drewN | apply below_drew1 | refine below_set ?_ (IsS47.ge HI329.out) | refine below_set ?_ GE324.out | refine below_set ?_ GE325.out | refine below_set ?_ GE341.out) | exact HB.out)))); replace BK324 := Aside0.mk (KeepBut.blk hk (g' := gb324) (o := .cells #[.slice none 0 0, .slice none 0 0, .slice none 0 0] 26 (0, 0)) (bx BK324) NB324_329.out (by simp)); replace BK325 := Aside0.mk (KeepBut.blk hk (g' := gb325) (o := .cells #[.int .i64 0, .int .i64 0] 28 (0, 0)) (bx BK325) NB325_329.out (by simp)); replace HO332 := Aside0.mk (Kd.R_mono (Kd.R_keep (IsS47.apart (show IsS47 w _ g329 t326 t339 t340 from by repeat (first | (with_reducible first | exact HI329.out | apply IsS47.alloc | apply IsS47.drewN | apply IsS47.drew | apply IsS47.set_1 | apply IsS47.set_2 | refine IsS47.far ?_ NB329_324.out _ | refine IsS47.far ?_ NB329_325.out _ | refine IsS47.far ?_ NB329_341.out _) | exact HI329.out)) (ra (fm3_ HO332 BK341)) (by decide)) hk (fun _ h => h.2)) (fun _ h => h.1)); replace HO335 := Aside0.mk (Kd.R_mono (Kd.R_keep (IsS47.apart (show IsS47 w _ g329 t326 t339 t340 from by repeat (first | (with_reducible first | exact HI329.out | apply IsS47.alloc | apply IsS47.drewN | apply IsS47.drew | apply IsS47.set_1 | apply IsS47.set_2 | refine IsS47.far ?_ NB329_324.out _ | refine IsS47.far ?_ NB329_325.out _ | refine IsS47.far ?_ NB329_341.out _) | exact HI329.out)) (ra (fm3_ HO335 BK341)) (by decide)) hk (fun _ h => h.2)) (fun _ h => h.1)); replace HO338 := Aside0.mk (Kd.R_mono (Kd.R_keep (IsS47.apart (show IsS47 w _ g329 t326 t339 t340 from by repeat (first | (with_reducible first | exact HI329.out | apply IsS47.alloc | apply IsS47.drewN | apply IsS47.drew | apply IsS47.set_1 | apply IsS47.set_2 | refine IsS47.far ?_ NB329_324.out _ | refine IsS47.far ?_ NB329_325.out _ | refine IsS47.far ?_ NB329_341.out _) | exact HI329.out)) (ra (fm3_ HO338 BK341)) (by decide)) hk (fun _ h => h.2)) (fun _ h => h.1)); replace BK341 := Aside0.mk (KeepBut.blk hk (g' := gb341) (o := .cells #[.slice Ao11 t330.length co11, .slice Ao16 t333.length co16, .slice Ao17 t336.length co17] 26 (0, 0)) (bw0_ BK341) NB341_329.out (by simp)); replace HB := Aside0.mk (hb); replace HI329 := Aside0.mk (hi); clear hb hk hi ho0; obtain ⟨Ao19, co19, eo19⟩ := Kd.R_slice HO344.out; subst eo19; obtain ⟨hcz20_0, hcz20_1, hcz20_2⟩ := bcs3_ BK341; obtain ⟨hfz20_0, hfz20_1, hfz20_2⟩ := bz3_ BK341; obtain ⟨hnb21, hnc21⟩ := nn_ NB324_325; obtain ⟨hnb22, hnc22⟩ := nn_ NB324_329; obtain ⟨hcz23_0, hcz23_1, hcz23_2⟩ := bcs3_ BK324; obtain ⟨hfz23_0, hfz23_1, hfz23_2⟩ := bz3_ BK324; obtain ⟨hnb24, hnc24⟩ := nn_ NB325_329; obtain ⟨hcz25_0, hcz25_1⟩ := bcs2_ BK325; obtain ⟨hfz25_0, hfz25_1⟩ := bz2_ BK325))
  refine bodyPost_ret (results_cc rfl _ _ gb324 gb325 26 28 #[.slice Ao11 t330.length co11, .slice Ao16 t333.length co16, .slice Ao17 t336.length co17] #[.int .i64 4, .int .i64 0] (0, 0) (0, 0) _ _ rfl (bw1_ BK324 NB324_325) Try.underlying26 rfl (by kernel_rfl) rfl (bw1_ BK325 NB325_324) Try.underlying28 rfl (by kernel_rfl)) rfl ?_
  exact ⟨_, _, _, rt_, ro_ (Kd.R_far (p := ⟨gb325, 1, none⟩) (Kd.R_far (p := ⟨gb325, 0, none⟩) (Kd.R_far (p := ⟨gb324, 2, none⟩) (Kd.R_far (p := ⟨gb324, 1, none⟩) (Kd.R_far (p := ⟨gb324, 0, none⟩) (Kd.R_types (Kd.R_types HO332.out BK324.out (by decide)) BK325.out (by decide)) (fun _ hk => hk.1.2) (.slice Ao11 t330.length co11)) (fun _ hk => hk.1.2) (.slice Ao16 t333.length co16)) (fun _ hk => hk.1.2) (.slice Ao17 t336.length co17)) (fun _ hk => hk.2) (.int .i64 4)) (fun _ hk => hk.2) (.int .i64 0)) (fun _ hk => hk.1.1), ro_ (Kd.R_far (p := ⟨gb325, 1, none⟩) (Kd.R_far (p := ⟨gb325, 0, none⟩) (Kd.R_far (p := ⟨gb324, 2, none⟩) (Kd.R_far (p := ⟨gb324, 1, none⟩) (Kd.R_far (p := ⟨gb324, 0, none⟩) (Kd.R_types (Kd.R_types HO335.out BK324.out (by decide)) BK325.out (by decide)) (fun _ hk => hk.1.2) (.slice Ao11 t330.length co11)) (fun _ hk => hk.1.2) (.slice Ao16 t333.length co16)) (fun _ hk => hk.1.2) (.slice Ao17 t336.length co17)) (fun _ hk => hk.2) (.int .i64 4)) (fun _ hk => hk.2) (.int .i64 0)) (fun _ hk => hk.1.1), ro_ (Kd.R_far (p := ⟨gb325, 1, none⟩) (Kd.R_far (p := ⟨gb325, 0, none⟩) (Kd.R_far (p := ⟨gb324, 2, none⟩) (Kd.R_far (p := ⟨gb324, 1, none⟩) (Kd.R_far (p := ⟨gb324, 0, none⟩) (Kd.R_types (Kd.R_types HO338.out BK324.out (by decide)) BK325.out (by decide)) (fun _ hk => hk.1.2) (.slice Ao11 t330.length co11)) (fun _ hk => hk.1.2) (.slice Ao16 t333.length co16)) (fun _ hk => hk.1.2) (.slice Ao17 t336.length co17)) (fun _ hk => hk.2) (.int .i64 4)) (fun _ hk => hk.2) (.int .i64 0)) (fun _ hk => trivial), by repeat (first | (with_reducible first | exact HB.out | apply below_alloc | apply pw_below_drewN | apply below_drew1 | refine below_set ?_ (IsS47.ge HI329.out) | refine below_set ?_ GE324.out | refine below_set ?_ GE325.out | refine below_set ?_ GE341.out) | exact HB.out)⟩
 rw [if_neg c5] at H
 have c5b0 : ((t342.length : Int) == 0) = false := beq_eq_false_iff_ne.mpr c5
 have c5b1 : ((t342.length : Int) != 0) = true := bne_iff_ne.mpr c5
 have c5b2 : ¬ (t342 = []) := fun h_ => c5 (by rw [h_]; rfl)
 by_cases c26 : 0 < (t342.length : Int)
 rotate_left
 ·rw [if_neg c26] at H
  exact absurd H (by simp)
 rw [if_pos c26] at H
 have c26b0 : decide (0 < (t342.length : Int)) = true := decide_eq_true c26
 have c26b1 : decide (0 < t342.length) = true := decide_eq_true (by omega)
 clear c26
 simp only [Option.some.injEq, Prod.mk.injEq] at H
 obtain ⟨rfl, rfl, rfl, rfl, rfl⟩ := H
 go_enter Try.func4, Try.ntmps4
 try go_wp2_with (first | ((with_reducible refine gate_dst (N := 2) rfl ?_); refine bx_ev 2 #[.slice none 0 0, .slice none 0 0, .slice none 0 0] 26 ?_; intro gb324 hg w27 hbox hb; have BK324 := Aside0.mk (hbox); have GW324 := gw_ hg HB; have GE324 := gw_ hg HB; replace HB := bst_ HB hb; clear hb hbox hg) | ((with_reducible refine gate_dst (N := 3) rfl ?_); refine bx_ev 3 #[.int .i64 0, .int .i64 0] 28 ?_; intro gb325 hg w28 hbox hb; have BK325 := Aside0.mk (hbox); have GW325 := gw_ hg HB; have GE325 := gw_ hg HB; have NB324_325 := nl_ hg BK324; have NB325_324 := ng_ hg BK324; replace BK324 := bb_ BK324 hb; replace HB := bst_ HB hb; clear hb hbox hg) | ((with_reducible refine gate_dst (N := 9) rfl ?_); refine bx_ev 9 #[.slice A0 l0.length c0, .int .i64 0, .int .u64 0] 47 ?_; intro g329 hg w29 hbox hb2; have hi : IsS47 w w29 g329 t326 t327 t328 := (by rw [DE_A2.out.1, DE_A2.out.2.1, DE_A2.out.2.2]; exact ⟨_, _, hbox, (gw_ hg HB).out, HR0.out⟩); have hb := (bst_ HB hb2).out; clear hg hbox; have HI329 := Aside0.mk (hi); have NB329_324 := Aside0.mk (IsS47.ne_blk hi (blk_below (g := gb324) (o := .cells #[.slice none 0 0, .slice none 0 0, .slice none 0 0] 26 (0, 0)) (ba BK324.out) hb2) (by decide)); have NB324_329 := Aside0.mk (Ne.symm (IsS47.ne_blk hi (blk_below (g := gb324) (o := .cells #[.slice none 0 0, .slice none 0 0, .slice none 0 0] 26 (0, 0)) (ba BK324.out) hb2) (by decide))); have NB329_325 := Aside0.mk (IsS47.ne_blk hi (blk_below (g := gb325) (o := .cells #[.int .i64 0, .int .i64 0] 28 (0, 0)) (ba BK325.out) hb2) (by decide)); have NB325_329 := Aside0.mk (Ne.symm (IsS47.ne_blk hi (blk_below (g := gb325) (o := .cells #[.int .i64 0, .int .i64 0] 28 (0, 0)) (ba BK325.out) hb2) (by decide))); replace BK324 := Aside0.mk (blk_below (g := gb324) (o := .cells #[.slice none 0 0, .slice none 0 0, .slice none 0 0] 26 (0, 0)) (ba BK324.out) hb2); replace BK325 := Aside0.mk (blk_below (g := gb325) (o := .cells #[.int .i64 0, .int .i64 0] 28 (0, 0)) (ba BK325.out) hb2); replace HB := Aside0.mk (hb); clear hb hb2 hi) | ((with_reducible refine gate_dst (N := 11) rfl ?_); refine goesL_ (some 11) rfl rfl Try.func18 (by kernel_rfl) rfl #[.pointer (some ⟨g329, 0, none⟩)] rfl tm_ ?_; (with_reducible refine (spec_l1Cur_pair.calls k g329 t326 t327 t328 t330 t333 t336 t339 t340 w _ ?side1 ?side2 A3.out).mono ?_); (case side1 => repeat (first | (with_reducible first | exact HI329.out | apply IsS47.alloc | apply IsS47.drewN | apply IsS47.drew | apply IsS47.set_1 | apply IsS47.set_2 | refine IsS47.far ?_ NB329_324.out _ | refine IsS47.far ?_ NB329_325.out _) | exact HI329.out)); (case side2 => repeat (first | (with_reducible first | exact HB.out | apply below_alloc | apply pw_below_drewN | apply below_drew1 | refine below_set ?_ (IsS47.ge HI329.out) | refine below_set ?_ GE324.out | refine below_set ?_ GE325.out) | exact HB.out)); rintro e w30 ⟨v331, v334, v337, rfl, ho0, ho1, ho2, hi, hb, hk⟩; refine ⟨_, rfl, ?_⟩; have HO332 := Aside0.mk (Kd.R_lower ho0 (below_size (by repeat (first | (with_reducible first | exact HB.out | apply below_alloc | apply pw_below_drewN | apply below_drew1 | refine below_set ?_ (IsS47.ge HI329.out) | refine below_set ?_ GE324.out | refine below_set ?_ GE325.out) | exact HB.out)))); have HO335 := Aside0.mk (Kd.R_lower ho1 (below_size (by repeat (first | (with_reducible first | exact HB.out | apply below_alloc | apply pw_below_drewN | apply below_drew1 | refine below_set ?_ (IsS47.ge HI329.out) | refine below_set ?_ GE324.out | refine below_set ?_ GE325.out) | exact HB.out)))); have HO338 := Aside0.mk (Kd.R_lower ho2 (below_size (by repeat (first | (with_reducible first | exact HB.out | apply below_alloc | apply pw_below_drewN | apply below_drew1 | refine below_set ?_ (IsS47.ge HI329.out) | refine below_set ?_ GE324.out | refine below_set ?_ GE325.out) | exact HB.out)))); replace BK324 := Aside0.mk (KeepBut.blk hk (g' := gb324) (o := .cells #[.slice none 0 0, .slice none 0 0, .slice none 0 0] 26 (0, 0)) (ba BK324.out) NB324_329.out (by simp)); replace BK325 := Aside0.mk (KeepBut.blk hk (g' := gb325) (o := .cells #[.int .i64 0, .int .i64 0] 28 (0, 0)) (ba BK325.out) NB325_329.out (by simp)); replace HB := Aside0.mk (hb); replace HI329 := Aside0.mk (hi); clear hb hk hi ho0 ho1 ho2) | ((with_reducible refine gate_dst (N := 5) rfl ?_); refine bx_ev 5 #[.slice none 0 0, .slice none 0 0, .slice none 0 0] 26 ?_; intro gb341 hg w31 hbox hb; have BK341 := Aside0.mk (hbox); have GW341 := Aside0.mk ((by rw [hg]; exact (below_size (by repeat (first | (with_reducible first | exact HB.out | apply below_alloc | apply pw_below_drewN | apply below_drew1 | refine below_set ?_ (IsS47.ge HI329.out) | refine below_set ?_ GE324.out | refine below_set ?_ GE325.out) | exact HB.out))) : w.heap.size ≤ gb341)); have GE341 := Aside0.mk ((by rw [hg]; exact (below_size (by repeat (first | (with_reducible first | exact HB.out | apply below_alloc | apply pw_below_drewN | apply below_drew1 | refine below_set ?_ (IsS47.ge HI329.out) | refine below_set ?_ GE324.out | refine below_set ?_ GE325.out) | exact HB.out))) : w.heap.size ≤ gb341)); have NB324_341 := nl_ hg BK324; have NB341_324 := ng_ hg BK324; have NB325_341 := nl_ hg BK325; have NB341_325 := ng_ hg BK325; have NB329_341 := Aside0.mk ((by rw [hg]; exact Nat.ne_of_lt (IsS47.lt (show IsS47 w _ g329 t326 t339 t340 from by repeat (first | (with_reducible first | exact HI329.out | apply IsS47.alloc | apply IsS47.drewN | apply IsS47.drew | apply IsS47.set_1 | apply IsS47.set_2 | refine IsS47.far ?_ NB329_324.out _ | refine IsS47.far ?_ NB329_325.out _) | exact HI329.out))) : g329 ≠ gb341)); have NB341_329 := Aside0.mk ((by rw [hg]; exact Nat.ne_of_gt (IsS47.lt (show IsS47 w _ g329 t326 t339 t340 from by repeat (first | (with_reducible first | exact HI329.out | apply IsS47.alloc | apply IsS47.drewN | apply IsS47.drew | apply IsS47.set_1 | apply IsS47.set_2 | refine IsS47.far ?_ NB329_324.out _ | refine IsS47.far ?_ NB329_325.out _) | exact HI329.out))) : gb341 ≠ g329)); replace HO332 := rb_ HO332 hb; replace HO335 := rb_ HO335 hb; replace HO338 := rb_ HO338 hb; replace BK324 := bb_ BK324 hb; replace BK325 := bb_ BK325 hb; replace HB := Aside0.mk (below_step (by repeat (first | (with_reducible first | exact HB.out | apply below_alloc | apply pw_below_drewN | apply below_drew1 | refine below_set ?_ (IsS47.ge HI329.out) | refine below_set ?_ GE324.out | refine below_set ?_ GE325.out) | exact HB.out)) hb); replace HI329 := Aside0.mk (IsS47.below (by repeat (first | (with_reducible first | exact HI329.out | apply IsS47.alloc | apply IsS47.drewN | apply IsS47.drew | apply IsS47.set_1 | apply IsS47.set_2 | refine IsS47.far ?_ NB329_324.out _ | refine IsS47.far ?_ NB329_325.out _) | exact HI329.out)) hb); clear hb hbox hg; obtain ⟨Ao32, co32, eo32⟩ := Kd.R_slice HO332.out; subst eo32; obtain ⟨hnb33, hnc33⟩ := nn_ NB341_324; obtain ⟨hnb34, hnc34⟩ := nn_ NB341_325; obtain ⟨hnb35, hnc35⟩ := nn_ NB341_329; obtain ⟨hcz36_0, hcz36_1, hcz36_2⟩ := bcs3_ BK341; obtain ⟨hfz36_0, hfz36_1, hfz36_2⟩ := bz3_ BK341; obtain ⟨Ao37, co37, eo37⟩ := Kd.R_slice HO335.out; subst eo37; obtain ⟨Ao38, co38, eo38⟩ := Kd.R_slice HO338.out; subst eo38) | ((with_reducible refine gate_dst (N := 13) rfl ?_); refine goesL_ (some 13) rfl rfl Try.func19 (by kernel_rfl) rfl #[.pointer (some ⟨g329, 0, none⟩)] rfl tm_ ?_; (with_reducible refine (spec_l1Cur_pairSteps.calls k g329 t326 t339 t340 t342 t345 t346 w _ ?side1 ?side2 A4.out).mono ?_); (case side1 => repeat (first | (with_reducible first | exact HI329.out | apply IsS47.alloc | apply IsS47.drewN | apply IsS47.drew | apply IsS47.set_1 | apply IsS47.set_2 | refine IsS47.far ?_ NB329_324.out _ | refine IsS47.far ?_ NB329_325.out _ | refine IsS47.far ?_ NB329_341.out _) | exact HI329.out)); (case side2 => repeat (first | (with_reducible first | exact HB.out | apply below_alloc | apply pw_below_drewN | apply below_drew1 | refine below_set ?_ (IsS47.ge HI329.out) | refine below_set ?_ GE324.out | refine below_set ?_ GE325.out | refine below_set ?_ GE341.out) | exact HB.out)); rintro e w39 ⟨v343, rfl, ho0, hi, hb, hk⟩; refine ⟨_, rfl, ?_⟩; have HO344 := Aside0.mk (Kd.R_lower (Kd.R_newB ho0 (g := gb325) (o := .cells #[.int .i64 0, .int .i64 0] 28 (0, 0)) (bx BK325)) (below_size (by repeat (first | (with_reducible first | exact HB.out | apply below_alloc | apply pw_below_drewN | apply below_drew1 | refine below_set ?_ (IsS47.ge HI329.out) | refine below_set ?_ GE324.out | refine below_set ?_ GE325.out | refine below_set ?_ GE341.out) | exact HB.out)))); replace BK324 := Aside0.mk (KeepBut.blk hk (g' := gb324) (o := .cells #[.slice none 0 0, .slice none 0 0, .slice none 0 0] 26 (0, 0)) (bx BK324) NB324_329.out (by simp)); replace BK325 := Aside0.mk (KeepBut.blk hk (g' := gb325) (o := .cells #[.int .i64 0, .int .i64 0] 28 (0, 0)) (bx BK325) NB325_329.out (by simp)); replace HO332 := Aside0.mk (Kd.R_mono (Kd.R_keep (IsS47.apart (show IsS47 w _ g329 t326 t339 t340 from by repeat (first | (with_reducible first | exact HI329.out | apply IsS47.alloc | apply IsS47.drewN | apply IsS47.drew | apply IsS47.set_1 | apply IsS47.set_2 | refine IsS47.far ?_ NB329_324.out _ | refine IsS47.far ?_ NB329_325.out _ | refine IsS47.far ?_ NB329_341.out _) | exact HI329.out)) (ra (fm3_ HO332 BK341)) (by decide)) hk (fun _ h => h.2)) (fun _ h => h.1)); replace HO335 := Aside0.mk (Kd.R_mono (Kd.R_keep (IsS47.apart (show IsS47 w _ g329 t326 t339 t340 from by repeat (first | (with_reducible first | exact HI329.out | apply IsS47.alloc | apply IsS47.drewN | apply IsS47.drew | apply IsS47.set_1 | apply IsS47.set_2 | refine IsS47.far ?_ NB329_324.out _ | refine IsS47.far ?_ NB329_325.out _ | refine IsS47.far ?_ NB329_341.out _) | exact HI329.out)) (ra (fm3_ HO335 BK341)) (by decide)) hk (fun _ h => h.2)) (fun _ h => h.1)); replace HO338 := Aside0.mk (Kd.R_mono (Kd.R_keep (IsS47.apart (show IsS47 w _ g329 t326 t339 t340 from by repeat (first | (with_reducible first | exact HI329.out | apply IsS47.alloc | apply IsS47.drewN | apply IsS47.drew | apply IsS47.set_1 | apply IsS47.set_2 | refine IsS47.far ?_ NB329_324.out _ | refine IsS47.far ?_ NB329_325.out _ | refine IsS47.far ?_ NB329_341.out _) | exact HI329.out)) (ra (fm3_ HO338 BK341)) (by decide)) hk (fun _ h => h.2)) (fun _ h => h.1)); replace BK341 := Aside0.mk (KeepBut.blk hk (g' := gb341) (o := .cells #[.slice Ao32 t330.length co32, .slice Ao37 t333.length co37, .slice Ao38 t336.length co38] 26 (0, 0)) (bw0_ BK341) NB341_329.out (by simp)); replace HB := Aside0.mk (hb); replace HI329 := Aside0.mk (hi); clear hb hk hi ho0; obtain ⟨Ao40, co40, eo40⟩ := Kd.R_slice HO344.out; subst eo40))
 replace HO332 := rd_ HO332
 replace HO335 := rd_ HO335
 replace HO338 := rd_ HO338
 replace HO344 := rd_ HO344
 replace BK324 := bd_ BK324
 replace BK325 := bd_ BK325
 replace BK341 := bd_ BK341
 replace HI329 := Aside0.mk (IsS47.drew HI329.out)
 replace HB := Aside0.mk (below_drew1 HB.out)
 have p347 : 0 ≤ (0 : Int) := (by omega)
 have q347 : 0 < (t342.length : Int) := od_
 obtain ⟨ad347, e347, hx347_0, hx347_1⟩ := at_T28 (Kd.R_reads' HO344.out).2.2 0 p347 q347
 cases e347
 have qi347 : (0 < t342.length) = True := eq_true (by omega)
 (try rw [show ((0 : Int)).toNat = 0 from rfl] at hx347_0)
 (try rw [show 0 * 2 = 0 from rfl] at hx347_0)
 (try rw [Addr.add_zero'] at hx347_0)
 (try rw [show ((0 : Int)).toNat = 0 from rfl] at hx347_1)
 (try rw [show 0 * 2 = 0 from rfl] at hx347_1)
 (try rw [Addr.add_zero'] at hx347_1)
 replace p347 := eq_true p347
 replace q347 := eq_true q347
 refine start_ (n := 6) (S := fun w' => w'.cell? ⟨gb341, 0, none⟩ = some (.slice Ao32 t330.length co32) ∧ w'.cell? ⟨gb341, 1, none⟩ = some (.slice Ao37 t333.length co37) ∧ w'.cell? ⟨gb341, 2, none⟩ = some (.slice Ao38 t336.length co38) ∧ w'.cell? ad347 = some (.int .i64 ((rd_T28 t342 0).f0)) ∧ w'.cell? ⟨ad347.block, ad347.off + 1, none⟩ = some (.int .i64 ((rd_T28 t342 0).f1))) (ds := []) (bs 6 0) (by kernel_rfl) rfl rfl ⟨bc_ BK341 0, bc_ BK341 1, bc_ BK341 2, hx347_0, hx347_1⟩ (fun hHeld => ?_)
 generalize w39.drew = w41 at HO332 HO335 HO338 HO344 BK324 BK325 BK341 HI329 HB hx347_0 hx347_1 hHeld ⊢
 refine pure_ (i := 1) (N := some 20) (v := ?_) (a' := ?_) (bs 6 2) rfl rfl (by kernel_rfl) (fun _ _ _ h => h) (Or.inl ⟨by rfl, ?_⟩) ?_ ?_
 rotate_left
 ·intro w'
  go_simp
  with_reducible rfl
 rotate_left
 ·simp only [Act.put, List.setIfInBounds_toArray, List.set_cons_zero, List.set_cons_succ, i64_w, i32_w]
  rfl
 refine pure_ (i := 2) (N := some 21) (v := ?_) (a' := ?_) (bs 6 6) rfl rfl (by kernel_rfl) (fun _ _ _ h => h) (Or.inl ⟨by rfl, ?_⟩) ?_ ?_
 rotate_left
 ·intro w'
  go_simp
  with_reducible rfl
 rotate_left
 ·simp only [Act.put, List.setIfInBounds_toArray, List.set_cons_zero, List.set_cons_succ, i64_w, i32_w]
  rfl
 refine take_ (i := 0) (N := some 19) (v := ?_) (a' := ?_) (bs 6 7) rfl rfl (by kernel_rfl) (fun _ _ _ h => h) (Or.inl ⟨by rfl, ?_⟩) hHeld ?_ ?_
 rotate_left
 ·rintro w' ⟨s0, s1, s2, s3, s4⟩
  go_simp
  with_reducible rfl
 rotate_left
 ·simp only [Act.put, List.setIfInBounds_toArray, List.set_cons_zero, List.set_cons_succ, i64_w, i32_w]
  rfl
 refine take_ (i := 3) (N := some 22) (v := ?_) (a' := ?_) (bs 6 15) rfl rfl (by kernel_rfl) (fun _ _ _ h => h) (Or.inl ⟨by rfl, ?_⟩) hHeld ?_ ?_
 rotate_left
 ·rintro w' ⟨s0, s1, s2, s3, s4⟩
  go_simp
  with_reducible rfl
 rotate_left
 ·simp only [Act.put, List.setIfInBounds_toArray, List.set_cons_zero, List.set_cons_succ, i64_w, i32_w]
  rfl
 refine one_ (i := 4) (N := none) (bs 6 31) rfl rfl (by kernel_rfl) (by decide) (fun K hK => ?_)
 have hs42 : w41.cell? ⟨gb324, 0, none⟩ = some (.slice none 0 0) := bc_ BK324 0
 have hfs42 := bz_ BK324 0
 have hns42_1 := NB325_324.out
 have hns42_2 := NB341_324.out
 have hms42_1 := NB324_325.out
 have hms42_2 := NB324_341.out
 have hs43 : w41.cell? ⟨gb324, 1, none⟩ = some (.slice none 0 0) := bc_ BK324 1
 have hfs43 := bz_ BK324 1
 have hns43_1 := NB325_324.out
 have hns43_2 := NB341_324.out
 have hms43_1 := NB324_325.out
 have hms43_2 := NB324_341.out
 have hs44 : w41.cell? ⟨gb324, 2, none⟩ = some (.slice none 0 0) := bc_ BK324 2
 have hfs44 := bz_ BK324 2
 have hns44_1 := NB325_324.out
 have hns44_2 := NB341_324.out
 have hms44_1 := NB324_325.out
 have hms44_2 := NB324_341.out
 refine skip_ (w1 := ?_) (by rfl) rfl ?_ ?_
 rotate_left
 ·go_simp
  rfl
 refine hK.out _ _ ⟨((cell_far (p := ⟨gb324, _, none⟩) NB341_324.out _).trans (((cell_far (p := ⟨gb324, _, none⟩) NB341_324.out _).trans (((cell_far (p := ⟨gb324, _, none⟩) NB341_324.out _).trans (hHeld.1)))))), ((cell_far (p := ⟨gb324, _, none⟩) NB341_324.out _).trans (((cell_far (p := ⟨gb324, _, none⟩) NB341_324.out _).trans (((cell_far (p := ⟨gb324, _, none⟩) NB341_324.out _).trans (hHeld.2.1)))))), ((cell_far (p := ⟨gb324, _, none⟩) NB341_324.out _).trans (((cell_far (p := ⟨gb324, _, none⟩) NB341_324.out _).trans (((cell_far (p := ⟨gb324, _, none⟩) NB341_324.out _).trans (hHeld.2.2.1)))))), ((cell_far (p := ⟨gb324, _, none⟩) (by first | exact Kd.own_blk (Kd.R_ne HO344.out BK324.out (by decide)) | (rw [add_block]; exact Kd.own_blk (Kd.R_ne HO344.out BK324.out (by decide))) | (show (Addr.add _ _).block ≠ _; rw [add_block]; exact Kd.own_blk (Kd.R_ne HO344.out BK324.out (by decide))) | (dsimp only; exact Kd.own_blk (Kd.R_ne HO344.out BK324.out (by decide)))) _).trans (((cell_far (p := ⟨gb324, _, none⟩) (by first | exact Kd.own_blk (Kd.R_ne HO344.out BK324.out (by decide)) | (rw [add_block]; exact Kd.own_blk (Kd.R_ne HO344.out BK324.out (by decide))) | (show (Addr.add _ _).block ≠ _; rw [add_block]; exact Kd.own_blk (Kd.R_ne HO344.out BK324.out (by decide))) | (dsimp only; exact Kd.own_blk (Kd.R_ne HO344.out BK324.out (by decide)))) _).trans (((cell_far (p := ⟨gb324, _, none⟩) (by first | exact Kd.own_blk (Kd.R_ne HO344.out BK324.out (by decide)) | (rw [add_block]; exact Kd.own_blk (Kd.R_ne HO344.out BK324.out (by decide))) | (show (Addr.add _ _).block ≠ _; rw [add_block]; exact Kd.own_blk (Kd.R_ne HO344.out BK324.out (by decide))) | (dsimp only; exact Kd.own_blk (Kd.R_ne HO344.out BK324.out (by decide)))) _).trans (hHeld.2.2.2.1)))))), ((cell_far (p := ⟨gb324, _, none⟩) (by first | exact Kd.own_blk (Kd.R_ne HO344.out BK324.out (by decide)) | (rw [add_block]; exact Kd.own_blk (Kd.R_ne HO344.out BK324.out (by decide))) | (show (Addr.add _ _).block ≠ _; rw [add_block]; exact Kd.own_blk (Kd.R_ne HO344.out BK324.out (by decide))) | (dsimp only; exact Kd.own_blk (Kd.R_ne HO344.out BK324.out (by decide)))) _).trans (((cell_far (p := ⟨gb324, _, none⟩) (by first | exact Kd.own_blk (Kd.R_ne HO344.out BK324.out (by decide)) | (rw [add_block]; exact Kd.own_blk (Kd.R_ne HO344.out BK324.out (by decide))) | (show (Addr.add _ _).block ≠ _; rw [add_block]; exact Kd.own_blk (Kd.R_ne HO344.out BK324.out (by decide))) | (dsimp only; exact Kd.own_blk (Kd.R_ne HO344.out BK324.out (by decide)))) _).trans (((cell_far (p := ⟨gb324, _, none⟩) (by first | exact Kd.own_blk (Kd.R_ne HO344.out BK324.out (by decide)) | (rw [add_block]; exact Kd.own_blk (Kd.R_ne HO344.out BK324.out (by decide))) | (show (Addr.add _ _).block ≠ _; rw [add_block]; exact Kd.own_blk (Kd.R_ne HO344.out BK324.out (by decide))) | (dsimp only; exact Kd.own_blk (Kd.R_ne HO344.out BK324.out (by decide)))) _).trans (hHeld.2.2.2.2))))))⟩ (fun hHeld => ?_)
 clear hK K
 refine one_ (i := 5) (N := none) (bs 6 63) rfl rfl (by kernel_rfl) (by decide) (fun K hK => ?_)
 have hs45 : w41.cell? ⟨gb325, 0, none⟩ = some (.int .i64 0) := bc_ BK325 0
 have hfs45 := bz_ BK325 0
 have hns45_0 := NB324_325.out
 have hns45_2 := NB341_325.out
 have hms45_0 := NB325_324.out
 have hms45_2 := NB325_341.out
 have hs46 : w41.cell? ⟨gb325, 1, none⟩ = some (.int .i64 0) := bc_ BK325 1
 have hfs46 := bz_ BK325 1
 have hns46_0 := NB324_325.out
 have hns46_2 := NB341_325.out
 have hms46_0 := NB325_324.out
 have hms46_2 := NB325_341.out
 refine skip_ (w1 := ?_) (by rfl) rfl ?_ ?_
 rotate_left
 ·go_simp
  rfl
 refine hK.out _ _ ⟨((cell_far (p := ⟨gb325, _, none⟩) NB341_325.out _).trans (((cell_far (p := ⟨gb325, _, none⟩) NB341_325.out _).trans (hHeld.1)))), ((cell_far (p := ⟨gb325, _, none⟩) NB341_325.out _).trans (((cell_far (p := ⟨gb325, _, none⟩) NB341_325.out _).trans (hHeld.2.1)))), ((cell_far (p := ⟨gb325, _, none⟩) NB341_325.out _).trans (((cell_far (p := ⟨gb325, _, none⟩) NB341_325.out _).trans (hHeld.2.2.1)))), ((cell_far (p := ⟨gb325, _, none⟩) (by first | exact Kd.own_blk (Kd.R_away HO344.out (fun _ hk => hk.2)) | (rw [add_block]; exact Kd.own_blk (Kd.R_away HO344.out (fun _ hk => hk.2))) | (show (Addr.add _ _).block ≠ _; rw [add_block]; exact Kd.own_blk (Kd.R_away HO344.out (fun _ hk => hk.2))) | (dsimp only; exact Kd.own_blk (Kd.R_away HO344.out (fun _ hk => hk.2)))) _).trans (((cell_far (p := ⟨gb325, _, none⟩) (by first | exact Kd.own_blk (Kd.R_away HO344.out (fun _ hk => hk.2)) | (rw [add_block]; exact Kd.own_blk (Kd.R_away HO344.out (fun _ hk => hk.2))) | (show (Addr.add _ _).block ≠ _; rw [add_block]; exact Kd.own_blk (Kd.R_away HO344.out (fun _ hk => hk.2))) | (dsimp only; exact Kd.own_blk (Kd.R_away HO344.out (fun _ hk => hk.2)))) _).trans (hHeld.2.2.2.1)))), ((cell_far (p := ⟨gb325, _, none⟩) (by first | exact Kd.own_blk (Kd.R_away HO344.out (fun _ hk => hk.2)) | (rw [add_block]; exact Kd.own_blk (Kd.R_away HO344.out (fun _ hk => hk.2))) | (show (Addr.add _ _).block ≠ _; rw [add_block]; exact Kd.own_blk (Kd.R_away HO344.out (fun _ hk => hk.2))) | (dsimp only; exact Kd.own_blk (Kd.R_away HO344.out (fun _ hk => hk.2)))) _).trans (((cell_far (p := ⟨gb325, _, none⟩) (by first | exact Kd.own_blk (Kd.R_away HO344.out (fun _ hk => hk.2)) | (rw [add_block]; exact Kd.own_blk (Kd.R_away HO344.out (fun _ hk => hk.2))) | (show (Addr.add _ _).block ≠ _; rw [add_block]; exact Kd.own_blk (Kd.R_away HO344.out (fun _ hk => hk.2))) | (dsimp only; exact Kd.own_blk (Kd.R_away HO344.out (fun _ hk => hk.2)))) _).trans (hHeld.2.2.2.2))))⟩ (fun hHeld => ?_)
 clear hK K
 refine done_ (by kernel_rfl) ?_
 try go_wp2
 refine bodyPost_ret (results_cc rfl _ _ gb324 gb325 26 28 #[.slice Ao32 t330.length co32, .slice Ao37 t333.length co37, .slice Ao38 t336.length co38] #[.int .i64 ((rd_T28 t342 0).f0), .int .i64 ((rd_T28 t342 0).f1)] (0, 0) (0, 0) _ _ rfl (bw1_ BK324 NB324_325) Try.underlying26 rfl (by kernel_rfl) rfl (bw1_ BK325 NB325_324) Try.underlying28 rfl (by kernel_rfl)) rfl ?_
 exact ⟨_, _, _, rt_, ro_ (Kd.R_far (p := ⟨gb325, 1, none⟩) (Kd.R_far (p := ⟨gb325, 0, none⟩) (Kd.R_far (p := ⟨gb324, 2, none⟩) (Kd.R_far (p := ⟨gb324, 1, none⟩) (Kd.R_far (p := ⟨gb324, 0, none⟩) (Kd.R_types (Kd.R_types HO332.out BK324.out (by decide)) BK325.out (by decide)) (fun _ hk => hk.1.2) (.slice Ao32 t330.length co32)) (fun _ hk => hk.1.2) (.slice Ao37 t333.length co37)) (fun _ hk => hk.1.2) (.slice Ao38 t336.length co38)) (fun _ hk => hk.2) (.int .i64 ((rd_T28 t342 0).f0))) (fun _ hk => hk.2) (.int .i64 ((rd_T28 t342 0).f1))) (fun _ hk => hk.1.1), ro_ (Kd.R_far (p := ⟨gb325, 1, none⟩) (Kd.R_far (p := ⟨gb325, 0, none⟩) (Kd.R_far (p := ⟨gb324, 2, none⟩) (Kd.R_far (p := ⟨gb324, 1, none⟩) (Kd.R_far (p := ⟨gb324, 0, none⟩) (Kd.R_types (Kd.R_types HO335.out BK324.out (by decide)) BK325.out (by decide)) (fun _ hk => hk.1.2) (.slice Ao32 t330.length co32)) (fun _ hk => hk.1.2) (.slice Ao37 t333.length co37)) (fun _ hk => hk.1.2) (.slice Ao38 t336.length co38)) (fun _ hk => hk.2) (.int .i64 ((rd_T28 t342 0).f0))) (fun _ hk => hk.2) (.int .i64 ((rd_T28 t342 0).f1))) (fun _ hk => hk.1.1), ro_ (Kd.R_far (p := ⟨gb325, 1, none⟩) (Kd.R_far (p := ⟨gb325, 0, none⟩) (Kd.R_far (p := ⟨gb324, 2, none⟩) (Kd.R_far (p := ⟨gb324, 1, none⟩) (Kd.R_far (p := ⟨gb324, 0, none⟩) (Kd.R_types (Kd.R_types HO338.out BK324.out (by decide)) BK325.out (by decide)) (fun _ hk => hk.1.2) (.slice Ao32 t330.length co32)) (fun _ hk => hk.1.2) (.slice Ao37 t333.length co37)) (fun _ hk => hk.1.2) (.slice Ao38 t336.length co38)) (fun _ hk => hk.2) (.int .i64 ((rd_T28 t342 0).f0))) (fun _ hk => hk.2) (.int .i64 ((rd_T28 t342 0).f1))) (fun _ hk => trivial), by repeat (first | (with_reducible first | exact HB.out | apply below_alloc | apply pw_below_drewN | apply below_drew1 | refine below_set ?_ (IsS47.ge HI329.out) | refine below_set ?_ GE324.out | refine below_set ?_ GE325.out | refine below_set ?_ GE341.out) | exact HB.out)⟩

def impl_in.f (a0 : Int) (a1 : Int) (a2 : Int) : Option (Bool) := if a0 ≥ a1 then (some (decide (a0 ≤ a2))) else (some false)
set_option maxHeartbeats 8000000 in
set_option maxRecDepth 100000 in
theorem impl_in.calls (a0 : Int) (a1 : Int) (a2 : Int) (r : Bool) (w : World) (h : impl_in.f a0 a1 a2 = some r) :
  Calls Try.prog 21 #[.int .i64 a0, .int .i64 a1, .int .i64 a2] w fun e w' => e = .returned (.bool r) ∧ Drawn0 w w' := by
 have H : (if a0 ≥ a1 then (some (decide (a0 ≤ a2))) else (some false)) = some r := h
 clear h
 by_cases c4 : a0 ≥ a1
 ·rw [if_pos c4] at H
  have c4b0 : decide (a1 ≤ a0) = true := decide_eq_true c4
  clear c4
  obtain rfl := Option.some.inj H
  go_enter Try.func21, Try.ntmps21
  go_wp2
  go_ret
  exact ⟨by first | rfl | (simp; done) | (simp [*]; done), by repeat (first | exact Drawn0.refl _ | apply Drawn0.step)⟩
 rw [if_neg c4] at H
 have c4b0 : decide (a1 ≤ a0) = false := decide_eq_false c4
 clear c4
 obtain rfl := Option.some.inj H
 go_enter Try.func21, Try.ntmps21
 go_wp2
 go_ret
 exact ⟨by first | rfl | (simp; done) | (simp [*]; done), by repeat (first | exact Drawn0.refl _ | apply Drawn0.step)⟩

def impl_allIn.l0 : Nat → Int → Int → List Int → Int → Int → Option (Bool)
 | 0, _, _, _, _, _ => none
 | k + 1, x1, x2, x9, x10, x11 => if x11 < x10 then (if 0 ≤ x11 then (if x11 < (x9.length : Int) then ((impl_in.f (rd x9 x11) x1 x2).bind fun t349 => (if t349 = true then (impl_allIn.l0 k x1 x2 x9 x10 (wrap64 (x11 + 1))) else (some false))) else (none)) else (none)) else (some true)
def impl_allIn.f (k : Nat) (l0 : List Int) (a1 : Int) (a2 : Int) : Option (Bool) := impl_allIn.l0 k a1 a2 l0 (l0.length : Int) 0
theorem impl_allIn.mono_l : ∀ k, (∀ y0 y1 y2 y3 y4, LeO (impl_allIn.l0 k y0 y1 y2 y3 y4) (impl_allIn.l0 (k + 1) y0 y1 y2 y3 y4))
 | 0 => fun _ _ _ _ _ r h => by simp [impl_allIn.l0] at h
 | k + 1 => by
  have ih0 := impl_allIn.mono_l k
  ·intro y0 y1 y2 y3 y4
   unfold impl_allIn.l0
   repeat' first
   | (with_reducible exact ih0 _ _ _ _ _)
   | with_reducible first | exact LeO.refl _ | exact LeO.none _ | refine LeO.ite ?_ ?_ | refine LeO.bind ?_ fun _ => ?_
theorem impl_allIn.mono : ∀ a0 a1 a2 k, LeO (impl_allIn.f k a0 a1 a2) (impl_allIn.f (k + 1) a0 a1 a2) := by
 intro a0 a1 a2 k
 have ih0 := impl_allIn.mono_l k
 unfold impl_allIn.f
 repeat' first
   | (with_reducible exact ih0 _ _ _ _ _)
   | with_reducible first | exact LeO.refl _ | exact LeO.none _ | refine LeO.ite ?_ ?_ | refine LeO.bind ?_ fun _ => ?_
set_option maxHeartbeats 8000000 in
set_option maxRecDepth 100000 in
theorem impl_allIn.calls (k : Nat) (A0 : Option Addr) (c0 : Nat) (l0 : List Int) (a1 : Int) (a2 : Int) (r : Bool) (w : World) (hr0 : Kd.C (Kd.int .i64) w A0 l0.length l0) (hc0 : l0.length ≤ c0) (h : impl_allIn.f k l0 a1 a2 = some r) :
  Calls Try.prog 27 #[.slice A0 l0.length c0, .int .i64 a1, .int .i64 a2] w fun e w' => e = .returned (.bool r) ∧ Drawn0 w w' := by
 have HR0 := Aside0.mk hr0
 have HC0 := Aside0.mk hc0
 clear hr0 hc0
 have H : (impl_allIn.l0 k a1 a2 l0 (l0.length : Int) 0) = some r := h
 clear h
 have H' := Aside0.mk H
 clear H
 go_enter Try.func27, Try.ntmps27
 go_wp2
 go_loopg [11] k (fun kq v11 w' => ∃ (x11_1 : Int), v11 = .int .i64 x11_1 ∧ Aside0 (impl_allIn.l0 kq a1 a2 l0 (l0.length : Int) x11_1 = some r) ∧ Aside0 (kq ≤ k) ∧ Drawn0 w w')
 case atStart => exact ⟨(0), (by first | rfl | (simp; done) | (simp [*]; done)), H', ⟨Nat.le_refl _⟩, by repeat (first | exact Drawn0.refl _ | apply Drawn0.step)⟩
 case round =>
  clear H'
  obtain ⟨x11_1, rfl, HA, HK1, ⟨m1, rfl⟩⟩ := hrel
  cases gk with
  | zero => exact absurd HA.out (by simp [impl_allIn.l0])
  | succ k1 =>
   have H := HA.out
   clear HA
   simp only [impl_allIn.l0] at H
   by_cases c4 : x11_1 < (l0.length : Int)
   rotate_left
   ·rw [if_neg c4] at H
    have c4b0 : decide (x11_1 < (l0.length : Int)) = false := decide_eq_false c4
    clear c4
    obtain rfl := Option.some.inj H
    go_wp2
    go_ret
    exact ⟨by first | rfl | (simp; done) | (simp [*]; done), by repeat (first | exact Drawn0.refl _ | apply Drawn0.step)⟩
   rw [if_pos c4] at H
   have c4b0 : decide (x11_1 < (l0.length : Int)) = true := decide_eq_true c4
   clear c4
   by_cases c5 : 0 ≤ x11_1
   rotate_left
   ·rw [if_neg c5] at H
    exact absurd H (by simp)
   rw [if_pos c5] at H
   have c5b0 : decide (0 ≤ x11_1) = true := decide_eq_true c5
   clear c5
   by_cases c6 : x11_1 < (l0.length : Int)
   rotate_left
   ·rw [if_neg c6] at H
    exact absurd H (by simp)
   rw [if_pos c6] at H
   have c6b0 : decide (x11_1 < (l0.length : Int)) = true := decide_eq_true c6
   clear c6
   replace H := Option.bind_eq_some_iff.mp H
   obtain ⟨t349, A70, H⟩ := H
   replace H : (if t349 = true then (impl_allIn.l0 k1 a1 a2 l0 (l0.length : Int) (wrap64 (x11_1 + 1))) else (some false)) = some r := H
   have A7 := Aside0.mk A70
   clear A70
   by_cases c8 : t349 = true
   rotate_left
   ·replace c8 := Bool.eq_false_iff.mpr c8
    subst c8
    rw [if_neg (show ¬ (false = true) by decide)] at H
    obtain rfl := Option.some.inj H
    have p348 : 0 ≤ (x11_1 : Int) := od_
    have q348 : x11_1 < (l0.length : Int) := od_
    obtain ⟨ad348, e348, hx348_0⟩ := Kd.at_int HR0.out x11_1 p348 q348
    cases e348
    replace p348 := eq_true p348
    replace q348 := eq_true q348
    go_wp2_with (first | ((with_reducible refine gate_dst (N := 18) rfl ?_); refine goesL_ (some 18) rfl rfl Try.func21 (by kernel_rfl) rfl #[.int .i64 (rd l0 x11_1), .int .i64 a1, .int .i64 a2] rfl tm_ ?_; (with_reducible refine (impl_in.calls (rd l0 x11_1) a1 a2 false _ A7.out).mono ?_); rintro e w' ⟨rfl, ⟨nd, rfl⟩⟩; refine ⟨_, rfl, ?_⟩))
    go_ret
    exact ⟨by first | rfl | (simp; done) | (simp [*]; done), by repeat (first | exact Drawn0.refl _ | apply Drawn0.step)⟩
   subst c8
   rw [if_pos rfl] at H
   have H' := Aside0.mk H
   clear H
   have p348 : 0 ≤ (x11_1 : Int) := od_
   have q348 : x11_1 < (l0.length : Int) := od_
   obtain ⟨ad348, e348, hx348_0⟩ := Kd.at_int HR0.out x11_1 p348 q348
   cases e348
   replace p348 := eq_true p348
   replace q348 := eq_true q348
   go_wp2_with (first | ((with_reducible refine gate_dst (N := 18) rfl ?_); refine goesL_ (some 18) rfl rfl Try.func21 (by kernel_rfl) rfl #[.int .i64 (rd l0 x11_1), .int .i64 a1, .int .i64 a2] rfl tm_ ?_; (with_reducible refine (impl_in.calls (rd l0 x11_1) a1 a2 true _ A7.out).mono ?_); rintro e w' ⟨rfl, ⟨nd, rfl⟩⟩; refine ⟨_, rfl, ?_⟩))
   go_roundg k1
   case measure => have := HK1.out; omega
   case rel => exact ⟨(wrap64 (x11_1 + 1)), (by first | rfl | (simp; done) | (simp [*]; done)), H', ⟨by have := HK1.out; omega⟩, by repeat (first | exact Drawn0.refl _ | apply Drawn0.step)⟩

mutual
def impl_GoodPair.j0 : Nat → Bool → List Int → List Int → List (S36) → Option (Bool)
 | 0, _, _, _, _ => none
 | k + 1, x34, x351000, x351001, x351002 => if x34 = true then (some false) else (impl_GoodPair.l0 k x351001 (x351001.length : Int) 0 x351000 x351001 x351002)
def impl_GoodPair.l0 : Nat → List Int → Int → Int → List Int → List Int → List (S36) → Option (Bool)
 | 0, _, _, _, _, _, _ => none
 | k + 1, x36, x37, x38, x351000, x351001, x351002 => if x38 < x37 then (if 0 ≤ x38 then (if x38 < (x36.length : Int) then (if x38 < (x351000.length : Int) then (if (((rd x36 x38) == 0) != ((rd x351000 x38) == 0)) = true then (some false) else (impl_GoodPair.l0 k x36 x37 (wrap64 (x38 + 1)) x351000 x351001 x351002)) else (none)) else (none)) else (none)) else (impl_GoodPair.l1 k x351002 (x351002.length : Int) 0)
def impl_GoodPair.l1 : Nat → List (S36) → Int → Int → Option (Bool)
 | 0, _, _, _ => none
 | k + 1, x54, x55, x56 => if x56 < x55 then (if 0 ≤ x56 then (if x56 < (x54.length : Int) then ((impl_in.f ((rd_T36 x54 x56).f0) 0 1).bind fun t357 => (if t357 = true then (impl_GoodPair.l1 k x54 x55 (wrap64 (x56 + 1))) else (some false))) else (none)) else (none)) else (some true)
end
def impl_GoodPair.f (k : Nat) (l0_0 : List Int) (l0_1 : List Int) (l0_2 : List (S36)) : Option (Bool) := if (l0_0.length : Int) = 2 then (if (l0_1.length : Int) = 2 then (if (l0_2.length : Int) > 12 then (impl_GoodPair.j0 k true l0_0 l0_1 l0_2) else ((impl_allIn.f k l0_0 0 2).bind fun t351 => (if t351 = true then ((impl_allIn.f k l0_1 0 3).bind fun t352 => (impl_GoodPair.j0 k (!t352) l0_0 l0_1 l0_2)) else (impl_GoodPair.j0 k true l0_0 l0_1 l0_2)))) else (impl_GoodPair.j0 k true l0_0 l0_1 l0_2)) else (impl_GoodPair.j0 k true l0_0 l0_1 l0_2)
theorem impl_GoodPair.mono_l : ∀ k, (∀ y0 y1 y2 y3, LeO (impl_GoodPair.j0 k y0 y1 y2 y3) (impl_GoodPair.j0 (k + 1) y0 y1 y2 y3)) ∧ (∀ y0 y1 y2 y3 y4 y5, LeO (impl_GoodPair.l0 k y0 y1 y2 y3 y4 y5) (impl_GoodPair.l0 (k + 1) y0 y1 y2 y3 y4 y5)) ∧ (∀ y0 y1 y2, LeO (impl_GoodPair.l1 k y0 y1 y2) (impl_GoodPair.l1 (k + 1) y0 y1 y2))
 | 0 => ⟨fun _ _ _ _ r h => by simp [impl_GoodPair.j0] at h, fun _ _ _ _ _ _ r h => by simp [impl_GoodPair.l0] at h, fun _ _ _ r h => by simp [impl_GoodPair.l1] at h⟩
 | k + 1 => by
  obtain ⟨ih0, ih1, ih2⟩ := impl_GoodPair.mono_l k
  refine ⟨?_, ?_, ?_⟩
  ·intro y0 y1 y2 y3
   unfold impl_GoodPair.j0
   repeat' first
   | (with_reducible exact ih0 _ _ _ _)
   | (with_reducible exact ih1 _ _ _ _ _ _)
   | (with_reducible exact ih2 _ _ _)
   | (with_reducible exact impl_allIn.mono _ _ _ _)
   | with_reducible first | exact LeO.refl _ | exact LeO.none _ | refine LeO.ite ?_ ?_ | refine LeO.bind ?_ fun _ => ?_
  ·intro y0 y1 y2 y3 y4 y5
   unfold impl_GoodPair.l0
   repeat' first
   | (with_reducible exact ih0 _ _ _ _)
   | (with_reducible exact ih1 _ _ _ _ _ _)
   | (with_reducible exact ih2 _ _ _)
   | (with_reducible exact impl_allIn.mono _ _ _ _)
   | with_reducible first | exact LeO.refl _ | exact LeO.none _ | refine LeO.ite ?_ ?_ | refine LeO.bind ?_ fun _ => ?_
  ·intro y0 y1 y2
   unfold impl_GoodPair.l1
   repeat' first
   | (with_reducible exact ih0 _ _ _ _)
   | (with_reducible exact ih1 _ _ _ _ _ _)
   | (with_reducible exact ih2 _ _ _)
   | (with_reducible exact impl_allIn.mono _ _ _ _)
   | with_reducible first | exact LeO.refl _ | exact LeO.none _ | refine LeO.ite ?_ ?_ | refine LeO.bind ?_ fun _ => ?_
theorem impl_GoodPair.mono : ∀ a0 a1 a2 k, LeO (impl_GoodPair.f k a0 a1 a2) (impl_GoodPair.f (k + 1) a0 a1 a2) := by
 intro a0 a1 a2 k
 obtain ⟨ih0, ih1, ih2⟩ := impl_GoodPair.mono_l k
 unfold impl_GoodPair.f
 repeat' first
   | (with_reducible exact ih0 _ _ _ _)
   | (with_reducible exact ih1 _ _ _ _ _ _)
   | (with_reducible exact ih2 _ _ _)
   | (with_reducible exact impl_allIn.mono _ _ _ _)
   | with_reducible first | exact LeO.refl _ | exact LeO.none _ | refine LeO.ite ?_ ?_ | refine LeO.bind ?_ fun _ => ?_
set_option maxHeartbeats 8000000 in
set_option maxRecDepth 100000 in
theorem impl_GoodPair.calls (k : Nat) (A0_0 : Option Addr) (c0_0 : Nat) (l0_0 : List Int) (A0_1 : Option Addr) (c0_1 : Nat) (l0_1 : List Int) (A0_2 : Option Addr) (c0_2 : Nat) (l0_2 : List (S36)) (r : Bool) (w : World) (hr0_0 : Kd.C (Kd.int .i64) w A0_0 l0_0.length l0_0) (hc0_0 : l0_0.length ≤ c0_0) (hr0_1 : Kd.C (Kd.int .i64) w A0_1 l0_1.length l0_1) (hc0_1 : l0_1.length ≤ c0_1) (hr0_2 : Kd.C k36 w A0_2 l0_2.length l0_2) (hc0_2 : l0_2.length ≤ c0_2) (h : impl_GoodPair.f k l0_0 l0_1 l0_2 = some r) :
  Calls Try.prog 8 #[.agg #[.slice A0_0 l0_0.length c0_0, .slice A0_1 l0_1.length c0_1, .slice A0_2 l0_2.length c0_2]] w fun e w' => e = .returned (.bool r) ∧ Below w.heap.size w w' := by
 have hu26 := Try.underlying26
 have hu36 := Try.underlying36
 have HR0_0 := Aside0.mk hr0_0
 have HC0_0 := Aside0.mk hc0_0
 clear hr0_0 hc0_0
 have HR0_1 := Aside0.mk hr0_1
 have HC0_1 := Aside0.mk hc0_1
 clear hr0_1 hc0_1
 have HR0_2 := Aside0.mk hr0_2
 have HC0_2 := Aside0.mk hc0_2
 clear hr0_2 hc0_2
 have HB := Aside0.mk (Below.refl w.heap.size w)
 have H : (if (l0_0.length : Int) = 2 then (if (l0_1.length : Int) = 2 then (if (l0_2.length : Int) > 12 then (impl_GoodPair.j0 k true l0_0 l0_1 l0_2) else ((impl_allIn.f k l0_0 0 2).bind fun t351 => (if t351 = true then ((impl_allIn.f k l0_1 0 3).bind fun t352 => (impl_GoodPair.j0 k (!t352) l0_0 l0_1 l0_2)) else (impl_GoodPair.j0 k true l0_0 l0_1 l0_2)))) else (impl_GoodPair.j0 k true l0_0 l0_1 l0_2)) else (impl_GoodPair.j0 k true l0_0 l0_1 l0_2)) = some r := h
 clear h
 have HC2 := Aside0.mk H
 clear H
 go_enter Try.func8, Try.ntmps8
 go_upto_region 1 with (first | ((with_reducible refine gate_dst (N := 1) rfl ?_); (try (refine gate_guard (by rfl) ?_; dsimp only)); refine bx_ev 1 #[.slice A0_0 l0_0.length c0_0, .slice A0_1 l0_1.length c0_1, .slice A0_2 l0_2.length c0_2] 26 ?_; intro gb350 hg w3 hbox hb; have BK350 := Aside0.mk (hbox); have GW350 := gw_ hg HB; have GE350 := gw_ hg HB; replace HB := bst_ HB hb; clear hb hbox hg))
 (try simp only [Act.put, List.setIfInBounds_toArray, List.set_cons_zero, List.set_cons_succ])
 go_cut [34] (fun v34 wc => ∃ (kq : Nat) (x34_1 : Bool), v34 = .bool x34_1 ∧ Aside0 (impl_GoodPair.j0 kq x34_1 l0_0 l0_1 l0_2 = some r) ∧ Aside0 (kq ≤ k) ∧ Aside0 (wc.heap[gb350]? = some (.cells #[(.slice A0_0 l0_0.length c0_0), (.slice A0_1 l0_1.length c0_1), (.slice A0_2 l0_2.length c0_2)] 26 (0, 0))) ∧ Aside0 (Below w.heap.size w wc))
 case first =>
  have H := HC2.out
  clear HC2
  by_cases c4 : (l0_0.length : Int) = 2
  rotate_left
  ·rw [if_neg c4] at H
   have c4b0 : ((l0_0.length : Int) == 2) = false := beq_eq_false_iff_ne.mpr c4
   have c4b1 : ((l0_0.length : Int) != 2) = true := bne_iff_ne.mpr c4
   (first | rw [c4b0] | (simp only [i64_w, i32_w]; rw [c4b0]) | skip)
   have H' := Aside0.mk H
   clear H
   obtain ⟨hcz14_0, hcz14_1, hcz14_2⟩ := bcs3_ BK350
   obtain ⟨hfz14_0, hfz14_1, hfz14_2⟩ := bz3_ BK350
   go_wp2
   go_meet
   case rel => exact ⟨_, (true), (by first | rfl | (simp; done) | (simp [*]; done)), H', ⟨by first | omega | exact Nat.le_refl _⟩, ⟨bw0_ BK350⟩, ⟨hB HB⟩⟩
  rw [if_pos c4] at H
  have c4b0 : ((l0_0.length : Int) == 2) = true := beq_iff_eq.mpr c4
  have c4b1 : ((l0_0.length : Int) != 2) = false := bne_eq_false_iff_eq.mpr c4
  clear c4
  (first | rw [c4b0] | (simp only [i64_w, i32_w]; rw [c4b0]) | skip)
  by_cases c5 : (l0_1.length : Int) = 2
  rotate_left
  ·rw [if_neg c5] at H
   have c5b0 : ((l0_1.length : Int) == 2) = false := beq_eq_false_iff_ne.mpr c5
   have c5b1 : ((l0_1.length : Int) != 2) = true := bne_iff_ne.mpr c5
   have H' := Aside0.mk H
   clear H
   obtain ⟨hcz13_0, hcz13_1, hcz13_2⟩ := bcs3_ BK350
   obtain ⟨hfz13_0, hfz13_1, hfz13_2⟩ := bz3_ BK350
   go_wp2
   go_meet
   case rel => exact ⟨_, (true), (by first | rfl | (simp; done) | (simp [*]; done)), H', ⟨by first | omega | exact Nat.le_refl _⟩, ⟨bw0_ BK350⟩, ⟨hB HB⟩⟩
  rw [if_pos c5] at H
  have c5b0 : ((l0_1.length : Int) == 2) = true := beq_iff_eq.mpr c5
  have c5b1 : ((l0_1.length : Int) != 2) = false := bne_eq_false_iff_eq.mpr c5
  clear c5
  by_cases c6 : (l0_2.length : Int) > 12
  ·rw [if_pos c6] at H
   have c6b0 : decide (12 < (l0_2.length : Int)) = true := decide_eq_true c6
   have c6b1 : decide (12 < l0_2.length) = true := decide_eq_true (by omega)
   clear c6
   have H' := Aside0.mk H
   clear H
   obtain ⟨hcz7_0, hcz7_1, hcz7_2⟩ := bcs3_ BK350
   obtain ⟨hfz7_0, hfz7_1, hfz7_2⟩ := bz3_ BK350
   go_wp2
   go_meet
   case rel => exact ⟨_, (true), (by first | rfl | (simp; done) | (simp [*]; done)), H', ⟨by first | omega | exact Nat.le_refl _⟩, ⟨bw0_ BK350⟩, ⟨hB HB⟩⟩
  rw [if_neg c6] at H
  have c6b0 : decide (12 < (l0_2.length : Int)) = false := decide_eq_false c6
  have c6b1 : decide (12 < l0_2.length) = false := decide_eq_false (by omega)
  clear c6
  replace H := Option.bind_eq_some_iff.mp H
  obtain ⟨t351, A80, H⟩ := H
  replace H : (if t351 = true then ((impl_allIn.f k l0_1 0 3).bind fun t352 => (impl_GoodPair.j0 k (!t352) l0_0 l0_1 l0_2)) else (impl_GoodPair.j0 k true l0_0 l0_1 l0_2)) = some r := H
  have A8 := Aside0.mk A80
  clear A80
  by_cases c9 : t351 = true
  rotate_left
  ·replace c9 := Bool.eq_false_iff.mpr c9
   subst c9
   rw [if_neg (show ¬ (false = true) by decide)] at H
   have H' := Aside0.mk H
   clear H
   obtain ⟨hcz12_0, hcz12_1, hcz12_2⟩ := bcs3_ BK350
   obtain ⟨hfz12_0, hfz12_1, hfz12_2⟩ := bz3_ BK350
   go_wp2_with (first | (go_at_call 27; (with_reducible refine (impl_allIn.calls k _ _ l0_0 0 2 false _ ?side1 ?side2 A8.out).mono ?_); (case side1 => exact cb_ HR0_0 HB); (case side2 => exact HC0_0.out); rintro e w' ⟨rfl, ⟨nd, rfl⟩⟩))
   go_meet
   case rel => exact ⟨_, (true), (by first | rfl | (simp; done) | (simp [*]; done)), H', ⟨by first | omega | exact Nat.le_refl _⟩, ⟨bw0_ BK350⟩, ⟨hB HB⟩⟩
  subst c9
  rw [if_pos rfl] at H
  replace H := Option.bind_eq_some_iff.mp H
  obtain ⟨t352, A100, H⟩ := H
  replace H : (impl_GoodPair.j0 k (!t352) l0_0 l0_1 l0_2) = some r := H
  have A10 := Aside0.mk A100
  clear A100
  have H' := Aside0.mk H
  clear H
  obtain ⟨hcz11_0, hcz11_1, hcz11_2⟩ := bcs3_ BK350
  obtain ⟨hfz11_0, hfz11_1, hfz11_2⟩ := bz3_ BK350
  go_wp2_with (first | (go_at_call 27; (with_reducible refine (impl_allIn.calls k _ _ l0_0 0 2 true _ ?side1 ?side2 A8.out).mono ?_); (case side1 => exact cb_ HR0_0 HB); (case side2 => exact HC0_0.out); rintro e w' ⟨rfl, ⟨nd, rfl⟩⟩) | (go_at_call 27; (with_reducible refine (impl_allIn.calls k _ _ l0_1 0 3 t352 _ ?side1 ?side2 A10.out).mono ?_); (case side1 => exact ca (Kd.C_below HR0_1.out (hB HB))); (case side2 => exact HC0_1.out); rintro e w' ⟨rfl, ⟨nd, rfl⟩⟩))
  go_meet
  case rel => exact ⟨_, (!t352), (by first | rfl | (simp; done) | (simp [*]; done)), H', ⟨by first | omega | exact Nat.le_refl _⟩, ⟨bw0_ BK350⟩, ⟨hB HB⟩⟩
 case rest =>
  clear HC2
  obtain ⟨kq, x34_1, rfl, HA, HJ1, BK350, HB⟩ := hcut
  cases kq with
  | zero => exact absurd HA.out (by simp [impl_GoodPair.j0])
  | succ kj1 =>
   have H := HA.out
   clear HA
   simp only [impl_GoodPair.j0] at H
   by_cases c15 : x34_1 = true
   ·subst c15
    rw [if_pos rfl] at H
    obtain rfl := Option.some.inj H
    go_wp2
    go_ret
    exact ⟨rt_, hB HB⟩
   replace c15 := Bool.eq_false_iff.mpr c15
   subst c15
   rw [if_neg (show ¬ (false = true) by decide)] at H
   have H' := Aside0.mk H
   clear H
   obtain ⟨hcz16_0, hcz16_1, hcz16_2⟩ := bcs3_ BK350
   obtain ⟨hfz16_0, hfz16_1, hfz16_2⟩ := bz3_ BK350
   go_wp2
   go_loopg [38] kj1 (fun kq v38 w' => ∃ (x38_2 : Int), v38 = .int .i64 x38_2 ∧ Aside0 (impl_GoodPair.l0 kq l0_1 (l0_1.length : Int) x38_2 l0_0 l0_1 l0_2 = some r) ∧ Aside0 (kq ≤ kj1) ∧ Aside0 (w'.heap[gb350]? = some (.cells #[(.slice A0_0 l0_0.length c0_0), (.slice A0_1 l0_1.length c0_1), (.slice A0_2 l0_2.length c0_2)] 26 (0, 0))) ∧ Aside0 (Below w.heap.size w w'))
   case atStart => exact ⟨(0), (by first | rfl | (simp; done) | (simp [*]; done)), H', ⟨Nat.le_refl _⟩, ⟨bw0_ BK350⟩, ⟨hB HB⟩⟩
   case round =>
    clear H'
    try clear c15
    try clear hcz16_0
    try clear hcz16_1
    try clear hcz16_2
    try clear hfz16_0
    try clear hfz16_1
    try clear hfz16_2
    obtain ⟨x38_2, rfl, HA, HK2, BK350, HB⟩ := hrel
    cases gk with
    | zero => exact absurd HA.out (by simp [impl_GoodPair.l0])
    | succ k2 =>
     have H := HA.out
     clear HA
     simp only [impl_GoodPair.l0] at H
     by_cases c17 : x38_2 < (l0_1.length : Int)
     ·rw [if_pos c17] at H
      have c17b0 : decide (x38_2 < (l0_1.length : Int)) = true := decide_eq_true c17
      clear c17
      by_cases c18 : 0 ≤ x38_2
      rotate_left
      ·rw [if_neg c18] at H
       exact absurd H (by simp)
      rw [if_pos c18] at H
      have c18b0 : decide (0 ≤ x38_2) = true := decide_eq_true c18
      clear c18
      by_cases c19 : x38_2 < (l0_1.length : Int)
      rotate_left
      ·rw [if_neg c19] at H
       exact absurd H (by simp)
      rw [if_pos c19] at H
      have c19b0 : decide (x38_2 < (l0_1.length : Int)) = true := decide_eq_true c19
      clear c19
      by_cases c20 : x38_2 < (l0_0.length : Int)
      rotate_left
      ·rw [if_neg c20] at H
       exact absurd H (by simp)
      rw [if_pos c20] at H
      have c20b0 : decide (x38_2 < (l0_0.length : Int)) = true := decide_eq_true c20
      clear c20
      by_cases c21 : (((rd l0_1 x38_2) == 0) != ((rd l0_0 x38_2) == 0)) = true
      rotate_left
      ·rw [if_neg c21] at H
       have c21b0 : (((rd l0_1 x38_2) == 0) != ((rd l0_0 x38_2) == 0)) = false := by simpa using c21
       (try (have c21b1 : decide (((rd l0_1 x38_2) == 0) = ((rd l0_0 x38_2) == 0)) = true := by simpa using c21))
       (try (have c21b2 : (((rd l0_1 x38_2) == 0) == ((rd l0_0 x38_2) == 0)) = true := by simpa using c21))
       clear c21
       have H' := Aside0.mk H
       clear H
       have p353 : 0 ≤ (x38_2 : Int) := od_
       have q353 : x38_2 < (l0_1.length : Int) := od_
       obtain ⟨ad353, e353, hx353_0⟩ := Kd.at_int HR0_1.out x38_2 p353 q353
       cases e353
       replace hx353_0 := hc_ HB hx353_0
       replace p353 := eq_true p353
       replace q353 := eq_true q353
       obtain ⟨hcz23_0, hcz23_1, hcz23_2⟩ := bcs3_ BK350
       obtain ⟨hfz23_0, hfz23_1, hfz23_2⟩ := bz3_ BK350
       have p354 : 0 ≤ (x38_2 : Int) := od_
       have q354 : x38_2 < (l0_0.length : Int) := od_
       obtain ⟨ad354, e354, hx354_0⟩ := Kd.at_int HR0_0.out x38_2 p354 q354
       cases e354
       replace hx354_0 := hc_ HB hx354_0
       replace p354 := eq_true p354
       replace q354 := eq_true q354
       go_wp2
       go_roundg k2
       case measure => have := HJ1.out; have := HK2.out; omega
       case rel => exact ⟨(wrap64 (x38_2 + 1)), (by first | rfl | (simp; done) | (simp [*]; done)), H', ⟨by have := HJ1.out; have := HK2.out; omega⟩, ⟨bw0_ BK350⟩, ⟨hB HB⟩⟩
      rw [if_pos c21] at H
      have c21b0 : (((rd l0_1 x38_2) == 0) != ((rd l0_0 x38_2) == 0)) = true := c21
      (try (have c21b1 : decide (((rd l0_1 x38_2) == 0) = ((rd l0_0 x38_2) == 0)) = false := by simpa using c21))
      (try (have c21b2 : (((rd l0_1 x38_2) == 0) == ((rd l0_0 x38_2) == 0)) = false := by simpa using c21))
      (try (have c21b3 : ¬ (((rd l0_1 x38_2) == 0) = ((rd l0_0 x38_2) == 0)) := by simpa using c21))
      clear c21
      obtain rfl := Option.some.inj H
      have p353 : 0 ≤ (x38_2 : Int) := od_
      have q353 : x38_2 < (l0_1.length : Int) := od_
      obtain ⟨ad353, e353, hx353_0⟩ := Kd.at_int HR0_1.out x38_2 p353 q353
      cases e353
      replace hx353_0 := hc_ HB hx353_0
      replace p353 := eq_true p353
      replace q353 := eq_true q353
      obtain ⟨hcz22_0, hcz22_1, hcz22_2⟩ := bcs3_ BK350
      obtain ⟨hfz22_0, hfz22_1, hfz22_2⟩ := bz3_ BK350
      have p354 : 0 ≤ (x38_2 : Int) := od_
      have q354 : x38_2 < (l0_0.length : Int) := od_
      obtain ⟨ad354, e354, hx354_0⟩ := Kd.at_int HR0_0.out x38_2 p354 q354
      cases e354
      replace hx354_0 := hc_ HB hx354_0
      replace p354 := eq_true p354
      replace q354 := eq_true q354
      go_wp2
      go_ret
      exact ⟨rt_, hB HB⟩
     rw [if_neg c17] at H
     have c17b0 : decide (x38_2 < (l0_1.length : Int)) = false := decide_eq_false c17
     clear c17
     have H' := Aside0.mk H
     clear H
     obtain ⟨hcz24_0, hcz24_1, hcz24_2⟩ := bcs3_ BK350
     obtain ⟨hfz24_0, hfz24_1, hfz24_2⟩ := bz3_ BK350
     go_wp2
     go_loopg [56] k2 (fun kq v56 w' => ∃ (x56_3 : Int), v56 = .int .i64 x56_3 ∧ Aside0 (impl_GoodPair.l1 kq l0_2 (l0_2.length : Int) x56_3 = some r) ∧ Aside0 (kq ≤ k2) ∧ Aside0 (w'.heap[gb350]? = some (.cells #[(.slice A0_0 l0_0.length c0_0), (.slice A0_1 l0_1.length c0_1), (.slice A0_2 l0_2.length c0_2)] 26 (0, 0))) ∧ Aside0 (Below w.heap.size w w'))
     case atStart => exact ⟨(0), (by first | rfl | (simp; done) | (simp [*]; done)), H', ⟨Nat.le_refl _⟩, ⟨bw0_ BK350⟩, ⟨hB HB⟩⟩
     case round =>
      clear H'
      try clear c15
      try clear c17
      try clear c17b0
      try clear hcz16_0
      try clear hcz16_1
      try clear hcz16_2
      try clear hcz24_0
      try clear hcz24_1
      try clear hcz24_2
      try clear hfz16_0
      try clear hfz16_1
      try clear hfz16_2
      try clear hfz24_0
      try clear hfz24_1
      try clear hfz24_2
      obtain ⟨x56_3, rfl, HA, HK3, BK350, HB⟩ := hrel
      cases gk with
      | zero => exact absurd HA.out (by simp [impl_GoodPair.l1])
      | succ k3 =>
       have H := HA.out
       clear HA
       simp only [impl_GoodPair.l1] at H
       by_cases c25 : x56_3 < (l0_2.length : Int)
       rotate_left
       ·rw [if_neg c25] at H
        have c25b0 : decide (x56_3 < (l0_2.length : Int)) = false := decide_eq_false c25
        clear c25
        obtain rfl := Option.some.inj H
        go_wp2
        go_ret
        exact ⟨rt_, hB HB⟩
       rw [if_pos c25] at H
       have c25b0 : decide (x56_3 < (l0_2.length : Int)) = true := decide_eq_true c25
       clear c25
       by_cases c26 : 0 ≤ x56_3
       rotate_left
       ·rw [if_neg c26] at H
        exact absurd H (by simp)
       rw [if_pos c26] at H
       have c26b0 : decide (0 ≤ x56_3) = true := decide_eq_true c26
       clear c26
       by_cases c27 : x56_3 < (l0_2.length : Int)
       rotate_left
       ·rw [if_neg c27] at H
        exact absurd H (by simp)
       rw [if_pos c27] at H
       have c27b0 : decide (x56_3 < (l0_2.length : Int)) = true := decide_eq_true c27
       clear c27
       replace H := Option.bind_eq_some_iff.mp H
       obtain ⟨t357, A280, H⟩ := H
       replace H : (if t357 = true then (impl_GoodPair.l1 k3 l0_2 (l0_2.length : Int) (wrap64 (x56_3 + 1))) else (some false)) = some r := H
       have A28 := Aside0.mk A280
       clear A280
       by_cases c29 : t357 = true
       rotate_left
       ·replace c29 := Bool.eq_false_iff.mpr c29
        subst c29
        rw [if_neg (show ¬ (false = true) by decide)] at H
        obtain rfl := Option.some.inj H
        have p355 : 0 ≤ (x56_3 : Int) := od_
        have q355 : x56_3 < (l0_2.length : Int) := od_
        obtain ⟨ad355, e355, hx355_0, hx355_1⟩ := at_T36 HR0_2.out x56_3 p355 q355
        cases e355
        replace hx355_0 := hc_ HB hx355_0
        replace hx355_1 := hc_ HB hx355_1
        replace p355 := eq_true p355
        replace q355 := eq_true q355
        go_wp2_with (first | ((with_reducible refine gate_dst (N := 6) rfl ?_); (try (refine gate_guard (by rfl) ?_; dsimp only)); refine bx_ev 6 #[.int .i64 0, .bool false] 36 ?_; intro gb356 hg w33 hbox hb; have BK356 := Aside0.mk (hbox); have GW356 := gw_ hg HB; have GE356 := gw_ hg HB; have NB350_356 := nl_ hg BK350; have NB356_350 := ng_ hg BK350; replace BK350 := bb_ BK350 hb; replace HB := bst_ HB hb; clear hb hbox hg; obtain ⟨hnb34, hnc34⟩ := nn_ NB356_350; obtain ⟨hcz35_0, hcz35_1⟩ := bcs2_ BK356; obtain ⟨hfz35_0, hfz35_1⟩ := bz2_ BK356) | ((with_reducible refine gate_dst (N := 62) rfl ?_); refine goesL_ (some 62) rfl rfl Try.func21 (by kernel_rfl) rfl #[.int .i64 ((rd_T36 l0_2 x56_3).f0), .int .i64 0, .int .i64 1] rfl tm_ ?_; (with_reducible refine (impl_in.calls ((rd_T36 l0_2 x56_3).f0) 0 1 false _ A28.out).mono ?_); rintro e w' ⟨rfl, ⟨nd, rfl⟩⟩; refine ⟨_, rfl, ?_⟩))
        go_ret
        exact ⟨rt_, hB HB⟩
       subst c29
       rw [if_pos rfl] at H
       have H' := Aside0.mk H
       clear H
       have p355 : 0 ≤ (x56_3 : Int) := od_
       have q355 : x56_3 < (l0_2.length : Int) := od_
       obtain ⟨ad355, e355, hx355_0, hx355_1⟩ := at_T36 HR0_2.out x56_3 p355 q355
       cases e355
       replace hx355_0 := hc_ HB hx355_0
       replace hx355_1 := hc_ HB hx355_1
       replace p355 := eq_true p355
       replace q355 := eq_true q355
       go_wp2_with (first | ((with_reducible refine gate_dst (N := 6) rfl ?_); (try (refine gate_guard (by rfl) ?_; dsimp only)); refine bx_ev 6 #[.int .i64 0, .bool false] 36 ?_; intro gb356 hg w30 hbox hb; have BK356 := Aside0.mk (hbox); have GW356 := gw_ hg HB; have GE356 := gw_ hg HB; have NB350_356 := nl_ hg BK350; have NB356_350 := ng_ hg BK350; replace BK350 := bb_ BK350 hb; replace HB := bst_ HB hb; clear hb hbox hg; obtain ⟨hnb31, hnc31⟩ := nn_ NB356_350; obtain ⟨hcz32_0, hcz32_1⟩ := bcs2_ BK356; obtain ⟨hfz32_0, hfz32_1⟩ := bz2_ BK356) | ((with_reducible refine gate_dst (N := 62) rfl ?_); refine goesL_ (some 62) rfl rfl Try.func21 (by kernel_rfl) rfl #[.int .i64 ((rd_T36 l0_2 x56_3).f0), .int .i64 0, .int .i64 1] rfl tm_ ?_; (with_reducible refine (impl_in.calls ((rd_T36 l0_2 x56_3).f0) 0 1 true _ A28.out).mono ?_); rintro e w' ⟨rfl, ⟨nd, rfl⟩⟩; refine ⟨_, rfl, ?_⟩))
       go_roundg k3
       case measure => have := HJ1.out; have := HK2.out; have := HK3.out; omega
       case rel => exact ⟨(wrap64 (x56_3 + 1)), (by first | rfl | (simp; done) | (simp [*]; done)), H', ⟨by have := HJ1.out; have := HK2.out; have := HK3.out; omega⟩, ⟨bw1_ BK350 NB350_356⟩, ⟨hB HB⟩⟩

def slices_Clone_int_int.f (l0 : List Int) : Option (List Int) := (some (([] : List Int) : List Int)).bind fun y358 => (if y358.length + l0.length < 17592186044416 then (some (y358 ++ l0)) else (none))
set_option maxHeartbeats 8000000 in
set_option maxRecDepth 100000 in
theorem slices_Clone_int_int.calls (A0 : Option Addr) (c0 : Nat) (l0 : List Int) (r : List Int) (w : World) (hr0 : Kd.C (Kd.int .i64) w A0 l0.length l0) (hc0 : l0.length ≤ c0) (h : slices_Clone_int_int.f l0 = some r) :
  Calls Try.prog 36 #[.slice A0 l0.length c0] w fun e w' => ∃ v0_ : Value, e = .returned (v0_) ∧ Kd.R (Kd.int .i64) 3 w' w.heap.size (fun _ => True) v0_ r ∧ Below w.heap.size w w' := by
 have hq_ : ∀ (w : World) (a : Option Addr) (l c : Nat), (binOp .eql 23 (.slice a l c) (.slice none 0 0)).run Try.prog w = .ok (.bool a.isNone) w := fun w a l c => Go.run_eql_slice_nil w 23 _ a l c Try.underlying23
 rcases A0 with _ | A0
 ·have hl0 : l0 = [] := by
   cases l0 with
   | nil => rfl
   | cons x t => exact absurd (hr0.2.2 (by simp)) (by simp)
  subst hl0
  obtain rfl : r = [] := by
   have := Option.some.inj ((show some ([] : List _) = some r from by simpa [slices_Clone_int_int.f] using h))
   exact this.symm
  go_enter Try.func36, Try.ntmps36
  go_wp2
  go_ret
  exact ⟨_, rfl, Kd.R_nil _ _ _ _ _, Below.refl _ _⟩
 have HR0 := Aside0.mk hr0
 have HC0 := Aside0.mk hc0
 clear hr0 hc0
 have HB := Aside0.mk (Below.refl w.heap.size w)
 have H : ((some (([] : List Int) : List Int)).bind fun y358 => (if y358.length + l0.length < 17592186044416 then (some (y358 ++ l0)) else (none))) = some r := h
 clear h
 obtain ⟨y358, hy358⟩ : ∃ y_ : List Int, y_ = (([] : List Int)) := ⟨_, rfl⟩
 replace H : (if y358.length + l0.length < 17592186044416 then (some (y358 ++ l0)) else (none)) = some r := by first | (rw [hy358]; with_reducible exact H) | (have H2_ := (Option.bind_some _ _).symm.trans H; rw [hy358]; with_reducible exact H2_) | (have H2_ := (Option.bind_some _ _).symm.trans H; with_reducible exact H2_) | with_reducible exact H | (rw [hy358]; exact H) | exact H
 have Ny358 := Aside0.mk hy358
 clear hy358
 by_cases c2 : y358.length + l0.length < 17592186044416
 rotate_left
 ·rw [if_neg c2] at H
  exact absurd H (by simp)
 rw [if_pos c2] at H
 have LMc2 := Aside0.mk c2
 clear c2
 obtain ⟨y361, hy361⟩ : ∃ y_ : List Int, y_ = (y358 ++ l0) := ⟨_, rfl⟩
 replace H : (some y361) = some r := by first | (rw [hy361]; with_reducible exact H) | (have H2_ := (Option.bind_some _ _).symm.trans H; rw [hy361]; with_reducible exact H2_) | (have H2_ := (Option.bind_some _ _).symm.trans H; with_reducible exact H2_) | with_reducible exact H | (rw [hy361]; exact H) | exact H
 have Ny361 := Aside0.mk hy361
 clear hy361
 obtain rfl := Option.some.inj H
 go_enter Try.func36, Try.ntmps36
 go_wp2_with (first | ((with_reducible refine gate_dst (N := 5) rfl ?_); refine Kd.R_lit (Kd.int .i64) _ 3 ?hg (N := 5) ?hd (xs := ([] : List Int)) (inner := []) (ok := fun _ => True) (okp := fun _ => True) ?hr ?hp (fun _ hk => hk) trivial (Below.refl _ _) (Nat.le_refl _) (by simp) ?_; (case hd => rfl); (case hg => rfl); (case hr => first | (go_simp; done) | (go_simp; rfl)); (case hp => exact (Reps.none _ _)); intro v359 w3 ho4 hb hg_ hnew_; clear hg_ hnew_; (first | rw [← Ny358.out] at ho4 | (simp only [Int.reduceToNat] at ho4; rw [← Ny358.out] at ho4)); have HO360 := Aside0.mk (Kd.R_lower ho4 (below_size (hB HB))); replace HB := bst_ HB hb; clear hb ho4) | ((with_reducible refine gate_builtin (b := .append) (xs := #[.tmp 5, .tmp 6]) rfl ?_); at_builtin; refine Kd.R_append_rows (Kd.int .i64) (w0 := w) w.heap.size rfl (.tmp 5) (.tmp 6) 23 3 (.int .i64 0) 8 rfl Try.underlying23 info3 rfl (by decide) (by omega) v359 y358 l0 _ _ _ (fun _ => True) (fun _ => False) rfl rfl ?aO ?aR (fun _ _ h => h) (fun _ h => h.elim) ?aF ?aB ?aS ?aL ?_; (case aR => exact cb_ HR0 HB); (case aB => exact (hB HB)); (case aF => exact (fun _ _ => trivial)); (case aO => exact (ra HO360.out)); (case aS => exact (below_size (hB HB))); (case aL => have := LMc2.out; omega); intro v362 w5 ho hb hg hat; rw [← Ny361.out] at ho; have HO363 := Aside0.mk (ho); replace HB := Aside0.mk (hb); clear HO360; clear ho hb hg hat))
 go_ret
 exact ⟨_, rt_, ra HO363.out, hB HB⟩

def impl_Hello_37.f (l0 : List (S36)) : Option ((List (S36))) := (some (([] : List (S36)) : List (S36))).bind fun y364 => (if y364.length + l0.length < 8796093022208 then (some (y364 ++ l0)) else (none))
set_option maxHeartbeats 8000000 in
set_option maxRecDepth 100000 in
theorem impl_Hello_37.calls (A0 : Option Addr) (c0 : Nat) (l0 : List (S36)) (r : List (S36)) (w : World) (hr0 : Kd.C k36 w A0 l0.length l0) (hc0 : l0.length ≤ c0) (h : impl_Hello_37.f l0 = some r) :
  Calls Try.prog 37 #[.slice A0 l0.length c0] w fun e w' => ∃ v0_ : Value, e = .returned (v0_) ∧ Kd.R k36 36 w' w.heap.size (fun _ => True) v0_ r ∧ Below w.heap.size w w' := by
 have hq_ : ∀ (w : World) (a : Option Addr) (l c : Nat), (binOp .eql 24 (.slice a l c) (.slice none 0 0)).run Try.prog w = .ok (.bool a.isNone) w := fun w a l c => Go.run_eql_slice_nil w 24 _ a l c Try.underlying24
 rcases A0 with _ | A0
 ·have hl0 : l0 = [] := by
   cases l0 with
   | nil => rfl
   | cons x t => exact absurd (hr0.2.2 (by simp)) (by simp)
  subst hl0
  obtain rfl : r = [] := by
   have := Option.some.inj ((show some ([] : List _) = some r from by simpa [impl_Hello_37.f] using h))
   exact this.symm
  go_enter Try.func37, Try.ntmps37
  go_wp2
  go_ret
  exact ⟨_, rfl, Kd.R_nil _ _ _ _ _, Below.refl _ _⟩
 have HR0 := Aside0.mk hr0
 have HC0 := Aside0.mk hc0
 clear hr0 hc0
 have HB := Aside0.mk (Below.refl w.heap.size w)
 have H : ((some (([] : List (S36)) : List (S36))).bind fun y364 => (if y364.length + l0.length < 8796093022208 then (some (y364 ++ l0)) else (none))) = some r := h
 clear h
 obtain ⟨y364, hy364⟩ : ∃ y_ : List (S36), y_ = (([] : List (S36))) := ⟨_, rfl⟩
 replace H : (if y364.length + l0.length < 8796093022208 then (some (y364 ++ l0)) else (none)) = some r := by first | (rw [hy364]; with_reducible exact H) | (have H2_ := (Option.bind_some _ _).symm.trans H; rw [hy364]; with_reducible exact H2_) | (have H2_ := (Option.bind_some _ _).symm.trans H; with_reducible exact H2_) | with_reducible exact H | (rw [hy364]; exact H) | exact H
 have Ny364 := Aside0.mk hy364
 clear hy364
 by_cases c2 : y364.length + l0.length < 8796093022208
 rotate_left
 ·rw [if_neg c2] at H
  exact absurd H (by simp)
 rw [if_pos c2] at H
 have LMc2 := Aside0.mk c2
 clear c2
 obtain ⟨y367, hy367⟩ : ∃ y_ : List (S36), y_ = (y364 ++ l0) := ⟨_, rfl⟩
 replace H : (some y367) = some r := by first | (rw [hy367]; with_reducible exact H) | (have H2_ := (Option.bind_some _ _).symm.trans H; rw [hy367]; with_reducible exact H2_) | (have H2_ := (Option.bind_some _ _).symm.trans H; with_reducible exact H2_) | with_reducible exact H | (rw [hy367]; exact H) | exact H
 have Ny367 := Aside0.mk hy367
 clear hy367
 obtain rfl := Option.some.inj H
 go_enter Try.func37, Try.ntmps37
 go_wp2_with (first | ((with_reducible refine gate_dst (N := 5) rfl ?_); refine Kd.R_lit k36 _ 36 ?hg (N := 5) ?hd (xs := ([] : List (S36))) (inner := []) (ok := fun _ => True) (okp := fun _ => True) ?hr ?hp (fun _ hk => hk) trivial (Below.refl _ _) (Nat.le_refl _) (by simp) ?_; (case hd => rfl); (case hg => rfl); (case hr => first | (go_simp; done) | (go_simp; rfl)); (case hp => exact (Reps.none _ _)); intro v365 w3 ho4 hb hg_ hnew_; clear hg_ hnew_; (first | rw [← Ny364.out] at ho4 | (simp only [Int.reduceToNat] at ho4; rw [← Ny364.out] at ho4)); have HO366 := Aside0.mk (Kd.R_lower ho4 (below_size (hB HB))); replace HB := bst_ HB hb; clear hb ho4) | ((with_reducible refine gate_builtin (b := .append) (xs := #[.tmp 5, .tmp 6]) rfl ?_); at_builtin; refine Kd.R_append_rows k36 (w0 := w) w.heap.size rfl (.tmp 5) (.tmp 6) 24 36 (.agg #[(.int .i64 0), (.bool false)]) 16 rfl Try.underlying24 info36 rfl (by decide) (by omega) v365 y364 l0 _ _ _ (fun _ => True) (fun _ => False) rfl rfl ?aO ?aR (fun _ _ h => h) (fun _ h => h.elim) ?aF ?aB ?aS ?aL ?_; (case aR => exact cb_ HR0 HB); (case aB => exact (hB HB)); (case aF => exact (fun _ _ => trivial)); (case aO => exact (ra HO366.out)); (case aS => exact (below_size (hB HB))); (case aL => have := LMc2.out; omega); intro v368 w5 ho hb hg hat; rw [← Ny367.out] at ho; have HO369 := Aside0.mk (ho); replace HB := Aside0.mk (hb); clear HO366; clear ho hb hg hat))
 go_ret
 exact ⟨_, rt_, ra HO369.out, hB HB⟩

def impl_Pair_own.f (l0_0 : List Int) (l0_1 : List Int) (l0_2 : List (S36)) : Option (List Int × List Int × (List (S36))) := (slices_Clone_int_int.f l0_0).bind fun t372 => ((slices_Clone_int_int.f l0_1).bind fun t375 => ((impl_Hello_37.f l0_2).bind fun t378 => (some (t372, t375, t378))))
def impl_Pair_own.T1 : Bool × List (List Nat × List Nat) := (true, [([], []), ([0], [0]), ([1], [1]), ([], []), ([3], [3]), ([4, 2], [4]), ([], []), ([6], [6]), ([7, 5], [7]), ([2, 5, 8], [2, 5, 8]), ([9, 8, 0, 1, 2, 3, 4, 5, 6, 7, 8, 9], [9])])
def impl_Pair_own.B1 : List Nat := [0, 1, 3, 0, 8, 31, 0, 64, 255, 511, 1023]
theorem impl_Pair_own.tab1 : rtab .any (opsOf Try.f20 1) = impl_Pair_own.T1 := by kernel_rfl
theorem impl_Pair_own.bits1 : waitsOk impl_Pair_own.T1.2 impl_Pair_own.B1 = true := by kernel_rfl
set_option maxHeartbeats 8000000 in
set_option maxRecDepth 100000 in
theorem impl_Pair_own.calls (A0_0 : Option Addr) (c0_0 : Nat) (l0_0 : List Int) (A0_1 : Option Addr) (c0_1 : Nat) (l0_1 : List Int) (A0_2 : Option Addr) (c0_2 : Nat) (l0_2 : List (S36)) (r1 : List Int) (r2 : List Int) (r3 : List (S36)) (w : World) (hr0_0 : Kd.C (Kd.int .i64) w A0_0 l0_0.length l0_0) (hc0_0 : l0_0.length ≤ c0_0) (hr0_1 : Kd.C (Kd.int .i64) w A0_1 l0_1.length l0_1) (hc0_1 : l0_1.length ≤ c0_1) (hr0_2 : Kd.C k36 w A0_2 l0_2.length l0_2) (hc0_2 : l0_2.length ≤ c0_2) (h : impl_Pair_own.f l0_0 l0_1 l0_2 = some (r1, r2, r3)) :
  Calls Try.prog 20 #[.agg #[.slice A0_0 l0_0.length c0_0, .slice A0_1 l0_1.length c0_1, .slice A0_2 l0_2.length c0_2]] w fun e w' => ∃ v0_ v1_ v2_ : Value, e = .returned (.agg #[v0_, v1_, v2_]) ∧ Kd.R (Kd.int .i64) 3 w' w.heap.size (fun k_ => no_ v1_ k_) v0_ r1 ∧ Kd.R (Kd.int .i64) 3 w' w.heap.size (fun k_ => no_ v0_ k_) v1_ r2 ∧ Kd.R k36 36 w' w.heap.size (fun _ => True) v2_ r3 ∧ Below w.heap.size w w' := by
 have hu26 := Try.underlying26
 have HR0_0 := Aside0.mk hr0_0
 have HC0_0 := Aside0.mk hc0_0
 clear hr0_0 hc0_0
 have HR0_1 := Aside0.mk hr0_1
 have HC0_1 := Aside0.mk hc0_1
 clear hr0_1 hc0_1
 have HR0_2 := Aside0.mk hr0_2
 have HC0_2 := Aside0.mk hc0_2
 clear hr0_2 hc0_2
 have HB := Aside0.mk (Below.refl w.heap.size w)
 have H : ((slices_Clone_int_int.f l0_0).bind fun t372 => ((slices_Clone_int_int.f l0_1).bind fun t375 => ((impl_Hello_37.f l0_2).bind fun t378 => (some (t372, t375, t378))))) = some (r1, r2, r3) := h
 clear h
 replace H := Option.bind_eq_some_iff.mp H
 obtain ⟨t372, A20, H⟩ := H
 replace H : ((slices_Clone_int_int.f l0_1).bind fun t375 => ((impl_Hello_37.f l0_2).bind fun t378 => (some (t372, t375, t378)))) = some (r1, r2, r3) := H
 have A2 := Aside0.mk A20
 clear A20
 replace H := Option.bind_eq_some_iff.mp H
 obtain ⟨t375, A30, H⟩ := H
 replace H : ((impl_Hello_37.f l0_2).bind fun t378 => (some (t372, t375, t378))) = some (r1, r2, r3) := H
 have A3 := Aside0.mk A30
 clear A30
 replace H := Option.bind_eq_some_iff.mp H
 obtain ⟨t378, A40, H⟩ := H
 replace H : (some (t372, t375, t378)) = some (r1, r2, r3) := H
 have A4 := Aside0.mk A40
 clear A40
 simp only [Option.some.injEq, Prod.mk.injEq] at H
 obtain ⟨rfl, rfl, rfl⟩ := H
 go_enter Try.func20, Try.ntmps20
 try go_wp2_with (first | ((with_reducible refine gate_dst (N := 1) rfl ?_); refine bx_ev 1 #[.slice A0_0 l0_0.length c0_0, .slice A0_1 l0_1.length c0_1, .slice A0_2 l0_2.length c0_2] 26 ?_; intro gb370 hg w5 hbox hb; have BK370 := Aside0.mk (hbox); have GW370 := gw_ hg HB; have GE370 := gw_ hg HB; replace HB := bst_ HB hb; clear hb hbox hg) | ((with_reducible refine gate_dst (N := 2) rfl ?_); refine bx_ev 2 #[.slice none 0 0, .slice none 0 0, .slice none 0 0] 26 ?_; intro gb371 hg w6 hbox hb; have BK371 := Aside0.mk (hbox); have GW371 := gw_ hg HB; have GE371 := gw_ hg HB; have NB370_371 := nl_ hg BK370; have NB371_370 := ng_ hg BK370; replace BK370 := bb_ BK370 hb; replace HB := bst_ HB hb; clear hb hbox hg))
 replace BK370 := bd_ BK370
 replace BK371 := bd_ BK371
 replace HB := Aside0.mk (below_drew1 HB.out)
 refine start_ (n := 11) (S := fun w' => w'.cell? ⟨gb370, 0, none⟩ = some (.slice A0_0 l0_0.length c0_0) ∧ w'.cell? ⟨gb370, 1, none⟩ = some (.slice A0_1 l0_1.length c0_1) ∧ w'.cell? ⟨gb370, 2, none⟩ = some (.slice A0_2 l0_2.length c0_2)) (ds := []) (bs 11 0) (by kernel_rfl) rfl rfl ⟨bc_ BK370 0, bc_ BK370 1, bc_ BK370 2⟩ (fun hHeld => ?_); refine with_tabW impl_Pair_own.tab1 impl_Pair_own.bits1 (fun HT_ HW_ => ?_)
 generalize w6.drew = w7 at BK370 BK371 HB hHeld ⊢
 refine pu_ 0 3 (bs 11 1) HT_ ?_
 refine pu_ 3 6 (bs 11 9) HT_ ?_
 refine pu_ 6 9 (bs 11 73) HT_ ?_
 refine tk_ 1 4 (bs 11 75) HT_ HW_ hHeld ?_
 refine tk_ 4 7 (bs 11 91) HT_ HW_ hHeld ?_
 refine tk_ 7 10 (bs 11 219) HT_ HW_ hHeld ?_
 refine on_ 2 (some 5) (bs 11 223) HT_ (fun K hK => ?_)
 refine goes_ Try.func36 (by kernel_rfl) rfl #[.slice A0_0 l0_0.length c0_0] (by rfl) rfl rfl tm_ ?_
 with_reducible refine (slices_Clone_int_int.calls _ _ l0_0 t372 _ ?side1 ?side2 A2.out).mono ?_
 (case side1 => exact cb_ HR0_0 HB)
 (case side2 => exact HC0_0.out)
 rintro e w8 ⟨v373, rfl, ho0, hb⟩
 refine ⟨_, rfl, ?_⟩
 have HO374 := Aside0.mk (Kd.R_lower ho0 (below_size (hB HB)))
 replace BK370 := bb_ BK370 hb
 replace BK371 := bb_ BK371 hb
 replace HB := bst_ HB hb
 clear hb ho0
 refine hK.out _ _ ⟨bc_ BK370 0, bc_ BK370 1, bc_ BK370 2⟩ (fun hHeld => ?_)
 clear hK K
 refine nm_ 5 ?_
 refine on_ 5 (some 8) (bs 11 255) HT_ (fun K hK => ?_)
 refine goes_ Try.func36 (by kernel_rfl) rfl #[.slice A0_1 l0_1.length c0_1] (by rfl) rfl rfl tm_ ?_
 with_reducible refine (slices_Clone_int_int.calls _ _ l0_1 t375 _ ?side1 ?side2 A3.out).mono ?_
 (case side1 => exact cb_ HR0_1 HB)
 (case side2 => exact HC0_1.out)
 rintro e w9 ⟨v376, rfl, ho0, hb⟩
 refine ⟨_, rfl, ?_⟩
 have HO377 := Aside0.mk (Kd.R_lower (Kd.R_new' ho0 (rl_ HO374)) (below_size (hB HB)))
 replace HO374 := re_ HO374 ho0 hb
 replace BK370 := bb_ BK370 hb
 replace BK371 := bb_ BK371 hb
 replace HB := bst_ HB hb
 clear hb ho0
 refine hK.out _ _ ⟨bc_ BK370 0, bc_ BK370 1, bc_ BK370 2⟩ (fun hHeld => ?_)
 clear hK K
 refine nm_ 8 ?_
 refine on_ 8 (some 11) (bs 11 511) HT_ (fun K hK => ?_)
 refine goes_ Try.func37 (by kernel_rfl) rfl #[.slice A0_2 l0_2.length c0_2] (by rfl) rfl rfl tm_ ?_
 with_reducible refine (impl_Hello_37.calls _ _ l0_2 t378 _ ?side1 ?side2 A4.out).mono ?_
 (case side1 => exact cb_ HR0_2 HB)
 (case side2 => exact HC0_2.out)
 rintro e w10 ⟨v379, rfl, ho0, hb⟩
 refine ⟨_, rfl, ?_⟩
 have HO380 := Aside0.mk (Kd.R_lower ho0 (below_size (hB HB)))
 replace HO374 := rb_ HO374 hb
 replace HO377 := rb_ HO377 hb
 replace BK370 := bb_ BK370 hb
 replace BK371 := bb_ BK371 hb
 replace HB := bst_ HB hb
 clear hb ho0
 obtain ⟨Ao11, co11, eo11⟩ := Kd.R_slice HO380.out
 subst eo11
 obtain ⟨Ao12, co12, eo12⟩ := Kd.R_slice HO377.out
 subst eo12
 obtain ⟨Ao13, co13, eo13⟩ := Kd.R_slice HO374.out
 subst eo13
 refine hK.out _ _ ⟨bc_ BK370 0, bc_ BK370 1, bc_ BK370 2⟩ (fun hHeld => ?_)
 clear hK K
 refine nm_ 11 ?_
 refine pu_ 9 12 (bs 11 1023) HT_ ?_
 refine on_ 10 (none) (bs 11 2047) HT_ (fun K hK => ?_)
 have hs14 : w10.cell? ⟨gb371, 0, none⟩ = some (.slice none 0 0) := bc_ BK371 0
 have hfs14 := bz_ BK371 0
 have hns14_0 := NB370_371.out
 have hms14_0 := NB371_370.out
 have hs15 : w10.cell? ⟨gb371, 1, none⟩ = some (.slice none 0 0) := bc_ BK371 1
 have hfs15 := bz_ BK371 1
 have hns15_0 := NB370_371.out
 have hms15_0 := NB371_370.out
 have hs16 : w10.cell? ⟨gb371, 2, none⟩ = some (.slice none 0 0) := bc_ BK371 2
 have hfs16 := bz_ BK371 2
 have hns16_0 := NB370_371.out
 have hms16_0 := NB371_370.out
 refine skip_ (w1 := ?_) (by rfl) rfl ?_ ?_
 rotate_left
 ·go_simp
  rfl
 refine hK.out _ _ ⟨((cell_far (p := ⟨gb371, _, none⟩) NB370_371.out _).trans (((cell_far (p := ⟨gb371, _, none⟩) NB370_371.out _).trans (((cell_far (p := ⟨gb371, _, none⟩) NB370_371.out _).trans (hHeld.1)))))), ((cell_far (p := ⟨gb371, _, none⟩) NB370_371.out _).trans (((cell_far (p := ⟨gb371, _, none⟩) NB370_371.out _).trans (((cell_far (p := ⟨gb371, _, none⟩) NB370_371.out _).trans (hHeld.2.1)))))), ((cell_far (p := ⟨gb371, _, none⟩) NB370_371.out _).trans (((cell_far (p := ⟨gb371, _, none⟩) NB370_371.out _).trans (((cell_far (p := ⟨gb371, _, none⟩) NB370_371.out _).trans (hHeld.2.2))))))⟩ (fun hHeld => ?_)
 clear hK K
 refine done_ (done_of HT_.out (by kernel_rfl)) ?_
 try go_wp2
 refine bodyPost_ret (results_cell_row rfl _ _ gb371 26 #[.slice Ao13 t372.length co13, .slice Ao12 t375.length co12, .slice Ao11 t378.length co11] (0, 0) _ rfl (bw0_ BK371) Try.underlying26 rfl (by kernel_rfl)) rfl ?_
 exact ⟨_, _, _, rt_, ro_ (fs3_ HO374.out BK371.out) (fun _ hk => hk.1.2), ro_ (fs3_ HO377.out BK371.out) (fun _ hk => hk.1.2), ro_ (fs3_ HO380.out BK371.out) (fun _ hk => trivial), hB HB⟩

theorem pre_run_clear {P : Program} (w : World) (t e ty : TypeId) (z : Value) (ht : P.underlying t = some (.slice e)) (hv : ∀ w, (zeroValue e).run P w = .ok z w) (b o n c : Nat) (hn : 0 < n) (zs : List Value) (hz : (Builtin.zeroCells z.cells n).toList = zs) (h1 : ∀ v ∈ zs, v.oneCell' = true)
  (hc : ∀ j, j < zs.length → (w.cell? ⟨b, o + j, none⟩).isSome = true) (hf : ∀ j, j < zs.length → w.frozen? ⟨b, o + j, none⟩ = false) :
  (Builtin.clear_ #[t] ty #[.slice (some ⟨b, o, none⟩) n c]).run P w = .ok (.tuple #[]) (w.setCells b o zs) := by
 have hst := run_storeCells_cells (P := P) b o zs 0 w (by simpa using hc) (by simpa using hf) h1
 simp only [Nat.add_zero] at hst
 obtain ⟨m, rfl⟩ : ∃ m, n = m + 1 := ⟨n - 1, by omega⟩
 simp [Builtin.clear_, run_underlying ht, hv, hz, hst]
theorem pre_reps_take {α : Type} {R : α → List Value → Prop} {size m : Nat} {ps : List α} {cs : List Value} (h : Reps R size ps cs) : Reps R size (ps.take m) (cs.take (m * size)) := by
 have h0 := h.1
 refine ⟨?_, fun j p hj => ?_⟩
 · rw [List.length_take, List.length_take, h0]
   rcases Nat.le_total m ps.length with hm | hm
   · rw [Nat.min_eq_left hm, Nat.min_eq_left (Nat.mul_le_mul_right _ hm)]
   · rw [Nat.min_eq_right hm, Nat.min_eq_right (Nat.mul_le_mul_right _ hm)]
 · rw [List.getElem?_take] at hj
   split at hj
   · rename_i hlt
     have := h.2 j p hj
     have hle : j * size + size ≤ m * size := by rw [← Nat.succ_mul]; exact Nat.mul_le_mul_right _ hlt
     rw [List.drop_take, List.take_take, Nat.min_eq_left (by omega)]
     exact this
   · cases hj
theorem pre_cut {α : Type} {d : Kd α} {e g cap i j : Nat} {P0 : Nat → Prop} {w0 w : World} {xs : List α} {cur : Array Value} (hB : Below w0.heap.size w0 w) (hP : P0 g) (hbg : w0.heap.size ≤ g) (hg : w.heap[g]? = some (.cells cur e (0, 0))) (hnc : xs.length ≤ cap) (hcm : cap ≤ maxLen) (hcs : cur.size = cap * d.sz)
  (hr : Reps (d.M w w0.heap.size (fun k => P0 k ∧ some k ≠ some g)) d.sz xs (cur.toList.take (xs.length * d.sz))) (hij : i ≤ j) (hj : j ≤ xs.length) (zs : List Value) (hzs : zs.length = (j - i) * d.sz) {W : World}
  (hW : W = (w.drew.setCells g (i * d.sz) ((cur.toList.take (xs.length * d.sz)).drop (j * d.sz))).setCells g ((i + (xs.length - j)) * d.sz) zs) :
  Kd.R d e W w0.heap.size (fun k => P0 k ∨ w.heap.size ≤ k) (.slice (some ⟨g, 0, none⟩) (xs.length - (j - i)) cap) (xs.take i ++ xs.drop j) ∧ Below w0.heap.size w0 W ∧ Kept w W P0 := by
 obtain ⟨news, hnews⟩ : ∃ l, l = (cur.toList.take (xs.length * d.sz)).drop (j * d.sz) := ⟨_, rfl⟩
 rw [← hnews] at hW
 have hcl : cur.toList.length = cap * d.sz := by rw [Array.length_toList]; exact hcs
 have hxc : xs.length * d.sz ≤ cap * d.sz := Nat.mul_le_mul_right _ hnc
 have hnl : news.length = (xs.length - j) * d.sz := by rw [hnews, List.length_drop, List.length_take, hcl, Nat.min_eq_left hxc, Nat.sub_mul]
 have e1 : i * d.sz + (xs.length - j) * d.sz = (i + (xs.length - j)) * d.sz := (Nat.add_mul _ _ _).symm
 have e2 : (i + (xs.length - j)) * d.sz + (j - i) * d.sz = xs.length * d.sz := by rw [← Nat.add_mul]; congr 1; omega
 obtain ⟨c1, h1, s1, l1⟩ := setCells_row (e := e) news (i * d.sz) w.drew cur hg (by omega)
 obtain ⟨c2, h2, s2, l2⟩ := setCells_row (e := e) zs ((i + (xs.length - j)) * d.sz) (w.drew.setCells g (i * d.sz) news) c1 h1 (by rw [s1]; omega)
 rw [← hW] at h2
 have far : ∀ k, k ≠ g → W.heap[k]? = w.heap[k]? := fun k hk => by rw [hW, setCells_far zs _ k hk, setCells_far news _ k hk]; rfl
 obtain ⟨a1, a2, a3, a4⟩ := setCells_same g news (i * d.sz) w.drew
 obtain ⟨b1, b2, b3, b4⟩ := setCells_same g zs ((i + (xs.length - j)) * d.sz) (w.drew.setCells g (i * d.sz) news)
 rw [← hW] at b1 b2 b3 b4
 have hsz : W.heap.size = w.heap.size := b4.trans a4
 have hyl : (xs.take i ++ xs.drop j).length = i + (xs.length - j) := by rw [List.length_append, List.length_take, List.length_drop]; omega
 have hc1l : c1.toList.length = cap * d.sz := (Array.length_toList : c1.toList.length = c1.size).trans (s1.trans hcs)
 have hc2l : c2.toList.length = cap * d.sz := (Array.length_toList : c2.toList.length = c2.size).trans (s2.trans (s1.trans hcs))
 have hi1 : i * d.sz ≤ xs.length * d.sz := Nat.mul_le_mul_right _ (by omega)
 have hin : c2.toList.take ((i + (xs.length - j)) * d.sz) = (cur.toList.take (xs.length * d.sz)).take (i * d.sz) ++ (cur.toList.take (xs.length * d.sz)).drop (j * d.sz) := by
  have e3 : c2.toList.take ((i + (xs.length - j)) * d.sz) = c1.toList.take ((i + (xs.length - j)) * d.sz) := by
   rw [l2, List.append_assoc]
   exact List.take_left' (by rw [List.length_take]; omega)
  have e4 : c1.toList.take ((i + (xs.length - j)) * d.sz) = cur.toList.take (i * d.sz) ++ news := by
   rw [l1]
   exact List.take_left' (by rw [List.length_append, List.length_take, hnl]; omega)
  rw [e3, e4, List.take_take, Nat.min_eq_left hi1, hnews]
 refine ⟨?_, ⟨b1.trans (a1.trans hB.os), b2.trans (a2.trans hB.tape), b3.trans (a3.trans hB.output), by rw [hsz]; exact hB.size, fun k hk => (far k (by omega)).trans (hB.block k hk)⟩, by omega, fun k _ hn => far k (fun he => hn (he ▸ hP))⟩
 rw [show xs.length - (j - i) = (xs.take i ++ xs.drop j).length by rw [hyl]; omega]
 refine ⟨fun k hk => Or.inl ?_, c2.toList.take ((i + (xs.length - j)) * d.sz), ⟨?_, .inr ⟨g, cap, c2, rfl, hbg, h2, by rw [hyl]; omega, hcm, by rw [s2, s1]; exact hcs, by rw [hyl]⟩⟩, ?_⟩
 · have : g = k := by simpa [Value.ownBlock] using hk
   exact this ▸ hP
 · rw [List.length_take, hc2l, hyl, Nat.min_eq_left (by omega)]
 · rw [hin]
   refine (Kd.reps_append (pre_reps_take hr) (Kd.reps_drop hr)).imp_ (fun p c hp => ?_)
   exact d.M_mono (fun k hk => ⟨Or.inl hk.1, hk.2⟩) (d.M_move (fun k hk => far k (fun he => hk.2 (by rw [he]))) hp)
theorem pre_ones {α : Type} {d : Kd α} {w : World} {base : Nat} {ok : Nat → Prop} {xs : List α} {cs : List Value} (h : Reps (d.M w base ok) d.sz xs cs) : ∀ u ∈ cs, u.oneCell' = true := by
 intro u hu
 obtain ⟨t, ht, rfl⟩ := List.mem_iff_getElem.1 hu
 have hl := h.1
 have hs : 0 < d.sz := by
  rcases Nat.eq_zero_or_pos d.sz with h0 | h0
  · rw [h0, Nat.mul_zero] at hl; omega
  · exact h0
 have hq : t / d.sz < xs.length := Nat.div_lt_of_lt_mul (by rw [Nat.mul_comm]; omega)
 have hM := h.2 (t / d.sz) _ (List.getElem?_eq_getElem hq)
 refine d.K_one (d.K_of_M hM) _ ?_
 rw [List.mem_iff_getElem?]
 refine ⟨t % d.sz, ?_⟩
 rw [List.getElem?_take, if_pos (Nat.mod_lt _ hs), List.getElem?_drop, Nat.div_add_mod', List.getElem?_eq_getElem ht]
def impl_Hello_22.f (l0 : List (S36)) (a1 : Int) (a2 : Int) : Option ((List (S36))) := if 0 ≤ a2 then (if a2 ≤ (l0.length : Int) then ((some (l0.take (a2 : Int).toNat : List (S36))).bind fun y381 => (if 0 ≤ a1 then (if a1 ≤ (y381.length : Int) then ((some (y381.take (a1 : Int).toNat : List (S36))).bind fun y385 => (if a1 = a2 then (some l0) else ((some (([] : List (S36)) : List (S36))).bind fun y389 => (if y389.length + y385.length < 8796093022208 then ((some (y389 ++ y385 : List (S36))).bind fun y392 => ((some (l0.drop (a2 : Int).toNat : List (S36))).bind fun y395 => (if y392.length + y395.length < 8796093022208 then (some (y392 ++ y395)) else (none)))) else (none))))) else (none)) else (none))) else (none)) else (none)
set_option maxHeartbeats 8000000 in
set_option maxRecDepth 100000 in
theorem impl_Hello_22.calls (P0_ : Nat → Prop) (u9000_ : Value) (l0 : List (S36)) (a1 : Int) (a2 : Int) (r : List (S36)) (w0 w : World) (hB : Below w0.heap.size w0 w) (ho0 : Kd.R k36 36 w w0.heap.size P0_ u9000_ l0) (h : impl_Hello_22.f l0 a1 a2 = some r) :
  Calls Try.prog 22 #[u9000_, .int .i64 a1, .int .i64 a2] w fun e w' => ∃ v0_ : Value, e = .returned (v0_) ∧ Kd.R k36 36 w' w0.heap.size (fun k_ => (P0_ k_ ∨ w.heap.size ≤ k_)) v0_ r ∧ Below w0.heap.size w0 w' ∧ Kept w w' (fun k_ => P0_ k_) := by
 have hf : 0 ≤ a1 ∧ a1 ≤ a2 ∧ a2 ≤ l0.length ∧ r = l0.take a1.toNat ++ l0.drop a2.toNat := by
  unfold impl_Hello_22.f at h
  simp only [Option.bind_some] at h
  by_cases g1 : 0 ≤ a2
  · by_cases g2 : a2 ≤ (l0.length : Int)
    · rw [if_pos g1, if_pos g2] at h
      by_cases g3 : 0 ≤ a1
      · by_cases g4 : a1 ≤ ((l0.take a2.toNat).length : Int)
        · rw [if_pos g3, if_pos g4] at h
          rw [List.length_take] at g4
          refine ⟨g3, by omega, g2, ?_⟩
          by_cases g5 : a1 = a2
          · rw [if_pos g5] at h
            subst g5
            rw [List.take_append_drop]
            exact (Option.some.inj h).symm
          · rw [if_neg g5, List.take_take] at h
            split at h
            · split at h
              · have := (Option.some.inj h).symm
                rw [List.nil_append, Nat.min_eq_left (by omega)] at this
                exact this
              · cases h
            · cases h
        · rw [if_pos g3, if_neg g4] at h; cases h
      · rw [if_neg g3] at h; cases h
    · rw [if_pos g1, if_neg g2] at h; cases h
  · rw [if_neg g1] at h; cases h
 obtain ⟨f1, f2, f3, rfl⟩ := hf
 clear h
 obtain ⟨i, rfl⟩ : ∃ i : Nat, a1 = (i : Int) := ⟨a1.toNat, by omega⟩
 obtain ⟨j, rfl⟩ : ∃ j : Nat, a2 = (j : Int) := ⟨a2.toNat, by omega⟩
 rw [Int.toNat_natCast, Int.toNat_natCast]
 have hij : i ≤ j := by omega
 have hj : j ≤ l0.length := by omega
 clear f1 f2 f3
 have hR := ho0
 obtain ⟨hok, inner, ⟨hil, hcase⟩, hr⟩ := ho0
 by_cases heq : i = j
 · subst heq
   have hP : ∃ A n c, u9000_ = .slice A n c ∧ n = l0.length ∧ n ≤ c := by
    rcases hcase with ⟨rfl, hn⟩ | ⟨g, cap, cur, rfl, hbg, hg, hnc, hcm, hcs, htk⟩
    · exact ⟨none, 0, 0, rfl, hn.symm, Nat.le_refl _⟩
    · exact ⟨_, _, _, rfl, rfl, hnc⟩
   obtain ⟨A, n, c, rfl, rfl, hnc⟩ := hP
   clear hok hil hcase hr
   have h0 : Calls Try.prog 22 #[.slice A l0.length c, .int .i64 i, .int .i64 i] w fun e w' => e = .returned (.slice A l0.length c) ∧ w' = w := by
    have hic : i ≤ c := by omega
    clear hR
    go_enter Try.func22, Try.ntmps22
    go_wp2
    all_goals (go_ret; exact ⟨rfl, rfl⟩)
   refine h0.mono ?_
   rintro e w' ⟨rfl, rfl⟩
   rw [List.take_append_drop]
   exact ⟨_, rfl, Kd.R_mono hR (fun _ hk => Or.inl hk), hB, Kept.refl _ _⟩
 · rcases hcase with ⟨rfl, hn⟩ | ⟨g, cap, cur, rfl, hbg, hg, hnc, hcm, hcs, htk⟩
   · exact absurd hn (by omega)
   · have hP : P0_ g := hok g rfl
     subst htk
     have hlt : i < j := by omega
     have hm : cap ≤ 9223372036854775807 := by unfold maxLen at hcm; omega
     obtain ⟨i0, hi0, hz0, hz1, hz2⟩ := info_parts info36
     have hcell : ∀ t, t < cap * 2 → (w.cell? ⟨g, t, none⟩).isSome = true ∧ w.frozen? ⟨g, t, none⟩ = false := by
      intro t ht
      refine ⟨?_, frozen_of_row w g t cur 36 hg⟩
      rw [cell_of_row w g t cur 36 (0, 0) hg, Array.getElem?_eq_getElem (by rw [hcs]; exact ht)]
      rfl
     obtain ⟨news, hnews⟩ : ∃ news, news = (cur.toList.take (l0.length * 2)).drop (j * 2) := ⟨_, rfl⟩
     have hlen : news.length = (l0.length - j) * 2 := by
      rw [hnews, List.length_drop, List.length_take, (Array.length_toList : cur.toList.length = cur.size), hcs]
      show min (l0.length * 2) (cap * 2) - j * 2 = _
      omega
     obtain ⟨A, hA, hsrc⟩ : ∃ A : Addr, (if cap = j then some (⟨g, 0, none⟩ : Addr) else some ⟨g, j * 2, none⟩) = some A ∧ Hid (∀ t u, news[t]? = some u → w.drew.cell? (A.add t) = some u) := by
      by_cases h : cap = j
      · refine ⟨⟨g, 0, none⟩, by simp [h], fun t u hu => ?_⟩
        have h0 : news.length = 0 := by rw [hlen]; omega
        rw [List.length_eq_zero_iff.1 h0] at hu
        simp at hu
      · refine ⟨⟨g, j * 2, none⟩, by simp [h], fun t u hu => ?_⟩
        have ht : t < news.length := (List.getElem?_eq_some_iff.1 hu).1
        rw [hnews, List.getElem?_drop, List.getElem?_take] at hu
        rw [Addr.add_lit]
        show w.cell? ⟨g, j * 2 + t, none⟩ = some u
        rw [cell_of_row w g _ cur 36 (0, 0) hg]
        split at hu
        · rw [← Array.getElem?_toList]; exact hu
        · cases hu
     have s1 : Hid (news.length = (l0.length - j) * 2) := hlen
     have hone : Hid (∀ u ∈ cur.toList.take (l0.length * 2), u.oneCell' = true) := pre_ones hr
     have s2 : Hid (∀ u ∈ news, u.oneCell' = true) := by
      intro u hu
      rw [hnews] at hu
      exact hone u (List.mem_of_mem_drop hu)
     have s3 : Hid (∀ t, t < news.length → (w.drew.cell? ⟨g, 0 + i * 2 + t, none⟩).isSome = true ∧ w.drew.frozen? ⟨g, 0 + i * 2 + t, none⟩ = false) := by
      intro t ht
      rw [hlen] at ht
      exact hcell _ (by omega)
     obtain ⟨W1, hW1⟩ : ∃ W1, W1 = w.drew.setCells g (0 + i * 2) news := ⟨_, rfl⟩
     obtain ⟨zs, hzs⟩ : ∃ zs, zs = (Builtin.zeroCells (Value.agg #[(.int .i64 0), (.bool false)]).cells (l0.length - (i + (l0.length - j)))).toList := ⟨_, rfl⟩
     have hzl : zs.length = (j - i) * 2 := by
      rw [hzs]; simp [Builtin.zeroCells, Value.cells]; omega
     have hzo : ∀ u ∈ zs, u.oneCell' = true := by
      intro u hu
      rw [hzs] at hu
      simp only [Builtin.zeroCells, Value.cells, Array.toList_map, List.mem_map] at hu
      obtain ⟨q, _, rfl⟩ := hu
      have hq : q % 2 < 2 := Nat.mod_lt _ (by decide)
      have hq2 : q % 2 = 0 ∨ q % 2 = 1 := by omega
      rcases hq2 with h2 | h2 <;> simp [h2, Value.oneCell']
     have hv : ∀ w, (zeroValue 36).run Try.prog w = .ok (.agg #[(.int .i64 0), (.bool false)]) w := fun w => by simp [zeroValue, typeInfo, hi0, hz0]
     obtain ⟨c1, q1, q2, _⟩ := setCells_row (e := 36) news (0 + i * 2) w.drew cur hg (by rw [hlen, hcs]; show 0 + i * 2 + (l0.length - j) * 2 ≤ cap * 2; omega)
     rw [← hW1] at q1
     have hcell1 : ∀ t, t < cap * 2 → (W1.cell? ⟨g, t, none⟩).isSome = true ∧ W1.frozen? ⟨g, t, none⟩ = false := by
      intro t ht
      refine ⟨?_, frozen_of_row W1 g t c1 36 q1⟩
      rw [cell_of_row W1 g t c1 36 (0, 0) q1, Array.getElem?_eq_getElem (by rw [q2, hcs]; exact ht)]
      rfl
     have hcl : ∀ ty, (Builtin.clear_ #[24] ty #[.slice (some ⟨g, (i + (l0.length - j)) * 2, none⟩) (l0.length - (i + (l0.length - j))) (cap - (i + (l0.length - j)))]).run Try.prog W1 = .ok (.tuple #[]) (W1.setCells g ((i + (l0.length - j)) * 2) zs) :=
      fun ty => pre_run_clear W1 24 36 ty _ Try.underlying24 hv g _ _ _ (by omega) zs hzs.symm hzo (fun t ht => (hcell1 _ (by rw [hzl] at ht; omega)).1) (fun t ht => (hcell1 _ (by rw [hzl] at ht; omega)).2)
     have hW : Hid (W1 = w.drew.setCells g (0 + i * 2) news) := hW1
     have X : Hid (∀ W, W = W1.setCells g ((i + (l0.length - j)) * 2) zs → W = (w.drew.setCells g (i * 2) ((cur.toList.take (l0.length * 2)).drop (j * 2))).setCells g ((i + (l0.length - j)) * 2) zs) := by
      intro W hWW
      rw [hWW, hW1, Nat.zero_add, hnews]
     have hic : i ≤ cap := by omega
     have hjc : j ≤ cap := by omega
     have mixed : Try.prog.follows Departure.mixedOrders = true := by kernel_rfl
     clear hW1 hcell hcell1 hone hnews hlen q1 q2 hR hil
     go_enter Try.func22, Try.ntmps22
     go_wp2_with fail
     go_region_law_o (refine step_append_room rfl (.tmp 22) (.tmp 25) 24 rfl 36 i0 2 Try.underlying24 hi0 hz1 g 0 i cap (by simp [Act.eval, Act.put]) A (l0.length - j) (cap - j) news (by simp [Act.eval, Act.put]) s1.out hsrc.out s2.out (by omega) s3.out ?_; rw [← hW.out])
     go_wp2
     go_ret
     obtain ⟨x1, x2, x3⟩ := pre_cut (d := k36) (e := 36) hB hP hbg hg hnc hcm hcs hr hij hj zs hzl (X.out _ rfl)
     rw [hzs, show l0.length - (j - i) = i + (l0.length - j) by omega] at x1
     rw [hzs] at x2 x3
     exact ⟨_, rfl, x1, x2, x3⟩

def impl_nextState.f (a0 : Bool) : Option (Int) := if a0 = true then (some 2) else (some 1)
set_option maxHeartbeats 8000000 in
set_option maxRecDepth 100000 in
theorem impl_nextState.calls (a0 : Bool) (r : Int) (w : World) (h : impl_nextState.f a0 = some r) :
  Calls Try.prog 23 #[.bool a0] w fun e w' => e = .returned (.int .i64 r) ∧ Drawn0 w w' := by
 have H : (if a0 = true then (some 2) else (some 1)) = some r := h
 clear h
 by_cases c2 : a0 = true
 ·subst c2
  rw [if_pos rfl] at H
  obtain rfl := Option.some.inj H
  go_enter Try.func23, Try.ntmps23
  go_wp2
  go_ret
  exact ⟨by first | rfl | (simp; done) | (simp [*]; done), by repeat (first | exact Drawn0.refl _ | apply Drawn0.step)⟩
 replace c2 := Bool.eq_false_iff.mpr c2
 subst c2
 rw [if_neg (show ¬ (false = true) by decide)] at H
 obtain rfl := Option.some.inj H
 go_enter Try.func23, Try.ntmps23
 go_wp2
 go_ret
 exact ⟨by first | rfl | (simp; done) | (simp [*]; done), by repeat (first | exact Drawn0.refl _ | apply Drawn0.step)⟩

end Go.Proofs.Ytefdgdloghhnaaa.P
