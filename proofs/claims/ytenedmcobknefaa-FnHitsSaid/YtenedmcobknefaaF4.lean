import Derived.Test.YtenedmcobknefaaF0
import Derived.Test.YtenedmcobknefaaF1
import Derived.Test.YtenedmcobknefaaF2
import Derived.Test.YtenedmcobknefaaF3
namespace Go.Proofs.Ytenedmcobknefaa.P
open Go.RowKit Go.Proofs.YtenedmcobknefaaW.PrintWords Go.Proofs.YtenedmcobknefaaW.PrintLast Go.Proofs.YtenedmcobknefaaW.PrintMore
attribute [local go_sem] max2_int min2_int max_two min_two max_three min_three max_four min_four   -- for this text's walks alone
set_option linter.unusedVariables false
set_option linter.unusedSimpArgs false
attribute [local go_sem high] eqA27

def spec_DrawLearn.f (k : Nat) (l0 : List Int) : Option (Int × (List (S27)) × Int × Int × Int) := (slices_xorshift_Next.f l0).bind fun bt221 => ((spec_l1Cur_learned.f k bt221.1 bt221.2.1 bt221.2.2).bind fun bt225 => ((spec_l1Cur_pick.f bt221.1 bt225.2.2.1 bt225.2.2.2 9).bind fun bt232 => ((spec_l1Cur_pick.f bt221.1 bt232.2.1 bt232.2.2 4).bind fun bt235 => ((spec_l1Cur_among.f bt221.1 bt235.2.1 bt235.2.2 (([0, 50, 100, 10000, 10001] : List Int))).bind fun bt241 => (some (bt225.1, bt225.2.1, wrap64 (1 + bt232.1), bt235.1, bt241.1))))))
theorem spec_DrawLearn.mono : ∀ a0 k, LeO (spec_DrawLearn.f k a0) (spec_DrawLearn.f (k + 1) a0) := by
 intro a0 k
 unfold spec_DrawLearn.f
 repeat' first
   | (with_reducible exact spec_l1Cur_learned.mono _ _ _ _)
   | with_reducible first | exact LeO.refl _ | exact LeO.none _ | refine LeO.ite ?_ ?_ | refine LeO.bind ?_ fun _ => ?_
set_option maxHeartbeats 8000000 in
set_option maxRecDepth 100000 in
theorem spec_DrawLearn.calls (k : Nat) (A0 : Option Addr) (c0 : Nat) (l0 : List Int) (r1 : Int) (r2 : List (S27)) (r3 : Int) (r4 : Int) (r5 : Int) (w : World) (hr0 : Kd.C (Kd.int .u8) w A0 l0.length l0) (hc0 : l0.length ≤ c0) (h : spec_DrawLearn.f k l0 = some (r1, r2, r3, r4, r5)) :
  Calls Try.prog 4 #[.slice A0 l0.length c0] w fun e w' => ∃ v1_ : Value, e = .returned (.tuple #[.agg #[.int .i64 r1, v1_], .agg #[.int .i64 r3, .int .i64 r4, .int .i64 r5]]) ∧ Kd.R k27 27 w' w.heap.size (fun _ => True) v1_ r2 ∧ Below w.heap.size w w' := by
 have hu25 := Try.underlying25
 have hu27 := Try.underlying27
 have HR0 := Aside0.mk hr0
 have HC0 := Aside0.mk hc0
 clear hr0 hc0
 have HB := Aside0.mk (Below.refl w.heap.size w)
 have H : ((slices_xorshift_Next.f l0).bind fun bt221 => ((spec_l1Cur_learned.f k bt221.1 bt221.2.1 bt221.2.2).bind fun bt225 => ((spec_l1Cur_pick.f bt221.1 bt225.2.2.1 bt225.2.2.2 9).bind fun bt232 => ((spec_l1Cur_pick.f bt221.1 bt232.2.1 bt232.2.2 4).bind fun bt235 => ((spec_l1Cur_among.f bt221.1 bt235.2.1 bt235.2.2 (([0, 50, 100, 10000, 10001] : List Int))).bind fun bt241 => (some (bt225.1, bt225.2.1, wrap64 (1 + bt232.1), bt235.1, bt241.1))))))) = some (r1, r2, r3, r4, r5) := h
 clear h
 replace H := Option.bind_eq_some_iff.mp H
 obtain ⟨⟨t221, t222, t223⟩, A20, H⟩ := H
 replace H : ((spec_l1Cur_learned.f k t221 t222 t223).bind fun bt225 => ((spec_l1Cur_pick.f t221 bt225.2.2.1 bt225.2.2.2 9).bind fun bt232 => ((spec_l1Cur_pick.f t221 bt232.2.1 bt232.2.2 4).bind fun bt235 => ((spec_l1Cur_among.f t221 bt235.2.1 bt235.2.2 (([0, 50, 100, 10000, 10001] : List Int))).bind fun bt241 => (some (bt225.1, bt225.2.1, wrap64 (1 + bt232.1), bt235.1, bt241.1)))))) = some (r1, r2, r3, r4, r5) := H
 have DE_A2 : Aside0 (t221 = l0 ∧ t222 = 0 ∧ t223 = 0) := ⟨by have h_ := A20; simp only [slices_xorshift_Next.f, Option.some.injEq, Prod.mk.injEq] at h_; exact ⟨h_.1.symm, h_.2.1.symm, h_.2.2.symm⟩⟩
 have A2 := Aside0.mk A20
 clear A20
 replace H := Option.bind_eq_some_iff.mp H
 obtain ⟨⟨t225, t226, t229, t230⟩, A30, H⟩ := H
 replace H : ((spec_l1Cur_pick.f t221 t229 t230 9).bind fun bt232 => ((spec_l1Cur_pick.f t221 bt232.2.1 bt232.2.2 4).bind fun bt235 => ((spec_l1Cur_among.f t221 bt235.2.1 bt235.2.2 (([0, 50, 100, 10000, 10001] : List Int))).bind fun bt241 => (some (t225, t226, wrap64 (1 + bt232.1), bt235.1, bt241.1))))) = some (r1, r2, r3, r4, r5) := H
 have A3 := Aside0.mk A30
 clear A30
 replace H := Option.bind_eq_some_iff.mp H
 obtain ⟨⟨t232, t233, t234⟩, A40, H⟩ := H
 replace H : ((spec_l1Cur_pick.f t221 t233 t234 4).bind fun bt235 => ((spec_l1Cur_among.f t221 bt235.2.1 bt235.2.2 (([0, 50, 100, 10000, 10001] : List Int))).bind fun bt241 => (some (t225, t226, wrap64 (1 + t232), bt235.1, bt241.1)))) = some (r1, r2, r3, r4, r5) := H
 have A4 := Aside0.mk A40
 clear A40
 replace H := Option.bind_eq_some_iff.mp H
 obtain ⟨⟨t235, t236, t237⟩, A50, H⟩ := H
 replace H : ((spec_l1Cur_among.f t221 t236 t237 (([0, 50, 100, 10000, 10001] : List Int))).bind fun bt241 => (some (t225, t226, wrap64 (1 + t232), t235, bt241.1))) = some (r1, r2, r3, r4, r5) := H
 have A5 := Aside0.mk A50
 clear A50
 obtain ⟨y238, hy238⟩ : ∃ y_ : List Int, y_ = (([0, 50, 100, 10000, 10001] : List Int)) := ⟨_, rfl⟩
 replace H : ((spec_l1Cur_among.f t221 t236 t237 y238).bind fun bt241 => (some (t225, t226, wrap64 (1 + t232), t235, bt241.1))) = some (r1, r2, r3, r4, r5) := by first | (rw [hy238]; with_reducible exact H) | (have H2_ := (Option.bind_some _ _).symm.trans H; rw [hy238]; with_reducible exact H2_) | (have H2_ := (Option.bind_some _ _).symm.trans H; with_reducible exact H2_) | with_reducible exact H | (rw [hy238]; exact H) | exact H
 have Ny238 := Aside0.mk hy238
 clear hy238
 replace H := Option.bind_eq_some_iff.mp H
 obtain ⟨⟨t241, t242, t243⟩, A60, H⟩ := H
 replace H : (some (t225, t226, wrap64 (1 + t232), t235, t241)) = some (r1, r2, r3, r4, r5) := H
 have A6 := Aside0.mk A60
 clear A60
 simp only [Option.some.injEq, Prod.mk.injEq] at H
 obtain ⟨rfl, rfl, rfl, rfl, rfl⟩ := H
 go_enter Try.func4, Try.ntmps4
 try go_wp2_with (first | ((with_reducible refine gate_dst (N := 2) rfl ?_); refine box_event ?hg (N := 2) ?hd (cs := #[.int .i64 0, .slice none 0 0]) (t := 25) ?hr ?_; (case hd => rfl); (case hg => rfl); (case hr => first | (go_simp; done) | (go_simp; rfl)); intro gb219 hg w7 hbox hb; have BK219 := Aside0.mk (hbox); have GW219 := gw_ hg HB; have GE219 := gw_ hg HB; replace HB := bst_ HB hb; clear hb hbox hg) | ((with_reducible refine gate_dst (N := 3) rfl ?_); refine box_event ?hg (N := 3) ?hd (cs := #[.int .i64 0, .int .i64 0, .int .i64 0]) (t := 27) ?hr ?_; (case hd => rfl); (case hg => rfl); (case hr => first | (go_simp; done) | (go_simp; rfl)); intro gb220 hg w8 hbox hb; have BK220 := Aside0.mk (hbox); have GW220 := gw_ hg HB; have GE220 := gw_ hg HB; have NB219_220 := nl_ hg BK219; have NB220_219 := ng_ hg BK219; replace BK219 := bb_ BK219 hb; replace HB := bst_ HB hb; clear hb hbox hg) | ((with_reducible refine gate_dst (N := 9) rfl ?_); refine box_event ?hg (N := 9) ?hd (cs := #[.slice A0 l0.length c0, .int .i64 0, .int .u64 0]) (t := 46) ?hr ?_; (case hd => rfl); (case hg => rfl); (case hr => first | (go_simp; done) | (go_simp; rfl)); intro g224 hg w9 hbox hb2; have hi : IsS46 w w9 g224 t221 t222 t223 := (by rw [DE_A2.out.1, DE_A2.out.2.1, DE_A2.out.2.2]; exact ⟨_, _, hbox, (gw_ hg HB).out, HR0.out⟩); have hb := (bst_ HB hb2).out; clear hg hbox; have HI224 := Aside0.mk (hi); have NB224_219 := Aside0.mk (IsS46.ne_blk hi (blk_below (g := gb219) (o := .cells #[.int .i64 0, .slice none 0 0] 25 (0, 0)) (ba BK219.out) hb2) (by decide)); have NB219_224 := Aside0.mk (Ne.symm (IsS46.ne_blk hi (blk_below (g := gb219) (o := .cells #[.int .i64 0, .slice none 0 0] 25 (0, 0)) (ba BK219.out) hb2) (by decide))); have NB224_220 := Aside0.mk (IsS46.ne_blk hi (blk_below (g := gb220) (o := .cells #[.int .i64 0, .int .i64 0, .int .i64 0] 27 (0, 0)) (ba BK220.out) hb2) (by decide)); have NB220_224 := Aside0.mk (Ne.symm (IsS46.ne_blk hi (blk_below (g := gb220) (o := .cells #[.int .i64 0, .int .i64 0, .int .i64 0] 27 (0, 0)) (ba BK220.out) hb2) (by decide))); replace BK219 := Aside0.mk (blk_below (g := gb219) (o := .cells #[.int .i64 0, .slice none 0 0] 25 (0, 0)) (ba BK219.out) hb2); replace BK220 := Aside0.mk (blk_below (g := gb220) (o := .cells #[.int .i64 0, .int .i64 0, .int .i64 0] 27 (0, 0)) (ba BK220.out) hb2); replace HB := Aside0.mk (hb); clear hb hb2 hi) | (refine goesL_ (some 11) rfl rfl Try.func19 (by kernel_rfl) rfl #[.pointer (some ⟨g224, 0, none⟩)] rfl tm_ ?_; (with_reducible refine (spec_l1Cur_learned.calls k g224 t221 t222 t223 t225 t226 t229 t230 w _ ?side1 ?side2 A3.out).mono ?_); (case side1 => repeat (first | (with_reducible first | exact HI224.out | apply IsS46.alloc | apply IsS46.drewN | apply IsS46.drew | apply IsS46.set_1 | apply IsS46.set_2 | refine IsS46.far ?_ NB224_219.out _ | refine IsS46.far ?_ NB224_220.out _) | exact HI224.out)); (case side2 => repeat (first | (with_reducible first | exact HB.out | apply below_alloc | apply pw_below_drewN | apply below_drew1 | refine below_set ?_ (IsS46.ge HI224.out) | refine below_set ?_ GE219.out | refine below_set ?_ GE220.out) | exact HB.out)); rintro e w10 ⟨v227, rfl, ho0, hi, hb, hk⟩; refine ⟨_, rfl, ?_⟩; have HO228 := Aside0.mk (Kd.R_lower (Kd.R_newB ho0 (g := gb220) (o := .cells #[.int .i64 0, .int .i64 0, .int .i64 0] 27 (0, 0)) (ba BK220.out)) (below_size (by repeat (first | (with_reducible first | exact HB.out | apply below_alloc | apply pw_below_drewN | apply below_drew1 | refine below_set ?_ (IsS46.ge HI224.out) | refine below_set ?_ GE219.out | refine below_set ?_ GE220.out) | exact HB.out)))); replace BK219 := Aside0.mk (KeepBut.blk hk (g' := gb219) (o := .cells #[.int .i64 0, .slice none 0 0] 25 (0, 0)) (ba BK219.out) NB219_224.out (by simp)); replace BK220 := Aside0.mk (KeepBut.blk hk (g' := gb220) (o := .cells #[.int .i64 0, .int .i64 0, .int .i64 0] 27 (0, 0)) (ba BK220.out) NB220_224.out (by simp)); replace HB := Aside0.mk (hb); replace HI224 := Aside0.mk (hi); clear hb hk hi ho0) | ((with_reducible refine gate_dst (N := 5) rfl ?_); refine box_event ?hg (N := 5) ?hd (cs := #[.int .i64 0, .slice none 0 0]) (t := 25) ?hr ?_; (case hd => rfl); (case hg => rfl); (case hr => first | (go_simp; done) | (go_simp; rfl)); intro gb231 hg w11 hbox hb; have BK231 := Aside0.mk (hbox); have GW231 := Aside0.mk ((by rw [hg]; exact (below_size (by repeat (first | (with_reducible first | exact HB.out | apply below_alloc | apply pw_below_drewN | apply below_drew1 | refine below_set ?_ (IsS46.ge HI224.out) | refine below_set ?_ GE219.out | refine below_set ?_ GE220.out) | exact HB.out))) : w.heap.size ≤ gb231)); have GE231 := Aside0.mk ((by rw [hg]; exact (below_size (by repeat (first | (with_reducible first | exact HB.out | apply below_alloc | apply pw_below_drewN | apply below_drew1 | refine below_set ?_ (IsS46.ge HI224.out) | refine below_set ?_ GE219.out | refine below_set ?_ GE220.out) | exact HB.out))) : w.heap.size ≤ gb231)); have NB219_231 := nl_ hg BK219; have NB231_219 := ng_ hg BK219; have NB220_231 := nl_ hg BK220; have NB231_220 := ng_ hg BK220; have NB224_231 := Aside0.mk ((by rw [hg]; exact Nat.ne_of_lt (IsS46.lt (show IsS46 w _ g224 t221 t229 t230 from by repeat (first | (with_reducible first | exact HI224.out | apply IsS46.alloc | apply IsS46.drewN | apply IsS46.drew | apply IsS46.set_1 | apply IsS46.set_2 | refine IsS46.far ?_ NB224_219.out _ | refine IsS46.far ?_ NB224_220.out _) | exact HI224.out))) : g224 ≠ gb231)); have NB231_224 := Aside0.mk ((by rw [hg]; exact Nat.ne_of_gt (IsS46.lt (show IsS46 w _ g224 t221 t229 t230 from by repeat (first | (with_reducible first | exact HI224.out | apply IsS46.alloc | apply IsS46.drewN | apply IsS46.drew | apply IsS46.set_1 | apply IsS46.set_2 | refine IsS46.far ?_ NB224_219.out _ | refine IsS46.far ?_ NB224_220.out _) | exact HI224.out))) : gb231 ≠ g224)); replace HO228 := rb_ HO228 hb; replace BK219 := bb_ BK219 hb; replace BK220 := bb_ BK220 hb; replace HB := Aside0.mk (below_step (by repeat (first | (with_reducible first | exact HB.out | apply below_alloc | apply pw_below_drewN | apply below_drew1 | refine below_set ?_ (IsS46.ge HI224.out) | refine below_set ?_ GE219.out | refine below_set ?_ GE220.out) | exact HB.out)) hb); replace HI224 := Aside0.mk (IsS46.below (by repeat (first | (with_reducible first | exact HI224.out | apply IsS46.alloc | apply IsS46.drewN | apply IsS46.drew | apply IsS46.set_1 | apply IsS46.set_2 | refine IsS46.far ?_ NB224_219.out _ | refine IsS46.far ?_ NB224_220.out _) | exact HI224.out)) hb); clear hb hbox hg; have hnb12 := NB231_219.out; have hnc12 := NB219_231.out; have hnb13 := NB231_220.out; have hnc13 := NB220_231.out; have hnb14 := NB231_224.out; have hnc14 := NB224_231.out; obtain ⟨hcz15_0, hcz15_1⟩ := bcs2_ BK231; have hfz15_0 := blk_frozen BK231.out 0; have hfz15_1 := blk_frozen BK231.out 1; obtain ⟨Ao16, co16, eo16⟩ := Kd.R_slice HO228.out; subst eo16) | (refine goesL_ (some 13) rfl rfl Try.func20 (by kernel_rfl) rfl #[.pointer (some ⟨g224, 0, none⟩), .int .i64 9] rfl tm_ ?_; (with_reducible refine (spec_l1Cur_pick.calls g224 t221 t229 t230 9 t232 t233 t234 w _ ?side1 ?side2 A4.out).mono ?_); (case side1 => repeat (first | (with_reducible first | exact HI224.out | apply IsS46.alloc | apply IsS46.drewN | apply IsS46.drew | apply IsS46.set_1 | apply IsS46.set_2 | refine IsS46.far ?_ NB224_219.out _ | refine IsS46.far ?_ NB224_220.out _ | refine IsS46.far ?_ NB224_231.out _) | exact HI224.out)); (case side2 => repeat (first | (with_reducible first | exact HB.out | apply below_alloc | apply pw_below_drewN | apply below_drew1 | refine below_set ?_ (IsS46.ge HI224.out) | refine below_set ?_ GE219.out | refine below_set ?_ GE220.out | refine below_set ?_ GE231.out) | exact HB.out)); rintro e w17 ⟨rfl, hi, hb, hk⟩; refine ⟨_, rfl, ?_⟩; replace BK219 := Aside0.mk (KeepBut.blk hk (g' := gb219) (o := .cells #[.int .i64 0, .slice none 0 0] 25 (0, 0)) (bx BK219) NB219_224.out (by simp)); replace BK220 := Aside0.mk (KeepBut.blk hk (g' := gb220) (o := .cells #[.int .i64 0, .int .i64 0, .int .i64 0] 27 (0, 0)) (bx BK220) NB220_224.out (by simp)); replace HO228 := Aside0.mk (Kd.R_mono (Kd.R_keep (IsS46.apart (show IsS46 w _ g224 t221 t229 t230 from by repeat (first | (with_reducible first | exact HI224.out | apply IsS46.alloc | apply IsS46.drewN | apply IsS46.drew | apply IsS46.set_1 | apply IsS46.set_2 | refine IsS46.far ?_ NB224_219.out _ | refine IsS46.far ?_ NB224_220.out _ | refine IsS46.far ?_ NB224_231.out _) | exact HI224.out)) (ra (fm2_ HO228 BK231)) (by decide)) hk (fun _ h => h.2)) (fun _ h => h.1)); replace BK231 := Aside0.mk (KeepBut.blk hk (g' := gb231) (o := .cells #[.int .i64 t225, .slice Ao16 t226.length co16] 25 (0, 0)) (by (with_reducible repeat (first | refine blk_drewN ?_ _ | refine blk_drew ?_ | refine blk_alloc ?_ _)); refine blk_put (cs := #[.int .i64 t225, .slice none 0 0]) ?_ 1 _ rfl; (with_reducible repeat (first | refine blk_drewN ?_ _ | refine blk_drew ?_ | refine blk_alloc ?_ _)); refine blk_put (cs := #[.int .i64 0, .slice none 0 0]) ?_ 0 _ rfl; (with_reducible repeat (first | refine blk_drewN ?_ _ | refine blk_drew ?_ | refine blk_alloc ?_ _)); exact BK231.out) NB231_224.out (by simp)); replace HB := Aside0.mk (hb); replace HI224 := Aside0.mk (hi); clear hb hk hi) | (refine goesL_ (some 16) rfl rfl Try.func20 (by kernel_rfl) rfl #[.pointer (some ⟨g224, 0, none⟩), .int .i64 4] rfl tm_ ?_; (with_reducible refine (spec_l1Cur_pick.calls g224 t221 t233 t234 4 t235 t236 t237 w _ ?side1 ?side2 A5.out).mono ?_); (case side1 => repeat (first | (with_reducible first | exact HI224.out | apply IsS46.alloc | apply IsS46.drewN | apply IsS46.drew | apply IsS46.set_1 | apply IsS46.set_2 | refine IsS46.far ?_ NB224_219.out _ | refine IsS46.far ?_ NB224_220.out _ | refine IsS46.far ?_ NB224_231.out _) | exact HI224.out)); (case side2 => repeat (first | (with_reducible first | exact HB.out | apply below_alloc | apply pw_below_drewN | apply below_drew1 | refine below_set ?_ (IsS46.ge HI224.out) | refine below_set ?_ GE219.out | refine below_set ?_ GE220.out | refine below_set ?_ GE231.out) | exact HB.out)); rintro e w18 ⟨rfl, hi, hb, hk⟩; refine ⟨_, rfl, ?_⟩; replace BK219 := Aside0.mk (KeepBut.blk hk (g' := gb219) (o := .cells #[.int .i64 0, .slice none 0 0] 25 (0, 0)) (ba BK219.out) NB219_224.out (by simp)); replace BK220 := Aside0.mk (KeepBut.blk hk (g' := gb220) (o := .cells #[.int .i64 0, .int .i64 0, .int .i64 0] 27 (0, 0)) (ba BK220.out) NB220_224.out (by simp)); replace HO228 := Aside0.mk (Kd.R_mono (Kd.R_keep (IsS46.apart (show IsS46 w _ g224 t221 t233 t234 from by repeat (first | (with_reducible first | exact HI224.out | apply IsS46.alloc | apply IsS46.drewN | apply IsS46.drew | apply IsS46.set_1 | apply IsS46.set_2 | refine IsS46.far ?_ NB224_219.out _ | refine IsS46.far ?_ NB224_220.out _ | refine IsS46.far ?_ NB224_231.out _) | exact HI224.out)) (ra HO228.out) (by decide)) hk (fun _ h => h.2)) (fun _ h => h.1)); replace BK231 := Aside0.mk (KeepBut.blk hk (g' := gb231) (o := .cells #[.int .i64 t225, .slice Ao16 t226.length co16] 25 (0, 0)) (ba BK231.out) NB231_224.out (by simp)); replace HB := Aside0.mk (hb); replace HI224 := Aside0.mk (hi); clear hb hk hi) | ((with_reducible refine gate_dst (N := 18) rfl ?_); refine Kd.R_lit (Kd.int .i64) _ 3 ?hg (N := 18) ?hd (xs := ([0, 50, 100, 10000, 10001] : List Int)) (inner := [.int .i64 0, .int .i64 50, .int .i64 100, .int .i64 10000, .int .i64 10001]) (ok := fun _ => True) (okp := fun _ => True) ?hr ?hp (fun _ hk => hk) trivial (Below.refl _ _) (Nat.le_refl _) (by simp) ?_; (case hd => rfl); (case hg => rfl); (case hr => first | (go_simp; done) | (go_simp; rfl)); (case hp => exact (Reps.one (show Kd.M (Kd.int .i64) _ _ _ 0 [.int .i64 0] from rfl) (Reps.one (show Kd.M (Kd.int .i64) _ _ _ 50 [.int .i64 50] from rfl) (Reps.one (show Kd.M (Kd.int .i64) _ _ _ 100 [.int .i64 100] from rfl) (Reps.one (show Kd.M (Kd.int .i64) _ _ _ 10000 [.int .i64 10000] from rfl) (Reps.one (show Kd.M (Kd.int .i64) _ _ _ 10001 [.int .i64 10001] from rfl) (Reps.none _ _))))))); intro v239 w19 ho20 hb hg_ hnew_; clear hg_ hnew_; (first | rw [← Ny238.out] at ho20 | (simp only [Int.reduceToNat] at ho20; rw [← Ny238.out] at ho20)); have HO240 := Aside0.mk (Kd.R_lower ho20 (below_size (by repeat (first | (with_reducible first | exact HB.out | apply below_alloc | apply pw_below_drewN | apply below_drew1 | refine below_set ?_ (IsS46.ge HI224.out) | refine below_set ?_ GE219.out | refine below_set ?_ GE220.out | refine below_set ?_ GE231.out) | exact HB.out)))); replace HO228 := rb_ HO228 hb; replace BK219 := bb_ BK219 hb; replace BK220 := bb_ BK220 hb; replace BK231 := bb_ BK231 hb; replace HB := Aside0.mk (below_step (by repeat (first | (with_reducible first | exact HB.out | apply below_alloc | apply pw_below_drewN | apply below_drew1 | refine below_set ?_ (IsS46.ge HI224.out) | refine below_set ?_ GE219.out | refine below_set ?_ GE220.out | refine below_set ?_ GE231.out) | exact HB.out)) hb); replace HI224 := Aside0.mk (IsS46.below (by repeat (first | (with_reducible first | exact HI224.out | apply IsS46.alloc | apply IsS46.drewN | apply IsS46.drew | apply IsS46.set_1 | apply IsS46.set_2 | refine IsS46.far ?_ NB224_219.out _ | refine IsS46.far ?_ NB224_220.out _ | refine IsS46.far ?_ NB224_231.out _) | exact HI224.out)) hb); clear hb ho20; obtain ⟨Ao21, co21, eo21⟩ := Kd.R_slice HO240.out; subst eo21) | (refine goesL_ (some 19) rfl rfl Try.func21 (by kernel_rfl) rfl #[.pointer (some ⟨g224, 0, none⟩), .slice Ao21 y238.length co21] rfl tm_ ?_; (with_reducible refine (spec_l1Cur_among.calls g224 t221 t236 t237 _ _ y238 t241 t242 t243 w _ ?side1 ?side2 ?side3 ?side4 ?side5 A6.out).mono ?_); (case side1 => repeat (first | (with_reducible first | exact HI224.out | apply IsS46.alloc | apply IsS46.drewN | apply IsS46.drew | apply IsS46.set_1 | apply IsS46.set_2 | refine IsS46.far ?_ NB224_219.out _ | refine IsS46.far ?_ NB224_220.out _ | refine IsS46.far ?_ NB224_231.out _) | exact HI224.out)); (case side2 => repeat (first | (with_reducible first | exact HB.out | apply below_alloc | apply pw_below_drewN | apply below_drew1 | refine below_set ?_ (IsS46.ge HI224.out) | refine below_set ?_ GE219.out | refine below_set ?_ GE220.out | refine below_set ?_ GE231.out) | exact HB.out)); (case side3 => exact ca (Kd.R_reads' HO240.out).2.2); (case side4 => exact (Kd.R_reads' HO240.out).2.1); (case side5 => exact far_slice (IsS46.own_ne HI224.out HO240.out (by decide))); rintro e w22 ⟨rfl, hi, hb, hk⟩; refine ⟨_, rfl, ?_⟩; replace BK219 := Aside0.mk (KeepBut.blk hk (g' := gb219) (o := .cells #[.int .i64 0, .slice none 0 0] 25 (0, 0)) (ba BK219.out) NB219_224.out (by simp)); replace BK220 := Aside0.mk (KeepBut.blk hk (g' := gb220) (o := .cells #[.int .i64 0, .int .i64 0, .int .i64 0] 27 (0, 0)) (ba BK220.out) NB220_224.out (by simp)); replace HO228 := Aside0.mk (Kd.R_mono (Kd.R_keep (IsS46.apart (show IsS46 w _ g224 t221 t236 t237 from by repeat (first | (with_reducible first | exact HI224.out | apply IsS46.alloc | apply IsS46.drewN | apply IsS46.drew | apply IsS46.set_1 | apply IsS46.set_2 | refine IsS46.far ?_ NB224_219.out _ | refine IsS46.far ?_ NB224_220.out _ | refine IsS46.far ?_ NB224_231.out _) | exact HI224.out)) (ra HO228.out) (by decide)) hk (fun _ h => h.2)) (fun _ h => h.1)); replace BK231 := Aside0.mk (KeepBut.blk hk (g' := gb231) (o := .cells #[.int .i64 t225, .slice Ao16 t226.length co16] 25 (0, 0)) (ba BK231.out) NB231_224.out (by simp)); replace HO240 := Aside0.mk (Kd.R_mono (Kd.R_keep (IsS46.apart (show IsS46 w _ g224 t221 t236 t237 from by repeat (first | (with_reducible first | exact HI224.out | apply IsS46.alloc | apply IsS46.drewN | apply IsS46.drew | apply IsS46.set_1 | apply IsS46.set_2 | refine IsS46.far ?_ NB224_219.out _ | refine IsS46.far ?_ NB224_220.out _ | refine IsS46.far ?_ NB224_231.out _) | exact HI224.out)) (ra HO240.out) (by decide)) hk (fun _ h => h.2)) (fun _ h => h.1)); replace HB := Aside0.mk (hb); replace HI224 := Aside0.mk (hi); clear hb hk hi) | ((with_reducible refine gate_dst (N := 6) rfl ?_); refine box_event ?hg (N := 6) ?hd (cs := #[.int .i64 0, .int .i64 0, .int .i64 0]) (t := 27) ?hr ?_; (case hd => rfl); (case hg => rfl); (case hr => first | (go_simp; done) | (go_simp; rfl)); intro gb244 hg w23 hbox hb; have BK244 := Aside0.mk (hbox); have GW244 := Aside0.mk ((by rw [hg]; exact (below_size (by repeat (first | (with_reducible first | exact HB.out | apply below_alloc | apply pw_below_drewN | apply below_drew1 | refine below_set ?_ (IsS46.ge HI224.out) | refine below_set ?_ GE219.out | refine below_set ?_ GE220.out | refine below_set ?_ GE231.out) | exact HB.out))) : w.heap.size ≤ gb244)); have GE244 := Aside0.mk ((by rw [hg]; exact (below_size (by repeat (first | (with_reducible first | exact HB.out | apply below_alloc | apply pw_below_drewN | apply below_drew1 | refine below_set ?_ (IsS46.ge HI224.out) | refine below_set ?_ GE219.out | refine below_set ?_ GE220.out | refine below_set ?_ GE231.out) | exact HB.out))) : w.heap.size ≤ gb244)); have NB219_244 := nl_ hg BK219; have NB244_219 := ng_ hg BK219; have NB220_244 := nl_ hg BK220; have NB244_220 := ng_ hg BK220; have NB231_244 := nl_ hg BK231; have NB244_231 := ng_ hg BK231; have NB224_244 := Aside0.mk ((by rw [hg]; exact Nat.ne_of_lt (IsS46.lt (show IsS46 w _ g224 t221 t242 t243 from by repeat (first | (with_reducible first | exact HI224.out | apply IsS46.alloc | apply IsS46.drewN | apply IsS46.drew | apply IsS46.set_1 | apply IsS46.set_2 | refine IsS46.far ?_ NB224_219.out _ | refine IsS46.far ?_ NB224_220.out _ | refine IsS46.far ?_ NB224_231.out _) | exact HI224.out))) : g224 ≠ gb244)); have NB244_224 := Aside0.mk ((by rw [hg]; exact Nat.ne_of_gt (IsS46.lt (show IsS46 w _ g224 t221 t242 t243 from by repeat (first | (with_reducible first | exact HI224.out | apply IsS46.alloc | apply IsS46.drewN | apply IsS46.drew | apply IsS46.set_1 | apply IsS46.set_2 | refine IsS46.far ?_ NB224_219.out _ | refine IsS46.far ?_ NB224_220.out _ | refine IsS46.far ?_ NB224_231.out _) | exact HI224.out))) : gb244 ≠ g224)); replace HO228 := Aside0.mk (Kd.R_below (Kd.R_elderB (ra HO228.out) gb244 (Nat.le_of_eq hg.symm)) hb); replace HO240 := rb_ HO240 hb; replace BK219 := bb_ BK219 hb; replace BK220 := bb_ BK220 hb; replace BK231 := bb_ BK231 hb; replace HB := Aside0.mk (below_step (by repeat (first | (with_reducible first | exact HB.out | apply below_alloc | apply pw_below_drewN | apply below_drew1 | refine below_set ?_ (IsS46.ge HI224.out) | refine below_set ?_ GE219.out | refine below_set ?_ GE220.out | refine below_set ?_ GE231.out) | exact HB.out)) hb); replace HI224 := Aside0.mk (IsS46.below (by repeat (first | (with_reducible first | exact HI224.out | apply IsS46.alloc | apply IsS46.drewN | apply IsS46.drew | apply IsS46.set_1 | apply IsS46.set_2 | refine IsS46.far ?_ NB224_219.out _ | refine IsS46.far ?_ NB224_220.out _ | refine IsS46.far ?_ NB224_231.out _) | exact HI224.out)) hb); clear hb hbox hg; have hnb24 := NB244_219.out; have hnc24 := NB219_244.out; have hnb25 := NB244_220.out; have hnc25 := NB220_244.out; have hnb26 := NB244_231.out; have hnc26 := NB231_244.out; have hnb27 := NB244_224.out; have hnc27 := NB224_244.out; obtain ⟨hcz28_0, hcz28_1, hcz28_2⟩ := bcs3_ BK244; have hfz28_0 := blk_frozen BK244.out 0; have hfz28_1 := blk_frozen BK244.out 1; have hfz28_2 := blk_frozen BK244.out 2))
 have n0_ : Aside0 (Kd.R k27 27 (((w23.setCell ⟨gb244, 0, none⟩ (.int .i64 (wrap64 (1 + t232)))).setCell ⟨gb244, 1, none⟩ (.int .i64 t235)).setCell ⟨gb244, 2, none⟩ (.int .i64 t241)) w.heap.size (fun k_ => k_ ≠ gb220 ∧ k_ ≠ gb244) (.slice Ao16 t226.length co16) t226) := ⟨by (with_reducible repeat (first | apply Kd.R_alloc | apply Kd.R_drewN | apply Kd.R_drew)); exact Kd.R_mono (Kd.R_far (p := ⟨gb244, 2, none⟩) (Kd.R_far (p := ⟨gb244, 1, none⟩) (Kd.R_far (p := ⟨gb244, 0, none⟩) (Kd.R_mono HO228.out (fun k_ hk => (⟨hk, hk.2⟩ : _ ∧ k_ ≠ gb244))) (fun _ hk => hk.2) (.int .i64 (wrap64 (1 + t232)))) (fun _ hk => hk.2) (.int .i64 t235)) (fun _ hk => hk.2) (.int .i64 t241)) (fun _ hk => ⟨hk.1.1.2, hk.1.2⟩)⟩
 have n1_ : Aside0 (Kd.R (Kd.int .i64) 3 (((w23.setCell ⟨gb244, 0, none⟩ (.int .i64 (wrap64 (1 + t232)))).setCell ⟨gb244, 1, none⟩ (.int .i64 t235)).setCell ⟨gb244, 2, none⟩ (.int .i64 t241)) w.heap.size (fun _ => True) (.slice Ao21 y238.length co21) y238) := ⟨by (with_reducible repeat (first | apply Kd.R_alloc | apply Kd.R_drewN | apply Kd.R_drew)); exact Kd.R_mono (Kd.R_far (p := ⟨gb244, 2, none⟩) (Kd.R_far (p := ⟨gb244, 1, none⟩) (Kd.R_far (p := ⟨gb244, 0, none⟩) (Kd.R_types HO240.out BK244.out (by decide)) (fun _ hk => hk.2) (.int .i64 (wrap64 (1 + t232)))) (fun _ hk => hk.2) (.int .i64 t235)) (fun _ hk => hk.2) (.int .i64 t241)) (fun _ hk => trivial)⟩
 have n2_ : Aside0 ((((w23.setCell ⟨gb244, 0, none⟩ (.int .i64 (wrap64 (1 + t232)))).setCell ⟨gb244, 1, none⟩ (.int .i64 t235)).setCell ⟨gb244, 2, none⟩ (.int .i64 t241)).heap[gb219]? = some (.cells #[.int .i64 0, .slice none 0 0] 25 (0, 0))) := ⟨by (with_reducible repeat (first | refine blk_drewN ?_ _ | refine blk_drew ?_ | refine blk_alloc ?_ _)); refine blk_far ?_ NB219_244.out _; (with_reducible repeat (first | refine blk_drewN ?_ _ | refine blk_drew ?_ | refine blk_alloc ?_ _)); refine blk_far ?_ NB219_244.out _; (with_reducible repeat (first | refine blk_drewN ?_ _ | refine blk_drew ?_ | refine blk_alloc ?_ _)); refine blk_far ?_ NB219_244.out _; (with_reducible repeat (first | refine blk_drewN ?_ _ | refine blk_drew ?_ | refine blk_alloc ?_ _)); exact BK219.out⟩
 have n3_ : Aside0 ((((w23.setCell ⟨gb244, 0, none⟩ (.int .i64 (wrap64 (1 + t232)))).setCell ⟨gb244, 1, none⟩ (.int .i64 t235)).setCell ⟨gb244, 2, none⟩ (.int .i64 t241)).heap[gb220]? = some (.cells #[.int .i64 0, .int .i64 0, .int .i64 0] 27 (0, 0))) := ⟨by (with_reducible repeat (first | refine blk_drewN ?_ _ | refine blk_drew ?_ | refine blk_alloc ?_ _)); refine blk_far ?_ NB220_244.out _; (with_reducible repeat (first | refine blk_drewN ?_ _ | refine blk_drew ?_ | refine blk_alloc ?_ _)); refine blk_far ?_ NB220_244.out _; (with_reducible repeat (first | refine blk_drewN ?_ _ | refine blk_drew ?_ | refine blk_alloc ?_ _)); refine blk_far ?_ NB220_244.out _; (with_reducible repeat (first | refine blk_drewN ?_ _ | refine blk_drew ?_ | refine blk_alloc ?_ _)); exact BK220.out⟩
 have n4_ : Aside0 ((((w23.setCell ⟨gb244, 0, none⟩ (.int .i64 (wrap64 (1 + t232)))).setCell ⟨gb244, 1, none⟩ (.int .i64 t235)).setCell ⟨gb244, 2, none⟩ (.int .i64 t241)).heap[gb231]? = some (.cells #[.int .i64 t225, .slice Ao16 t226.length co16] 25 (0, 0))) := ⟨by (with_reducible repeat (first | refine blk_drewN ?_ _ | refine blk_drew ?_ | refine blk_alloc ?_ _)); refine blk_far ?_ NB231_244.out _; (with_reducible repeat (first | refine blk_drewN ?_ _ | refine blk_drew ?_ | refine blk_alloc ?_ _)); refine blk_far ?_ NB231_244.out _; (with_reducible repeat (first | refine blk_drewN ?_ _ | refine blk_drew ?_ | refine blk_alloc ?_ _)); refine blk_far ?_ NB231_244.out _; (with_reducible repeat (first | refine blk_drewN ?_ _ | refine blk_drew ?_ | refine blk_alloc ?_ _)); exact BK231.out⟩
 have n5_ : Aside0 ((((w23.setCell ⟨gb244, 0, none⟩ (.int .i64 (wrap64 (1 + t232)))).setCell ⟨gb244, 1, none⟩ (.int .i64 t235)).setCell ⟨gb244, 2, none⟩ (.int .i64 t241)).heap[gb244]? = some (.cells #[.int .i64 (wrap64 (1 + t232)), .int .i64 t235, .int .i64 t241] 27 (0, 0))) := ⟨by (with_reducible repeat (first | refine blk_drewN ?_ _ | refine blk_drew ?_ | refine blk_alloc ?_ _)); refine blk_put (cs := #[.int .i64 (wrap64 (1 + t232)), .int .i64 t235, .int .i64 0]) ?_ 2 _ rfl; (with_reducible repeat (first | refine blk_drewN ?_ _ | refine blk_drew ?_ | refine blk_alloc ?_ _)); refine blk_put (cs := #[.int .i64 (wrap64 (1 + t232)), .int .i64 0, .int .i64 0]) ?_ 1 _ rfl; (with_reducible repeat (first | refine blk_drewN ?_ _ | refine blk_drew ?_ | refine blk_alloc ?_ _)); refine blk_put (cs := #[.int .i64 0, .int .i64 0, .int .i64 0]) ?_ 0 _ rfl; (with_reducible repeat (first | refine blk_drewN ?_ _ | refine blk_drew ?_ | refine blk_alloc ?_ _)); exact BK244.out⟩
 have n6_ : Aside0 (IsS46 w (((w23.setCell ⟨gb244, 0, none⟩ (.int .i64 (wrap64 (1 + t232)))).setCell ⟨gb244, 1, none⟩ (.int .i64 t235)).setCell ⟨gb244, 2, none⟩ (.int .i64 t241)) g224 t221 t242 t243) := ⟨by repeat (first | (with_reducible first | exact HI224.out | apply IsS46.alloc | apply IsS46.drewN | apply IsS46.drew | apply IsS46.set_1 | apply IsS46.set_2 | refine IsS46.far ?_ NB224_219.out _ | refine IsS46.far ?_ NB224_220.out _ | refine IsS46.far ?_ NB224_231.out _ | refine IsS46.far ?_ NB224_244.out _) | exact HI224.out)⟩
 have n7_ : Aside0 (Below w.heap.size w (((w23.setCell ⟨gb244, 0, none⟩ (.int .i64 (wrap64 (1 + t232)))).setCell ⟨gb244, 1, none⟩ (.int .i64 t235)).setCell ⟨gb244, 2, none⟩ (.int .i64 t241))) := ⟨by repeat (first | (with_reducible first | exact HB.out | apply below_alloc | apply pw_below_drewN | apply below_drew1 | refine below_set ?_ (IsS46.ge HI224.out) | refine below_set ?_ GE219.out | refine below_set ?_ GE220.out | refine below_set ?_ GE231.out | refine below_set ?_ GE244.out) | exact HB.out)⟩
 (try clear HO228)
 (try clear HO240)
 (try clear BK219)
 (try clear BK220)
 (try clear BK231)
 (try clear BK244)
 (try clear HI224)
 (try clear HB)
 generalize (((w23.setCell ⟨gb244, 0, none⟩ (.int .i64 (wrap64 (1 + t232)))).setCell ⟨gb244, 1, none⟩ (.int .i64 t235)).setCell ⟨gb244, 2, none⟩ (.int .i64 t241)) = w29 at n0_ n1_ n2_ n3_ n4_ n5_ n6_ n7_ ⊢
 have HO228 := n0_
 have HO240 := n1_
 have BK219 := n2_
 have BK220 := n3_
 have BK231 := n4_
 have BK244 := n5_
 have HI224 := n6_
 have HB := n7_
 clear n0_ n1_ n2_ n3_ n4_ n5_ n6_ n7_
 replace HO228 := rd_ HO228
 replace HO240 := rd_ HO240
 replace BK219 := bd_ BK219
 replace BK220 := bd_ BK220
 replace BK231 := bd_ BK231
 replace BK244 := bd_ BK244
 replace HI224 := Aside0.mk (IsS46.drew HI224.out)
 replace HB := Aside0.mk (below_drew1 HB.out)
 refine start_ (n := 4) (S := fun w' => w'.cell? ⟨gb231, 0, none⟩ = some (.int .i64 t225) ∧ w'.cell? ⟨gb231, 1, none⟩ = some (.slice Ao16 t226.length co16) ∧ w'.cell? ⟨gb244, 0, none⟩ = some (.int .i64 (wrap64 (1 + t232))) ∧ w'.cell? ⟨gb244, 1, none⟩ = some (.int .i64 t235) ∧ w'.cell? ⟨gb244, 2, none⟩ = some (.int .i64 t241)) (ds := []) #[false, false, false, false] (by kernel_rfl) rfl rfl ⟨bc_ BK231 0, bc_ BK231 1, bc_ BK244 0, bc_ BK244 1, bc_ BK244 2⟩ (fun hHeld => ?_)
 generalize w29.drew = w30 at HO228 HO240 BK219 BK220 BK231 BK244 HI224 HB hHeld ⊢
 refine take_ (i := 0) (N := some 21) (v := ?_) (a' := ?_) #[true, false, false, false] rfl rfl (by kernel_rfl) (fun _ _ _ h => h) (Or.inl ⟨by rfl, ?_⟩) hHeld ?_ ?_
 rotate_left
 ·rintro w' ⟨s0, s1, s2, s3, s4⟩
  go_simp
  with_reducible rfl
 rotate_left
 ·simp only [Act.put, List.setIfInBounds_toArray, List.set_cons_zero, List.set_cons_succ, i64_w, i32_w]
  rfl
 refine take_ (i := 1) (N := some 22) (v := ?_) (a' := ?_) #[true, true, false, false] rfl rfl (by kernel_rfl) (fun _ _ _ h => h) (Or.inl ⟨by rfl, ?_⟩) hHeld ?_ ?_
 rotate_left
 ·rintro w' ⟨s0, s1, s2, s3, s4⟩
  go_simp
  with_reducible rfl
 rotate_left
 ·simp only [Act.put, List.setIfInBounds_toArray, List.set_cons_zero, List.set_cons_succ, i64_w, i32_w]
  rfl
 refine one_ (i := 2) (N := none) #[true, true, true, false] rfl rfl (by kernel_rfl) (by decide) (fun K hK => ?_)
 have hs31 : w30.cell? ⟨gb219, 0, none⟩ = some (.int .i64 0) := bc_ BK219 0
 have hfs31 := blk_frozen BK219.out 0
 have hns31_1 := NB220_219.out
 have hns31_2 := NB231_219.out
 have hns31_3 := NB244_219.out
 have hms31_1 := NB219_220.out
 have hms31_2 := NB219_231.out
 have hms31_3 := NB219_244.out
 have hs32 : w30.cell? ⟨gb219, 1, none⟩ = some (.slice none 0 0) := bc_ BK219 1
 have hfs32 := blk_frozen BK219.out 1
 have hns32_1 := NB220_219.out
 have hns32_2 := NB231_219.out
 have hns32_3 := NB244_219.out
 have hms32_1 := NB219_220.out
 have hms32_2 := NB219_231.out
 have hms32_3 := NB219_244.out
 refine skip_ (w1 := ?_) (by rfl) rfl ?_ ?_
 rotate_left
 ·go_simp
  rfl
 refine hK.out _ _ ⟨((cell_far (p := ⟨gb219, _, none⟩) NB231_219.out _).trans (((cell_far (p := ⟨gb219, _, none⟩) NB231_219.out _).trans (hHeld.1)))), ((cell_far (p := ⟨gb219, _, none⟩) NB231_219.out _).trans (((cell_far (p := ⟨gb219, _, none⟩) NB231_219.out _).trans (hHeld.2.1)))), ((cell_far (p := ⟨gb219, _, none⟩) NB244_219.out _).trans (((cell_far (p := ⟨gb219, _, none⟩) NB244_219.out _).trans (hHeld.2.2.1)))), ((cell_far (p := ⟨gb219, _, none⟩) NB244_219.out _).trans (((cell_far (p := ⟨gb219, _, none⟩) NB244_219.out _).trans (hHeld.2.2.2.1)))), ((cell_far (p := ⟨gb219, _, none⟩) NB244_219.out _).trans (((cell_far (p := ⟨gb219, _, none⟩) NB244_219.out _).trans (hHeld.2.2.2.2))))⟩ (fun hHeld => ?_)
 clear hK K
 refine one_ (i := 3) (N := none) #[true, true, true, true] rfl rfl (by kernel_rfl) (by decide) (fun K hK => ?_)
 have hs33 : w30.cell? ⟨gb220, 0, none⟩ = some (.int .i64 0) := bc_ BK220 0
 have hfs33 := blk_frozen BK220.out 0
 have hns33_0 := NB219_220.out
 have hns33_2 := NB231_220.out
 have hns33_3 := NB244_220.out
 have hms33_0 := NB220_219.out
 have hms33_2 := NB220_231.out
 have hms33_3 := NB220_244.out
 have hs34 : w30.cell? ⟨gb220, 1, none⟩ = some (.int .i64 0) := bc_ BK220 1
 have hfs34 := blk_frozen BK220.out 1
 have hns34_0 := NB219_220.out
 have hns34_2 := NB231_220.out
 have hns34_3 := NB244_220.out
 have hms34_0 := NB220_219.out
 have hms34_2 := NB220_231.out
 have hms34_3 := NB220_244.out
 have hs35 : w30.cell? ⟨gb220, 2, none⟩ = some (.int .i64 0) := bc_ BK220 2
 have hfs35 := blk_frozen BK220.out 2
 have hns35_0 := NB219_220.out
 have hns35_2 := NB231_220.out
 have hns35_3 := NB244_220.out
 have hms35_0 := NB220_219.out
 have hms35_2 := NB220_231.out
 have hms35_3 := NB220_244.out
 refine skip_ (w1 := ?_) (by rfl) rfl ?_ ?_
 rotate_left
 ·go_simp
  rfl
 refine hK.out _ _ ⟨((cell_far (p := ⟨gb220, _, none⟩) NB231_220.out _).trans (((cell_far (p := ⟨gb220, _, none⟩) NB231_220.out _).trans (((cell_far (p := ⟨gb220, _, none⟩) NB231_220.out _).trans (hHeld.1)))))), ((cell_far (p := ⟨gb220, _, none⟩) NB231_220.out _).trans (((cell_far (p := ⟨gb220, _, none⟩) NB231_220.out _).trans (((cell_far (p := ⟨gb220, _, none⟩) NB231_220.out _).trans (hHeld.2.1)))))), ((cell_far (p := ⟨gb220, _, none⟩) NB244_220.out _).trans (((cell_far (p := ⟨gb220, _, none⟩) NB244_220.out _).trans (((cell_far (p := ⟨gb220, _, none⟩) NB244_220.out _).trans (hHeld.2.2.1)))))), ((cell_far (p := ⟨gb220, _, none⟩) NB244_220.out _).trans (((cell_far (p := ⟨gb220, _, none⟩) NB244_220.out _).trans (((cell_far (p := ⟨gb220, _, none⟩) NB244_220.out _).trans (hHeld.2.2.2.1)))))), ((cell_far (p := ⟨gb220, _, none⟩) NB244_220.out _).trans (((cell_far (p := ⟨gb220, _, none⟩) NB244_220.out _).trans (((cell_far (p := ⟨gb220, _, none⟩) NB244_220.out _).trans (hHeld.2.2.2.2))))))⟩ (fun hHeld => ?_)
 clear hK K
 refine done_ (by kernel_rfl) ?_
 try go_wp2
 refine bodyPost_ret (results_cc rfl _ _ gb219 gb220 25 27 #[.int .i64 t225, .slice Ao16 t226.length co16] #[.int .i64 (wrap64 (1 + t232)), .int .i64 t235, .int .i64 t241] (0, 0) (0, 0) _ _ rfl (by (with_reducible repeat (first | refine blk_drewN ?_ _ | refine blk_drew ?_ | refine blk_alloc ?_ _)); refine blk_far ?_ NB219_220.out _; (with_reducible repeat (first | refine blk_drewN ?_ _ | refine blk_drew ?_ | refine blk_alloc ?_ _)); refine blk_far ?_ NB219_220.out _; (with_reducible repeat (first | refine blk_drewN ?_ _ | refine blk_drew ?_ | refine blk_alloc ?_ _)); refine blk_far ?_ NB219_220.out _; (with_reducible repeat (first | refine blk_drewN ?_ _ | refine blk_drew ?_ | refine blk_alloc ?_ _)); refine blk_put (cs := #[.int .i64 t225, .slice none 0 0]) ?_ 1 _ rfl; (with_reducible repeat (first | refine blk_drewN ?_ _ | refine blk_drew ?_ | refine blk_alloc ?_ _)); refine blk_put (cs := #[.int .i64 0, .slice none 0 0]) ?_ 0 _ rfl; (with_reducible repeat (first | refine blk_drewN ?_ _ | refine blk_drew ?_ | refine blk_alloc ?_ _)); exact BK219.out) Try.underlying25 rfl (by kernel_rfl) rfl (by (with_reducible repeat (first | refine blk_drewN ?_ _ | refine blk_drew ?_ | refine blk_alloc ?_ _)); refine blk_put (cs := #[.int .i64 (wrap64 (1 + t232)), .int .i64 t235, .int .i64 0]) ?_ 2 _ rfl; (with_reducible repeat (first | refine blk_drewN ?_ _ | refine blk_drew ?_ | refine blk_alloc ?_ _)); refine blk_put (cs := #[.int .i64 (wrap64 (1 + t232)), .int .i64 0, .int .i64 0]) ?_ 1 _ rfl; (with_reducible repeat (first | refine blk_drewN ?_ _ | refine blk_drew ?_ | refine blk_alloc ?_ _)); refine blk_put (cs := #[.int .i64 0, .int .i64 0, .int .i64 0]) ?_ 0 _ rfl; (with_reducible repeat (first | refine blk_drewN ?_ _ | refine blk_drew ?_ | refine blk_alloc ?_ _)); refine blk_far ?_ NB220_219.out _; (with_reducible repeat (first | refine blk_drewN ?_ _ | refine blk_drew ?_ | refine blk_alloc ?_ _)); refine blk_far ?_ NB220_219.out _; (with_reducible repeat (first | refine blk_drewN ?_ _ | refine blk_drew ?_ | refine blk_alloc ?_ _)); exact BK220.out) Try.underlying27 rfl (by kernel_rfl)) rfl ?_
 exact ⟨_, rt_, by (with_reducible repeat (first | apply Kd.R_alloc | apply Kd.R_drewN | apply Kd.R_drew)); exact Kd.R_mono (Kd.R_far (p := ⟨gb220, 2, none⟩) (Kd.R_far (p := ⟨gb220, 1, none⟩) (Kd.R_far (p := ⟨gb220, 0, none⟩) (Kd.R_far (p := ⟨gb219, 1, none⟩) (Kd.R_far (p := ⟨gb219, 0, none⟩) (Kd.R_mono (Kd.R_types HO228.out BK219.out (by decide)) (fun k_ hk => (⟨hk, hk.1.1⟩ : _ ∧ k_ ≠ gb220))) (fun _ hk => hk.1.2) (.int .i64 t225)) (fun _ hk => hk.1.2) (.slice Ao16 t226.length co16)) (fun _ hk => hk.2) (.int .i64 (wrap64 (1 + t232)))) (fun _ hk => hk.2) (.int .i64 t235)) (fun _ hk => hk.2) (.int .i64 t241)) (fun _ hk => trivial), by repeat (first | (with_reducible first | exact HB.out | apply below_alloc | apply pw_below_drewN | apply below_drew1 | refine below_set ?_ (IsS46.ge HI224.out) | refine below_set ?_ GE219.out | refine below_set ?_ GE220.out | refine below_set ?_ GE231.out | refine below_set ?_ GE244.out) | exact HB.out)⟩

def impl_in.f (a0 : Int) (a1 : Int) (a2 : Int) : Option (Bool) := if a0 ≥ a1 then (some (decide (a0 ≤ a2))) else (some false)
set_option maxHeartbeats 8000000 in
set_option maxRecDepth 100000 in
theorem impl_in.calls (a0 : Int) (a1 : Int) (a2 : Int) (r : Bool) (w : World) (h : impl_in.f a0 a1 a2 = some r) :
  Calls Try.prog 26 #[.int .i64 a0, .int .i64 a1, .int .i64 a2] w fun e w' => e = .returned (.bool r) ∧ Drawn0 w w' := by
 have H : (if a0 ≥ a1 then (some (decide (a0 ≤ a2))) else (some false)) = some r := h
 clear h
 by_cases c4 : a0 ≥ a1
 ·rw [if_pos c4] at H
  have c4b0 : decide (a1 ≤ a0) = true := decide_eq_true c4
  clear c4
  obtain rfl := Option.some.inj H
  go_enter Try.func26, Try.ntmps26
  go_wp2
  go_ret
  exact ⟨by first | rfl | (simp; done) | (simp [*]; done), by repeat (first | exact Drawn0.refl _ | apply Drawn0.step)⟩
 rw [if_neg c4] at H
 have c4b0 : decide (a1 ≤ a0) = false := decide_eq_false c4
 clear c4
 obtain rfl := Option.some.inj H
 go_enter Try.func26, Try.ntmps26
 go_wp2
 go_ret
 exact ⟨by first | rfl | (simp; done) | (simp [*]; done), by repeat (first | exact Drawn0.refl _ | apply Drawn0.step)⟩

def impl_isSeen.f (a0_0 : Int) (a0_1 : Int) (a0_2 : Int) : Option (Bool) := (impl_in.f a0_0 1 99).bind fun t246 => (if t246 = true then ((impl_in.f a0_1 0 9).bind fun t247 => (if t247 = true then ((impl_in.f a0_2 0 10000).bind fun t248 => (some t248)) else (some false))) else (some false))
set_option maxHeartbeats 8000000 in
set_option maxRecDepth 100000 in
theorem impl_isSeen.calls (a0_0 : Int) (a0_1 : Int) (a0_2 : Int) (r : Bool) (w : World) (h : impl_isSeen.f a0_0 a0_1 a0_2 = some r) :
  Calls Try.prog 22 #[.agg #[.int .i64 a0_0, .int .i64 a0_1, .int .i64 a0_2]] w fun e w' => e = .returned (.bool r) ∧ Below w.heap.size w w' := by
 have hu27 := Try.underlying27
 have HB := Aside0.mk (Below.refl w.heap.size w)
 have H : ((impl_in.f a0_0 1 99).bind fun t246 => (if t246 = true then ((impl_in.f a0_1 0 9).bind fun t247 => (if t247 = true then ((impl_in.f a0_2 0 10000).bind fun t248 => (some t248)) else (some false))) else (some false))) = some r := h
 clear h
 replace H := Option.bind_eq_some_iff.mp H
 obtain ⟨t246, A20, H⟩ := H
 replace H : (if t246 = true then ((impl_in.f a0_1 0 9).bind fun t247 => (if t247 = true then ((impl_in.f a0_2 0 10000).bind fun t248 => (some t248)) else (some false))) else (some false)) = some r := H
 have A2 := Aside0.mk A20
 clear A20
 by_cases c3 : t246 = true
 rotate_left
 ·replace c3 := Bool.eq_false_iff.mpr c3
  subst c3
  rw [if_neg (show ¬ (false = true) by decide)] at H
  obtain rfl := Option.some.inj H
  go_enter Try.func22, Try.ntmps22
  go_wp2_with (first | ((with_reducible refine gate_dst (N := 1) rfl ?_); refine box_event ?hg (N := 1) ?hd (cs := #[.int .i64 a0_0, .int .i64 a0_1, .int .i64 a0_2]) (t := 27) ?hr ?_; (case hd => rfl); (case hg => rfl); (case hr => first | (go_simp; done) | (go_simp; rfl)); intro gb245 hg w11 hbox hb; have BK245 := Aside0.mk (hbox); have GW245 := gw_ hg HB; have GE245 := gw_ hg HB; replace HB := bst_ HB hb; clear hb hbox hg; obtain ⟨hcz12_0, hcz12_1, hcz12_2⟩ := bcs3_ BK245) | (refine goesL_ (some 5) rfl rfl Try.func26 (by kernel_rfl) rfl #[.int .i64 a0_0, .int .i64 1, .int .i64 99] rfl tm_ ?_; (with_reducible refine (impl_in.calls a0_0 1 99 false _ A2.out).mono ?_); rintro e w' ⟨rfl, ⟨nd, rfl⟩⟩; refine ⟨_, rfl, ?_⟩))
  go_ret
  exact ⟨rt_, hB HB⟩
 subst c3
 rw [if_pos rfl] at H
 replace H := Option.bind_eq_some_iff.mp H
 obtain ⟨t247, A40, H⟩ := H
 replace H : (if t247 = true then ((impl_in.f a0_2 0 10000).bind fun t248 => (some t248)) else (some false)) = some r := H
 have A4 := Aside0.mk A40
 clear A40
 by_cases c5 : t247 = true
 rotate_left
 ·replace c5 := Bool.eq_false_iff.mpr c5
  subst c5
  rw [if_neg (show ¬ (false = true) by decide)] at H
  obtain rfl := Option.some.inj H
  go_enter Try.func22, Try.ntmps22
  go_wp2_with (first | ((with_reducible refine gate_dst (N := 1) rfl ?_); refine box_event ?hg (N := 1) ?hd (cs := #[.int .i64 a0_0, .int .i64 a0_1, .int .i64 a0_2]) (t := 27) ?hr ?_; (case hd => rfl); (case hg => rfl); (case hr => first | (go_simp; done) | (go_simp; rfl)); intro gb245 hg w9 hbox hb; have BK245 := Aside0.mk (hbox); have GW245 := gw_ hg HB; have GE245 := gw_ hg HB; replace HB := bst_ HB hb; clear hb hbox hg; obtain ⟨hcz10_0, hcz10_1, hcz10_2⟩ := bcs3_ BK245) | (refine goesL_ (some 5) rfl rfl Try.func26 (by kernel_rfl) rfl #[.int .i64 a0_0, .int .i64 1, .int .i64 99] rfl tm_ ?_; (with_reducible refine (impl_in.calls a0_0 1 99 true _ A2.out).mono ?_); rintro e w' ⟨rfl, ⟨nd, rfl⟩⟩; refine ⟨_, rfl, ?_⟩) | (go_at_call 26; (with_reducible refine (impl_in.calls a0_1 0 9 false _ A4.out).mono ?_); rintro e w' ⟨rfl, ⟨nd, rfl⟩⟩))
  go_ret
  exact ⟨rt_, hB HB⟩
 subst c5
 rw [if_pos rfl] at H
 replace H := Option.bind_eq_some_iff.mp H
 obtain ⟨t248, A60, H⟩ := H
 replace H : (some t248) = some r := H
 have A6 := Aside0.mk A60
 clear A60
 obtain rfl := Option.some.inj H
 go_enter Try.func22, Try.ntmps22
 go_wp2_with (first | ((with_reducible refine gate_dst (N := 1) rfl ?_); refine box_event ?hg (N := 1) ?hd (cs := #[.int .i64 a0_0, .int .i64 a0_1, .int .i64 a0_2]) (t := 27) ?hr ?_; (case hd => rfl); (case hg => rfl); (case hr => first | (go_simp; done) | (go_simp; rfl)); intro gb245 hg w7 hbox hb; have BK245 := Aside0.mk (hbox); have GW245 := gw_ hg HB; have GE245 := gw_ hg HB; replace HB := bst_ HB hb; clear hb hbox hg; obtain ⟨hcz8_0, hcz8_1, hcz8_2⟩ := bcs3_ BK245) | (refine goesL_ (some 5) rfl rfl Try.func26 (by kernel_rfl) rfl #[.int .i64 a0_0, .int .i64 1, .int .i64 99] rfl tm_ ?_; (with_reducible refine (impl_in.calls a0_0 1 99 true _ A2.out).mono ?_); rintro e w' ⟨rfl, ⟨nd, rfl⟩⟩; refine ⟨_, rfl, ?_⟩) | (go_at_call 26; (with_reducible refine (impl_in.calls a0_1 0 9 true _ A4.out).mono ?_); rintro e w' ⟨rfl, ⟨nd, rfl⟩⟩) | (go_at_call 26; (with_reducible refine (impl_in.calls a0_2 0 10000 t248 _ A6.out).mono ?_); rintro e w' ⟨rfl, ⟨nd, rfl⟩⟩))
 go_ret
 exact ⟨rt_, hB HB⟩

def impl_Seen.l0 (p_ : Int → Int → Int → Option Bool) : Nat → List (S27) → Int → Int → Option (Int)
 | 0, _, _, _ => none
 | k + 1, x0, x7, x8 => if x8 < x7 then (if 0 ≤ x8 then (if x8 < (x0.length : Int) then ((p_ ((rd_T27 x0 x8).f0) ((rd_T27 x0 x8).f1) ((rd_T27 x0 x8).f2)).bind fun t250 => (if t250 = true then (some x8) else (impl_Seen.l0 p_ k x0 x7 (wrap64 (x8 + 1))))) else (none)) else (none)) else (some (-1))
def impl_Seen.f (k : Nat) (l0 : List (S27)) (p_ : Int → Int → Int → Option Bool) : Option (Int) := impl_Seen.l0 p_ k l0 (l0.length : Int) 0
theorem impl_Seen.mono_l (p_ : Int → Int → Int → Option Bool) : ∀ k, (∀ y0 y1 y2, LeO (impl_Seen.l0 p_ k y0 y1 y2) (impl_Seen.l0 p_ (k + 1) y0 y1 y2))
 | 0 => fun _ _ _ r h => by simp [impl_Seen.l0] at h
 | k + 1 => by
  have ih0 := impl_Seen.mono_l p_ k
  ·intro y0 y1 y2
   unfold impl_Seen.l0
   repeat' first
   | (with_reducible exact ih0 _ _ _)
   | with_reducible first | exact LeO.refl _ | exact LeO.none _ | refine LeO.ite ?_ ?_ | refine LeO.bind ?_ fun _ => ?_
theorem impl_Seen.mono : ∀ a0 a1 k, LeO (impl_Seen.f k a0 a1) (impl_Seen.f (k + 1) a0 a1) := by
 intro a0 a1 k
 have ih0 := impl_Seen.mono_l a1 k
 unfold impl_Seen.f
 repeat' first
   | (with_reducible exact ih0 _ _ _)
   | with_reducible first | exact LeO.refl _ | exact LeO.none _ | refine LeO.ite ?_ ?_ | refine LeO.bind ?_ fun _ => ?_
set_option maxHeartbeats 8000000 in
set_option maxRecDepth 100000 in
theorem impl_Seen.calls38 (k : Nat) (A0 : Option Addr) (c0 : Nat) (l0 : List (S27)) (p_ : Int → Int → Int → Option Bool) (gB0 : Nat) (r : Int) (w : World) (hr0 : Kd.C k27 w A0 l0.length l0) (hc0 : l0.length ≤ c0) (hp_ : ∀ (W : World) (x y z : Int) (t : Bool), Below w.heap.size w W → p_ x y z = some t → Calls Try.prog 38 #[.agg #[.int .i64 x, .int .i64 y, .int .i64 z], .pointer (some ⟨gB0, 0, none⟩)] W fun e w' => e = .returned (.bool t) ∧ Below W.heap.size W w') (h : impl_Seen.f k l0 p_ = some r) :
  Calls Try.prog 37 #[.slice A0 l0.length c0, .func (.func 38) #[] #[.pointer (some ⟨gB0, 0, none⟩)]] w fun e w' => e = .returned (.int .i64 r) ∧ Below w.heap.size w w' := by
 have HP_ := Aside0.mk hp_
 clear hp_
 have hu27 := Try.underlying27
 have HR0 := Aside0.mk hr0
 have HC0 := Aside0.mk hc0
 clear hr0 hc0
 have HB := Aside0.mk (Below.refl w.heap.size w)
 have H : (impl_Seen.l0 p_ k l0 (l0.length : Int) 0) = some r := h
 clear h
 have H' := Aside0.mk H
 clear H
 go_enter Try.func37, Try.ntmps37
 go_wp2
 go_loopg [8] k (fun kq v8 w' => ∃ (x8_1 : Int), v8 = .int .i64 x8_1 ∧ Aside0 (impl_Seen.l0 p_ kq l0 (l0.length : Int) x8_1 = some r) ∧ Aside0 (kq ≤ k) ∧ Aside0 (Below w.heap.size w w'))
 case atStart => exact ⟨(0), (by first | rfl | (simp; done) | (simp [*]; done)), H', ⟨Nat.le_refl _⟩, ⟨hB HB⟩⟩
 case round =>
  clear H'
  obtain ⟨x8_1, rfl, HA, HK1, HB⟩ := hrel
  cases gk with
  | zero => exact absurd HA.out (by simp [impl_Seen.l0])
  | succ k1 =>
   have H := HA.out
   clear HA
   simp only [impl_Seen.l0] at H
   by_cases c3 : x8_1 < (l0.length : Int)
   rotate_left
   ·rw [if_neg c3] at H
    have c3b0 : decide (x8_1 < (l0.length : Int)) = false := decide_eq_false c3
    clear c3
    obtain rfl := Option.some.inj H
    go_wp2
    go_ret
    exact ⟨rt_, hB HB⟩
   rw [if_pos c3] at H
   have c3b0 : decide (x8_1 < (l0.length : Int)) = true := decide_eq_true c3
   clear c3
   by_cases c4 : 0 ≤ x8_1
   rotate_left
   ·rw [if_neg c4] at H
    exact absurd H (by simp)
   rw [if_pos c4] at H
   have c4b0 : decide (0 ≤ x8_1) = true := decide_eq_true c4
   clear c4
   by_cases c5 : x8_1 < (l0.length : Int)
   rotate_left
   ·rw [if_neg c5] at H
    exact absurd H (by simp)
   rw [if_pos c5] at H
   have c5b0 : decide (x8_1 < (l0.length : Int)) = true := decide_eq_true c5
   clear c5
   replace H := Option.bind_eq_some_iff.mp H
   obtain ⟨t250, A60, H⟩ := H
   replace H : (if t250 = true then (some x8_1) else (impl_Seen.l0 p_ k1 l0 (l0.length : Int) (wrap64 (x8_1 + 1)))) = some r := H
   have A6 := Aside0.mk A60
   clear A60
   by_cases c7 : t250 = true
   ·subst c7
    rw [if_pos rfl] at H
    obtain rfl := Option.some.inj H
    have p249 : 0 ≤ (x8_1 : Int) := od_
    have q249 : x8_1 < (l0.length : Int) := od_
    obtain ⟨ad249, e249, hx249_0, hx249_1, hx249_2⟩ := at_T27 HR0.out x8_1 p249 q249
    cases e249
    replace hx249_0 := hc_ HB hx249_0
    replace hx249_1 := hc_ HB hx249_1
    replace hx249_2 := hc_ HB hx249_2
    replace p249 := eq_true p249
    replace q249 := eq_true q249
    go_wp2_with (first | (go_at_call 38; refine (HP_.out _ ((rd_T27 l0 x8_1).f0) ((rd_T27 l0 x8_1).f1) ((rd_T27 l0 x8_1).f2) true ?hb_ A6.out).mono ?_; (case hb_ => exact hB HB); rintro e w8 ⟨rfl, hb⟩; replace HB := bst_ HB hb; clear hb))
    go_ret
    exact ⟨rt_, hB HB⟩
   replace c7 := Bool.eq_false_iff.mpr c7
   subst c7
   rw [if_neg (show ¬ (false = true) by decide)] at H
   have H' := Aside0.mk H
   clear H
   have p249 : 0 ≤ (x8_1 : Int) := od_
   have q249 : x8_1 < (l0.length : Int) := od_
   obtain ⟨ad249, e249, hx249_0, hx249_1, hx249_2⟩ := at_T27 HR0.out x8_1 p249 q249
   cases e249
   replace hx249_0 := hc_ HB hx249_0
   replace hx249_1 := hc_ HB hx249_1
   replace hx249_2 := hc_ HB hx249_2
   replace p249 := eq_true p249
   replace q249 := eq_true q249
   go_wp2_with (first | (go_at_call 38; refine (HP_.out _ ((rd_T27 l0 x8_1).f0) ((rd_T27 l0 x8_1).f1) ((rd_T27 l0 x8_1).f2) false ?hb_ A6.out).mono ?_; (case hb_ => exact hB HB); rintro e w9 ⟨rfl, hb⟩; replace HB := bst_ HB hb; clear hb))
   go_roundg k1
   case measure => have := HK1.out; omega
   case rel => exact ⟨(wrap64 (x8_1 + 1)), (by first | rfl | (simp; done) | (simp [*]; done)), H', ⟨by have := HK1.out; omega⟩, ⟨hB HB⟩⟩

def impl_row.f (k : Nat) (l0 : List (S27)) (a1 : Int) : Option (Int) := (impl_Seen.f k l0 (fun x _ _ => some (x == a1))).bind fun t252 => (some t252)
theorem impl_row.mono : ∀ a0 a1 k, LeO (impl_row.f k a0 a1) (impl_row.f (k + 1) a0 a1) := by
 intro a0 a1 k
 unfold impl_row.f
 repeat' first
   | (with_reducible exact impl_Seen.mono _ _ _)
   | with_reducible first | exact LeO.refl _ | exact LeO.none _ | refine LeO.ite ?_ ?_ | refine LeO.bind ?_ fun _ => ?_
set_option maxHeartbeats 2000000 in
theorem impl_row.pred (gB0 : Nat) (a1 : Int) (w : World) (hb0 : w.heap[gB0]? = some (.cells #[.int .i64 a1] 3 (0, 0))) (W : World) (x y z : Int) (t : Bool) (hW : Below w.heap.size w W) (ht : (fun x _ _ => some (x == a1)) x y z = some t) : Calls Try.prog 38 #[.agg #[.int .i64 x, .int .i64 y, .int .i64 z], .pointer (some ⟨gB0, 0, none⟩)] W fun e w' => e = .returned (.bool t) ∧ Below W.heap.size W w' := by
 have hu27 := Try.underlying27
 have BKB0 := Aside0.mk (blk_below hb0 hW)
 have HB := Aside0.mk (Below.refl W.heap.size W)
 obtain rfl := Option.some.inj ht
 clear hb0 hW ht
 go_enter Try.func38, Try.ntmps38
 go_wp2_with (first | ((with_reducible refine gate_dst (N := 2) rfl ?_); refine box_event ?hg (N := 2) ?hd (cs := #[.int .i64 x, .int .i64 y, .int .i64 z]) (t := 27) ?hr ?_; (case hd => rfl); (case hg => rfl); (case hr => first | (go_simp; done) | (go_simp; rfl)); intro gb1 hg w1 hbox hb; have BK1 := Aside0.mk (hbox); replace BKB0 := bb_ BKB0 hb; replace HB := bst_ HB hb; clear hb hbox hg; obtain ⟨hc0, hc1, hc2⟩ := bcs3_ BK1; have hcb0 : w1.cell? ⟨gB0, 0, none⟩ = some (.int .i64 a1) := bc_ BKB0 0))
 go_ret
 exact ⟨by first | rfl | (simp [i64_w]; done) | (simp [i64_w] <;> rfl), hB HB⟩
set_option maxHeartbeats 8000000 in
set_option maxRecDepth 100000 in
theorem impl_row.calls (k : Nat) (A0 : Option Addr) (c0 : Nat) (l0 : List (S27)) (a1 : Int) (r : Int) (w : World) (hr0 : Kd.C k27 w A0 l0.length l0) (hc0 : l0.length ≤ c0) (h : impl_row.f k l0 a1 = some r) :
  Calls Try.prog 27 #[.slice A0 l0.length c0, .int .i64 a1] w fun e w' => e = .returned (.int .i64 r) ∧ Below w.heap.size w w' := by
 have HR0 := Aside0.mk hr0
 have HC0 := Aside0.mk hc0
 clear hr0 hc0
 have HB := Aside0.mk (Below.refl w.heap.size w)
 have H : ((impl_Seen.f k l0 (fun x _ _ => some (x == a1))).bind fun t252 => (some t252)) = some r := h
 clear h
 replace H := Option.bind_eq_some_iff.mp H
 obtain ⟨t252, A30, H⟩ := H
 replace H : (some t252) = some r := H
 have A3 := Aside0.mk A30
 clear A30
 obtain rfl := Option.some.inj H
 go_enter Try.func27, Try.ntmps27
 go_wp2_with (first | ((with_reducible refine gate_dst (N := 3) rfl ?_); refine box_event ?hg (N := 3) ?hd (cs := #[.int .i64 a1]) (t := 3) ?hr ?_; (case hd => rfl); (case hg => rfl); (case hr => first | (go_simp; done) | (go_simp; rfl)); intro gb251 hg w4 hbox hb; have BK251 := Aside0.mk (hbox); have GW251 := gw_ hg HB; have GE251 := gw_ hg HB; replace HB := bst_ HB hb; clear hb hbox hg) | (refine goesL_ (some 7) rfl rfl Try.func37 (by kernel_rfl) rfl #[.slice A0 l0.length c0, .func (.func 38) #[] #[.pointer (some ⟨gb251, 0, none⟩)]] rfl tm_ ?_; (with_reducible refine (impl_Seen.calls38 k _ _ l0 (fun x _ _ => some (x == a1)) gb251 t252 _ ?side1 ?side2 (impl_row.pred gb251 a1 _ (ba BK251.out)) A3.out).mono ?_); (case side1 => exact cb_ HR0 HB); (case side2 => exact HC0.out); rintro e w5 ⟨rfl, hb⟩; refine ⟨_, rfl, ?_⟩; replace BK251 := bb_ BK251 hb; replace HB := bst_ HB hb; clear hb))
 go_ret
 exact ⟨rt_, hB HB⟩

end Go.Proofs.Ytenedmcobknefaa.P
