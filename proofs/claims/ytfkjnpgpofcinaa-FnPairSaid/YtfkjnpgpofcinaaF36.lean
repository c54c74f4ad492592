import Derived.Test.YtfkjnpgpofcinaaF0
import Derived.Test.YtfkjnpgpofcinaaF1
import Derived.Test.YtfkjnpgpofcinaaF20
import Derived.Test.YtfkjnpgpofcinaaF25
import Derived.Test.YtfkjnpgpofcinaaF26
import Derived.Test.YtfkjnpgpofcinaaF29
import Derived.Test.YtfkjnpgpofcinaaF30
namespace Go.Proofs.Ytfkjnpgpofcinaa.P
open Go.RowKit Go.Proofs.YtfkjnpgpofcinaaW.PrintWords Go.Proofs.YtfkjnpgpofcinaaW.PrintLast Go.Proofs.YtfkjnpgpofcinaaW.PrintMore
attribute [local go_sem] max2_int min2_int max_two min_two max_three min_three max_four min_four   -- for this text's walks alone
set_option linter.unusedVariables false
set_option linter.unusedSimpArgs false
attribute [local go_sem high] eqA45 eqA76 eqA83

def spec_DrawPlayPair.f (k : Nat) (l0 : List Int) : Option ((List (S37))) := (slices_xorshift_Next.f l0).bind fun bt1115 => ((spec_l1Cur_pairSteps.f k bt1115.1 bt1115.2.1 bt1115.2.2).bind fun bt1119 => (some bt1119.1))
theorem spec_DrawPlayPair.mono : ∀ a0 k, LeO (spec_DrawPlayPair.f k a0) (spec_DrawPlayPair.f (k + 1) a0) := by
 intro a0 k
 unfold spec_DrawPlayPair.f
 repeat' first
   | (with_reducible exact spec_l1Cur_pairSteps.mono _ _ _ _)
   | (with_reducible exact LeO.refl _)
   | (with_reducible exact LeO.none _)
   | (with_reducible refine LeO.ite ?_ ?_)
   | (with_reducible refine LeO.bind ?_ (fun _ => ?_))
set_option maxHeartbeats 8000000 in
set_option maxRecDepth 100000 in
theorem spec_DrawPlayPair.calls (k : Nat) (A0 : Option Addr) (c0 : Nat) (l0 : List Int) (r : List (S37)) (w : World) (hr0 : Kd.C (Kd.int .u8) w A0 l0.length l0) (hc0 : l0.length ≤ c0) (h : spec_DrawPlayPair.f k l0 = some r) :
  Calls Try.prog 31 #[.slice A0 l0.length c0] w fun e w' => ∃ v0_ : Value, e = .returned (v0_) ∧ Kd.R k37 37 w' w.heap.size (fun _ => True) v0_ r ∧ Below w.heap.size w w' := by
 have HR0 := Aside0.mk hr0
 have HC0 := Aside0.mk hc0
 clear hr0 hc0
 have HB := Aside0.mk (Below.refl w.heap.size w)
 have H : ((slices_xorshift_Next.f l0).bind fun bt1115 => ((spec_l1Cur_pairSteps.f k bt1115.1 bt1115.2.1 bt1115.2.2).bind fun bt1119 => (some bt1119.1))) = some r := h
 clear h
 replace H := Option.bind_eq_some_iff.mp H
 obtain ⟨⟨t1115, t1116, t1117⟩, A20, H⟩ := H
 replace H : ((spec_l1Cur_pairSteps.f k t1115 t1116 t1117).bind fun bt1119 => (some bt1119.1)) = some r := H
 have DE_A2 : Aside0 (t1115 = l0 ∧ t1116 = 0 ∧ t1117 = 0) := ⟨by have h_ := A20; simp only [slices_xorshift_Next.f, Option.some.injEq, Prod.mk.injEq] at h_; exact ⟨h_.1.symm, h_.2.1.symm, h_.2.2.symm⟩⟩
 have A2 := Aside0.mk A20
 clear A20
 replace H := Option.bind_eq_some_iff.mp H
 obtain ⟨⟨t1119, t1122, t1123⟩, A30, H⟩ := H
 replace H : (some t1119) = some r := H
 have A3 := Aside0.mk A30
 clear A30
 obtain rfl := Option.some.inj H
 go_enter Try.func31, Try.ntmps31
 go_wp2_with (first | ((with_reducible refine gate_dst (N := 6) rfl ?_); refine box_event ?hg (N := 6) ?hd (cs := #[.slice A0 l0.length c0, .int .i64 0, .int .u64 0]) (t := 105) ?hr ?_; (case hd => rfl); (case hg => rfl); (case hr => first | (go_simp; done) | (go_simp; rfl)); intro g1118 hg w4 hbox hb2; have hi : IsS105 w w4 g1118 t1115 t1116 t1117 := (by rw [DE_A2.out.1, DE_A2.out.2.1, DE_A2.out.2.2]; exact ⟨_, _, hbox, (gw_ hg HB).out, HR0.out⟩); have hb := (bst_ HB hb2).out; clear hg hbox; have HI1118 := Aside0.mk (hi); replace HB := Aside0.mk (hb); clear hb hb2 hi) | ((with_reducible refine gate_callee (f := 82) rfl ?_); refine goesL_ (some 8) rfl rfl Try.func82 (by kernel_rfl) rfl #[.pointer (some ⟨g1118, 0, none⟩)] rfl tm_ ?_; (with_reducible refine (spec_l1Cur_pairSteps.calls k g1118 t1115 t1116 t1117 t1119 t1122 t1123 w _ ?side1 ?side2 A3.out).mono ?_); (case side1 => repeat (first | (with_reducible first | exact HI1118.out | apply IsS105.alloc | apply IsS105.drewN | apply IsS105.drew | apply IsS105.set_1 | apply IsS105.set_2) | exact HI1118.out)); (case side2 => repeat (first | (with_reducible first | exact HB.out | apply below_alloc | apply pw_below_drewN | apply below_drew1 | refine below_set ?_ (IsS105.ge HI1118.out)) | exact HB.out)); rintro e w5 ⟨v1120, rfl, ho0, hi, hb, hk⟩; refine ⟨_, rfl, ?_⟩; have HO1121 := Aside0.mk (Kd.R_lower ho0 (below_size (by repeat (first | (with_reducible first | exact HB.out | apply below_alloc | apply pw_below_drewN | apply below_drew1 | refine below_set ?_ (IsS105.ge HI1118.out)) | exact HB.out)))); replace HB := Aside0.mk (hb); replace HI1118 := Aside0.mk (hi); clear hb hk hi ho0))
 go_ret
 exact ⟨_, by first | rfl | (simp [errW_none, errW_some] <;> rfl) | (simp [*, errW_none, errW_some] <;> rfl), by (with_reducible repeat (first | apply Kd.R_alloc | apply Kd.R_drewN | apply Kd.R_drew)); exact HO1121.out, by repeat (first | (with_reducible first | exact HB.out | apply below_alloc | apply pw_below_drewN | apply below_drew1 | refine below_set ?_ (IsS105.ge HI1118.out)) | exact HB.out)⟩

def impl_PlayPair.f (k : Nat) (l0 : List (S37)) : Option (List Int × List Int × (List (S45)) × List Bool × Bool) := if (l0.length : Int) > 60 then (some (([] : List Int), ([] : List Int), ([] : List (S45)), ([] : List Bool), false)) else ((impl_NewPair.f 0).bind fun bt1125 => ((impl_played.f k bt1125.1 bt1125.2.1 bt1125.2.2.1 l0).bind fun bt1136 => (some (bt1136.1, bt1136.2.1, bt1136.2.2.1, bt1136.2.2.2, true))))
theorem impl_PlayPair.mono : ∀ a0 k, LeO (impl_PlayPair.f k a0) (impl_PlayPair.f (k + 1) a0) := by
 intro a0 k
 unfold impl_PlayPair.f
 repeat' first
   | (with_reducible exact impl_played.mono _ _ _ _ _)
   | (with_reducible exact LeO.refl _)
   | (with_reducible exact LeO.none _)
   | (with_reducible refine LeO.ite ?_ ?_)
   | (with_reducible refine LeO.bind ?_ (fun _ => ?_))
set_option maxHeartbeats 8000000 in
set_option maxRecDepth 100000 in
theorem impl_PlayPair.calls (k : Nat) (A0 : Option Addr) (c0 : Nat) (l0 : List (S37)) (r1 : List Int) (r2 : List Int) (r3 : List (S45)) (r4 : List Bool) (r5 : Bool) (w : World) (hr0 : Kd.C k37 w A0 l0.length l0) (hc0 : l0.length ≤ c0) (h : impl_PlayPair.f k l0 = some (r1, r2, r3, r4, r5)) :
  Calls Try.prog 32 #[.slice A0 l0.length c0] w fun e w' => ∃ v0_ v1_ v2_ v3_ : Value, e = .returned (.tuple #[.agg #[v0_, v1_, v2_], v3_, .bool r5]) ∧ Kd.R (Kd.int .i64) 3 w' w.heap.size (fun k_ => no_ v1_ k_) v0_ r1 ∧ Kd.R (Kd.int .i64) 3 w' w.heap.size (fun k_ => no_ v0_ k_) v1_ r2 ∧ Kd.R k45 45 w' w.heap.size (fun _ => True) v2_ r3 ∧ Kd.R Kd.bool 4 w' w.heap.size (fun _ => True) v3_ r4 ∧ Below w.heap.size w w' := by
 have hu35 := Try.underlying35
 have HR0 := Aside0.mk hr0
 have HC0 := Aside0.mk hc0
 clear hr0 hc0
 have HB := Aside0.mk (Below.refl w.heap.size w)
 have H : (if (l0.length : Int) > 60 then (some (([] : List Int), ([] : List Int), ([] : List (S45)), ([] : List Bool), false)) else ((impl_NewPair.f 0).bind fun bt1125 => ((impl_played.f k bt1125.1 bt1125.2.1 bt1125.2.2.1 l0).bind fun bt1136 => (some (bt1136.1, bt1136.2.1, bt1136.2.2.1, bt1136.2.2.2, true))))) = some (r1, r2, r3, r4, r5) := h
 clear h
 by_cases c2 : (l0.length : Int) > 60
 ·rw [if_pos c2] at H
  have c2b0 : decide (60 < (l0.length : Int)) = true := decide_eq_true c2
  have c2b1 : decide (60 < l0.length) = true := decide_eq_true (by omega)
  clear c2
  simp only [Option.some.injEq, Prod.mk.injEq] at H
  obtain ⟨rfl, rfl, rfl, rfl, rfl⟩ := H
  go_enter Try.func32, Try.ntmps32
  go_wp2_with (first | ((with_reducible refine gate_dst (N := 2) rfl ?_); refine box_event ?hg (N := 2) ?hd (cs := #[.slice none 0 0, .slice none 0 0, .slice none 0 0]) (t := 35) ?hr ?_; (case hd => rfl); (case hg => rfl); (case hr => first | (go_simp; done) | (go_simp; rfl)); intro gb1124 hg w3 hbox hb; have BK1124 := Aside0.mk (hbox); have GW1124 := gw_ hg HB; have GE1124 := gw_ hg HB; replace HB := bst_ HB hb; clear hb hbox hg; have hcz4_0 : w3.cell? ⟨gb1124, 0, none⟩ = some (.slice none 0 0) := bc_ BK1124 0; have hcz4_1 : w3.cell? ⟨gb1124, 1, none⟩ = some (.slice none 0 0) := bc_ BK1124 1; have hcz4_2 : w3.cell? ⟨gb1124, 2, none⟩ = some (.slice none 0 0) := bc_ BK1124 2; have hfz4_0 := blk_frozen BK1124.out 0; have hfz4_1 := blk_frozen BK1124.out 1; have hfz4_2 := blk_frozen BK1124.out 2))
  refine bodyPost_ret (results_ctt rfl _ _ gb1124 35 #[.slice none 0 0, .slice none 0 0, .slice none 0 0] (0, 0) _ rfl (by (with_reducible repeat (first | refine blk_drewN ?_ _ | refine blk_drew ?_ | refine blk_alloc ?_ _)); refine blk_put (cs := #[.slice none 0 0, .slice none 0 0, .slice none 0 0]) ?_ 2 _ rfl; (with_reducible repeat (first | refine blk_drewN ?_ _ | refine blk_drew ?_ | refine blk_alloc ?_ _)); refine blk_put (cs := #[.slice none 0 0, .slice none 0 0, .slice none 0 0]) ?_ 1 _ rfl; (with_reducible repeat (first | refine blk_drewN ?_ _ | refine blk_drew ?_ | refine blk_alloc ?_ _)); refine blk_put (cs := #[.slice none 0 0, .slice none 0 0, .slice none 0 0]) ?_ 0 _ rfl; (with_reducible repeat (first | refine blk_drewN ?_ _ | refine blk_drew ?_ | refine blk_alloc ?_ _)); exact BK1124.out) Try.underlying35 rfl (by kernel_rfl)) rfl ?_
  exact ⟨_, _, _, _, by first | rfl | (simp [errW_none, errW_some] <;> rfl) | (simp [*, errW_none, errW_some] <;> rfl), by first | exact Kd.R_nil _ _ _ _ _ | exact Kd.N_nil _ _ _ _ _ | exact Kd.V_nil _ _ _ _ _ | exact Kd.Q_nil _ _ _ _ _ | exact Kd.S_nil _ _ _ _ _, by first | exact Kd.R_nil _ _ _ _ _ | exact Kd.N_nil _ _ _ _ _ | exact Kd.V_nil _ _ _ _ _ | exact Kd.Q_nil _ _ _ _ _ | exact Kd.S_nil _ _ _ _ _, by first | exact Kd.R_nil _ _ _ _ _ | exact Kd.N_nil _ _ _ _ _ | exact Kd.V_nil _ _ _ _ _ | exact Kd.Q_nil _ _ _ _ _ | exact Kd.S_nil _ _ _ _ _, by first | exact Kd.R_nil _ _ _ _ _ | exact Kd.N_nil _ _ _ _ _ | exact Kd.V_nil _ _ _ _ _ | exact Kd.Q_nil _ _ _ _ _ | exact Kd.S_nil _ _ _ _ _, by repeat (first | (with_reducible first | exact HB.out | apply below_alloc | apply pw_below_drewN | apply below_drew1 | refine below_set ?_ GE1124.out) | exact HB.out)⟩
 rw [if_neg c2] at H
 have c2b0 : decide (60 < (l0.length : Int)) = false := decide_eq_false c2
 have c2b1 : decide (60 < l0.length) = false := decide_eq_false (by omega)
 clear c2
 replace H := Option.bind_eq_some_iff.mp H
 obtain ⟨⟨t1125, t1128, t1131, t1134⟩, A50, H⟩ := H
 replace H : ((impl_played.f k t1125 t1128 t1131 l0).bind fun bt1136 => (some (bt1136.1, bt1136.2.1, bt1136.2.2.1, bt1136.2.2.2, true))) = some (r1, r2, r3, r4, r5) := H
 have A5 := Aside0.mk A50
 clear A50
 replace H := Option.bind_eq_some_iff.mp H
 obtain ⟨⟨t1136, t1139, t1142, t1145⟩, A60, H⟩ := H
 replace H : (some (t1136, t1139, t1142, t1145, true)) = some (r1, r2, r3, r4, r5) := H
 have A6 := Aside0.mk A60
 clear A60
 simp only [Option.some.injEq, Prod.mk.injEq] at H
 obtain ⟨rfl, rfl, rfl, rfl, rfl⟩ := H
 go_enter Try.func32, Try.ntmps32
 go_wp2_with (first | ((with_reducible refine gate_dst (N := 2) rfl ?_); refine box_event ?hg (N := 2) ?hd (cs := #[.slice none 0 0, .slice none 0 0, .slice none 0 0]) (t := 35) ?hr ?_; (case hd => rfl); (case hg => rfl); (case hr => first | (go_simp; done) | (go_simp; rfl)); intro gb1124 hg w7 hbox hb; have BK1124 := Aside0.mk (hbox); have GW1124 := gw_ hg HB; have GE1124 := gw_ hg HB; replace HB := bst_ HB hb; clear hb hbox hg) | ((with_reducible refine gate_callee (f := 29) rfl ?_); refine goesL_ (some 14) rfl rfl Try.func29 (by kernel_rfl) rfl #[.int .i64 0] rfl tm_ ?_; (with_reducible refine (impl_NewPair.calls 0 t1125 t1128 t1131 t1134 _ A5.out).mono ?_); rintro e w8 ⟨v1126, v1129, v1132, rfl, ho0, ho1, ho2, hb⟩; refine ⟨_, rfl, ?_⟩; have HO1127 := Aside0.mk (Kd.R_lower ho0 (below_size (hB HB))); have HO1130 := Aside0.mk (Kd.R_lower ho1 (below_size (hB HB))); have HO1133 := Aside0.mk (Kd.R_lower ho2 (below_size (hB HB))); replace BK1124 := bb_ BK1124 hb; replace HB := bst_ HB hb; clear hb ho0 ho1 ho2) | ((with_reducible refine gate_dst (N := 5) rfl ?_); refine box_event ?hg (N := 5) ?hd (cs := #[.slice none 0 0, .slice none 0 0, .slice none 0 0]) (t := 35) ?hr ?_; (case hd => rfl); (case hg => rfl); (case hr => first | (go_simp; done) | (go_simp; rfl)); intro gb1135 hg w9 hbox hb; have BK1135 := Aside0.mk (hbox); have GW1135 := gw_ hg HB; have GE1135 := gw_ hg HB; have NB1124_1135 := nl_ hg BK1124; have NB1135_1124 := ng_ hg BK1124; replace HO1127 := rb_ HO1127 hb; replace HO1130 := rb_ HO1130 hb; replace HO1133 := rb_ HO1133 hb; replace BK1124 := bb_ BK1124 hb; replace HB := bst_ HB hb; clear hb hbox hg; obtain ⟨Ao10, co10, eo10⟩ := Kd.R_slice HO1127.out; subst eo10; have hnb11 := NB1135_1124.out; have hnc11 := NB1124_1135.out; have hcz12_0 : w9.cell? ⟨gb1135, 0, none⟩ = some (.slice none 0 0) := bc_ BK1135 0; have hcz12_1 : w9.cell? ⟨gb1135, 1, none⟩ = some (.slice none 0 0) := bc_ BK1135 1; have hcz12_2 : w9.cell? ⟨gb1135, 2, none⟩ = some (.slice none 0 0) := bc_ BK1135 2; have hfz12_0 := blk_frozen BK1135.out 0; have hfz12_1 := blk_frozen BK1135.out 1; have hfz12_2 := blk_frozen BK1135.out 2; obtain ⟨Ao13, co13, eo13⟩ := Kd.R_slice HO1130.out; subst eo13; obtain ⟨Ao14, co14, eo14⟩ := Kd.R_slice HO1133.out; subst eo14) | ((with_reducible refine gate_store (t := 35) (p := 5) rfl ?_); refine store_event (t := 35) (p := 5) (v := ?vo_w15) (w1 := (((w9.setCell ⟨gb1135, 0, none⟩ (.slice Ao10 t1125.length co10)).setCell ⟨gb1135, 1, none⟩ (.slice Ao13 t1128.length co13)).setCell ⟨gb1135, 2, none⟩ (.slice Ao14 t1131.length co14))) ?hg ?ho ?hn ?hr ?_; (case ho => rfl); (case hg => rfl); (case hn => rfl); (case hr => first | (go_simp; done) | (go_simp; rfl)); intro w15 hw; have n0_ : Aside0 (Kd.R (Kd.int .i64) 3 w15 w.heap.size (fun k_ => no_ (.slice Ao13 t1128.length co13) k_) (.slice Ao10 t1125.length co10) t1125) := ⟨(by rw [hw]; exact (ra (Kd.R_mono (fs3_ HO1127.out BK1135.out) (fun _ hk => hk.1))))⟩; have n1_ : Aside0 (Kd.R (Kd.int .i64) 3 w15 w.heap.size (fun k_ => no_ (.slice Ao10 t1125.length co10) k_) (.slice Ao13 t1128.length co13) t1128) := ⟨(by rw [hw]; exact (ra (Kd.R_mono (fs3_ HO1130.out BK1135.out) (fun _ hk => hk.1))))⟩; have n2_ : Aside0 (Kd.R k45 45 w15 w.heap.size (fun _ => True) (.slice Ao14 t1131.length co14) t1131) := ⟨(by rw [hw]; exact (ra (Kd.R_mono (fs3_ HO1133.out BK1135.out) (fun _ hk => trivial))))⟩; have n3_ : Aside0 (w15.heap[gb1124]? = some (.cells #[.slice none 0 0, .slice none 0 0, .slice none 0 0] 35 (0, 0))) := ⟨(by rw [hw]; exact (bx BK1124))⟩; have n4_ : Aside0 (w15.heap[gb1135]? = some (.cells #[.slice Ao10 t1125.length co10, .slice Ao13 t1128.length co13, .slice Ao14 t1131.length co14] 35 (0, 0))) := ⟨(by rw [hw]; exact (by (with_reducible repeat (first | refine blk_drewN ?_ _ | refine blk_drew ?_ | refine blk_alloc ?_ _)); refine blk_put (cs := #[.slice Ao10 t1125.length co10, .slice Ao13 t1128.length co13, .slice none 0 0]) ?_ 2 _ rfl; (with_reducible repeat (first | refine blk_drewN ?_ _ | refine blk_drew ?_ | refine blk_alloc ?_ _)); refine blk_put (cs := #[.slice Ao10 t1125.length co10, .slice none 0 0, .slice none 0 0]) ?_ 1 _ rfl; (with_reducible repeat (first | refine blk_drewN ?_ _ | refine blk_drew ?_ | refine blk_alloc ?_ _)); refine blk_put (cs := #[.slice none 0 0, .slice none 0 0, .slice none 0 0]) ?_ 0 _ rfl; (with_reducible repeat (first | refine blk_drewN ?_ _ | refine blk_drew ?_ | refine blk_alloc ?_ _)); exact BK1135.out))⟩; have n5_ : Aside0 (Below w.heap.size w w15) := ⟨(by rw [hw]; exact (hB HB))⟩; clear hw; clear HO1127; clear HO1130; clear HO1133; clear BK1124; clear BK1135; clear HB; have HO1127 := n0_; have HO1130 := n1_; have HO1133 := n2_; have BK1124 := n3_; have BK1135 := n4_; have HB := n5_; clear n0_ n1_ n2_ n3_ n4_ n5_; have hcz16_0 : w15.cell? ⟨gb1135, 0, none⟩ = some (.slice Ao10 t1125.length co10) := bc_ BK1135 0; have hcz16_1 : w15.cell? ⟨gb1135, 1, none⟩ = some (.slice Ao13 t1128.length co13) := bc_ BK1135 1; have hcz16_2 : w15.cell? ⟨gb1135, 2, none⟩ = some (.slice Ao14 t1131.length co14) := bc_ BK1135 2; have hfz16_0 := blk_frozen BK1135.out 0; have hfz16_1 := blk_frozen BK1135.out 1; have hfz16_2 := blk_frozen BK1135.out 2) | ((with_reducible refine gate_callee (f := 93) rfl ?_); refine goesL_ (some 20) rfl rfl Try.func93 (by kernel_rfl) rfl #[.agg #[.slice Ao10 t1125.length co10, .slice Ao13 t1128.length co13, .slice Ao14 t1131.length co14], .slice A0 l0.length c0] rfl tm_ ?_; (with_reducible refine (impl_played.calls k (fun k_ => some k_ = (.slice Ao10 t1125.length co10 : Value).ownBlock) (.slice Ao10 t1125.length co10) t1125 (fun k_ => some k_ = (.slice Ao13 t1128.length co13 : Value).ownBlock) (.slice Ao13 t1128.length co13) t1128 (fun k_ => some k_ = (.slice Ao14 t1131.length co14 : Value).ownBlock) (.slice Ao14 t1131.length co14) t1131 _ _ l0 t1136 t1139 t1142 t1145 w _ ?side1 ?side2 ?side3 ?side4 ?side5 ?side6 ?side7 ?side8 A6.out).mono ?_); (case side1 => repeat (first | (with_reducible first | exact HB.out | apply below_alloc | apply pw_below_drewN | apply below_drew1 | refine below_set ?_ GE1124.out | refine below_set ?_ GE1135.out) | exact HB.out)); (case side2 => exact Kd.R_tight rfl HO1127.out); (case side3 => exact fun k_ e_ => (HO1127.out.1 k_ e_.symm)); (case side4 => exact Kd.R_tight rfl HO1130.out); (case side5 => exact fun k_ e_ => (HO1130.out.1 k_ e_.symm)); (case side6 => exact Kd.R_tight rfl HO1133.out); (case side7 => exact Kd.C_kept_came k37_heap HR0.out (hB HB) (fun k_ hs_ => Or.elim hs_ (fun e_ => (fun e_ => Kd.R_base HO1127.out k_ e_.symm) e_) (fun e_ => Or.elim e_ (fun e_ => (fun e_ => Kd.R_base HO1130.out k_ e_.symm) e_) (fun e_ => (fun e_ => Kd.R_base HO1133.out k_ e_.symm) e_)))); (case side8 => exact HC0.out); rintro e w17 ⟨v1137, v1140, v1143, v1146, rfl, ho0, ho1, ho2, ho3, hb, hkp⟩; refine ⟨_, rfl, ?_⟩; have HO1138 := Aside0.mk (Kd.R_mono (ok' := fun k_ => no_ v1140 k_) ho0 (fun k_ hk_ => hk_.2)); have HO1141 := Aside0.mk (Kd.R_mono (ok' := fun k_ => no_ v1137 k_) ho1 (fun k_ hk_ => hk_.2)); have HO1144 := Aside0.mk (Kd.R_mono (ok' := fun k_ => True) ho2 (fun k_ hk_ => trivial)); have HO1147 := Aside0.mk (Kd.R_mono (ok' := fun k_ => True) ho3 (fun k_ hk_ => trivial)); replace BK1124 := Aside0.mk (blk_kept (ba BK1124.out) hkp (fun hs_ => Or.elim hs_ (kne_ HO1127 BK1124) (fun e_ => Or.elim e_ (kne_ HO1130 BK1124) (kne_ HO1133 BK1124)))); replace BK1135 := Aside0.mk (blk_kept (ba BK1135.out) hkp (fun hs_ => Or.elim hs_ (kne_ HO1127 BK1135) (fun e_ => Or.elim e_ (kne_ HO1130 BK1135) (kne_ HO1133 BK1135)))); replace HB := Aside0.mk (hb); clear HO1127 HO1130 HO1133; clear hb ho0 ho1 ho2 ho3) | ((with_reducible refine gate_dst (N := 7) rfl ?_); refine box_event ?hg (N := 7) ?hd (cs := #[.slice none 0 0, .slice none 0 0, .slice none 0 0]) (t := 35) ?hr ?_; (case hd => rfl); (case hg => rfl); (case hr => first | (go_simp; done) | (go_simp; rfl)); intro gb1148 hg w18 hbox hb; have BK1148 := Aside0.mk (hbox); have GW1148 := gw_ hg HB; have GE1148 := gw_ hg HB; have NB1124_1148 := nl_ hg BK1124; have NB1148_1124 := ng_ hg BK1124; have NB1135_1148 := nl_ hg BK1135; have NB1148_1135 := ng_ hg BK1135; replace HO1138 := rb_ HO1138 hb; replace HO1141 := rb_ HO1141 hb; replace HO1144 := rb_ HO1144 hb; replace HO1147 := rb_ HO1147 hb; replace BK1124 := bb_ BK1124 hb; replace BK1135 := bb_ BK1135 hb; replace HB := bst_ HB hb; clear hb hbox hg; obtain ⟨Ao19, co19, eo19⟩ := Kd.R_slice HO1138.out; subst eo19; have hnb20 := NB1148_1124.out; have hnc20 := NB1124_1148.out; have hnb21 := NB1148_1135.out; have hnc21 := NB1135_1148.out; have hcz22_0 : w18.cell? ⟨gb1148, 0, none⟩ = some (.slice none 0 0) := bc_ BK1148 0; have hcz22_1 : w18.cell? ⟨gb1148, 1, none⟩ = some (.slice none 0 0) := bc_ BK1148 1; have hcz22_2 : w18.cell? ⟨gb1148, 2, none⟩ = some (.slice none 0 0) := bc_ BK1148 2; have hfz22_0 := blk_frozen BK1148.out 0; have hfz22_1 := blk_frozen BK1148.out 1; have hfz22_2 := blk_frozen BK1148.out 2; obtain ⟨Ao23, co23, eo23⟩ := Kd.R_slice HO1141.out; subst eo23; obtain ⟨Ao24, co24, eo24⟩ := Kd.R_slice HO1144.out; subst eo24; have hcz25_0 : w18.cell? ⟨gb1124, 0, none⟩ = some (.slice none 0 0) := bc_ BK1124 0; have hcz25_1 : w18.cell? ⟨gb1124, 1, none⟩ = some (.slice none 0 0) := bc_ BK1124 1; have hcz25_2 : w18.cell? ⟨gb1124, 2, none⟩ = some (.slice none 0 0) := bc_ BK1124 2; have hfz25_0 := blk_frozen BK1124.out 0; have hfz25_1 := blk_frozen BK1124.out 1; have hfz25_2 := blk_frozen BK1124.out 2))
 refine bodyPost_ret (results_ctt rfl _ _ gb1124 35 #[.slice Ao19 t1136.length co19, .slice Ao23 t1139.length co23, .slice Ao24 t1142.length co24] (0, 0) _ rfl (by (with_reducible repeat (first | refine blk_drewN ?_ _ | refine blk_drew ?_ | refine blk_alloc ?_ _)); refine blk_put (cs := #[.slice Ao19 t1136.length co19, .slice Ao23 t1139.length co23, .slice none 0 0]) ?_ 2 _ rfl; (with_reducible repeat (first | refine blk_drewN ?_ _ | refine blk_drew ?_ | refine blk_alloc ?_ _)); refine blk_put (cs := #[.slice Ao19 t1136.length co19, .slice none 0 0, .slice none 0 0]) ?_ 1 _ rfl; (with_reducible repeat (first | refine blk_drewN ?_ _ | refine blk_drew ?_ | refine blk_alloc ?_ _)); refine blk_put (cs := #[.slice none 0 0, .slice none 0 0, .slice none 0 0]) ?_ 0 _ rfl; (with_reducible repeat (first | refine blk_drewN ?_ _ | refine blk_drew ?_ | refine blk_alloc ?_ _)); refine blk_far ?_ NB1124_1148.out _; (with_reducible repeat (first | refine blk_drewN ?_ _ | refine blk_drew ?_ | refine blk_alloc ?_ _)); refine blk_far ?_ NB1124_1148.out _; (with_reducible repeat (first | refine blk_drewN ?_ _ | refine blk_drew ?_ | refine blk_alloc ?_ _)); refine blk_far ?_ NB1124_1148.out _; (with_reducible repeat (first | refine blk_drewN ?_ _ | refine blk_drew ?_ | refine blk_alloc ?_ _)); exact BK1124.out) Try.underlying35 rfl (by kernel_rfl)) rfl ?_
 exact ⟨_, _, _, _, by first | rfl | (simp [errW_none, errW_some] <;> rfl) | (simp [*, errW_none, errW_some] <;> rfl), by (with_reducible repeat (first | apply Kd.R_alloc | apply Kd.R_drewN | apply Kd.R_drew)); exact Kd.R_mono (Kd.R_far (p := ⟨gb1124, 2, none⟩) (Kd.R_far (p := ⟨gb1124, 1, none⟩) (Kd.R_far (p := ⟨gb1124, 0, none⟩) (Kd.R_far (p := ⟨gb1148, 2, none⟩) (Kd.R_far (p := ⟨gb1148, 1, none⟩) (Kd.R_far (p := ⟨gb1148, 0, none⟩) (Kd.R_types (Kd.R_types HO1138.out BK1148.out (by decide)) BK1124.out (by decide)) (fun _ hk => hk.1.2) (.slice Ao19 t1136.length co19)) (fun _ hk => hk.1.2) (.slice Ao23 t1139.length co23)) (fun _ hk => hk.1.2) (.slice Ao24 t1142.length co24)) (fun _ hk => hk.2) (.slice Ao19 t1136.length co19)) (fun _ hk => hk.2) (.slice Ao23 t1139.length co23)) (fun _ hk => hk.2) (.slice Ao24 t1142.length co24)) (fun _ hk => hk.1.1), by (with_reducible repeat (first | apply Kd.R_alloc | apply Kd.R_drewN | apply Kd.R_drew)); exact Kd.R_mono (Kd.R_far (p := ⟨gb1124, 2, none⟩) (Kd.R_far (p := ⟨gb1124, 1, none⟩) (Kd.R_far (p := ⟨gb1124, 0, none⟩) (Kd.R_far (p := ⟨gb1148, 2, none⟩) (Kd.R_far (p := ⟨gb1148, 1, none⟩) (Kd.R_far (p := ⟨gb1148, 0, none⟩) (Kd.R_types (Kd.R_types HO1141.out BK1148.out (by decide)) BK1124.out (by decide)) (fun _ hk => hk.1.2) (.slice Ao19 t1136.length co19)) (fun _ hk => hk.1.2) (.slice Ao23 t1139.length co23)) (fun _ hk => hk.1.2) (.slice Ao24 t1142.length co24)) (fun _ hk => hk.2) (.slice Ao19 t1136.length co19)) (fun _ hk => hk.2) (.slice Ao23 t1139.length co23)) (fun _ hk => hk.2) (.slice Ao24 t1142.length co24)) (fun _ hk => hk.1.1), by (with_reducible repeat (first | apply Kd.R_alloc | apply Kd.R_drewN | apply Kd.R_drew)); exact Kd.R_mono (Kd.R_far (p := ⟨gb1124, 2, none⟩) (Kd.R_far (p := ⟨gb1124, 1, none⟩) (Kd.R_far (p := ⟨gb1124, 0, none⟩) (Kd.R_far (p := ⟨gb1148, 2, none⟩) (Kd.R_far (p := ⟨gb1148, 1, none⟩) (Kd.R_far (p := ⟨gb1148, 0, none⟩) (Kd.R_types (Kd.R_types HO1144.out BK1148.out (by decide)) BK1124.out (by decide)) (fun _ hk => hk.1.2) (.slice Ao19 t1136.length co19)) (fun _ hk => hk.1.2) (.slice Ao23 t1139.length co23)) (fun _ hk => hk.1.2) (.slice Ao24 t1142.length co24)) (fun _ hk => hk.2) (.slice Ao19 t1136.length co19)) (fun _ hk => hk.2) (.slice Ao23 t1139.length co23)) (fun _ hk => hk.2) (.slice Ao24 t1142.length co24)) (fun _ hk => trivial), by (with_reducible repeat (first | apply Kd.R_alloc | apply Kd.R_drewN | apply Kd.R_drew)); exact Kd.R_mono (Kd.R_far (p := ⟨gb1124, 2, none⟩) (Kd.R_far (p := ⟨gb1124, 1, none⟩) (Kd.R_far (p := ⟨gb1124, 0, none⟩) (Kd.R_far (p := ⟨gb1148, 2, none⟩) (Kd.R_far (p := ⟨gb1148, 1, none⟩) (Kd.R_far (p := ⟨gb1148, 0, none⟩) (Kd.R_types (Kd.R_types HO1147.out BK1148.out (by decide)) BK1124.out (by decide)) (fun _ hk => hk.1.2) (.slice Ao19 t1136.length co19)) (fun _ hk => hk.1.2) (.slice Ao23 t1139.length co23)) (fun _ hk => hk.1.2) (.slice Ao24 t1142.length co24)) (fun _ hk => hk.2) (.slice Ao19 t1136.length co19)) (fun _ hk => hk.2) (.slice Ao23 t1139.length co23)) (fun _ hk => hk.2) (.slice Ao24 t1142.length co24)) (fun _ hk => trivial), by repeat (first | (with_reducible first | exact HB.out | apply below_alloc | apply pw_below_drewN | apply below_drew1 | refine below_set ?_ GE1124.out | refine below_set ?_ GE1135.out | refine below_set ?_ GE1148.out) | exact HB.out)⟩

def laws_sameBools.l0 : Nat → List Bool → List Bool → Int → Int → Option (Bool)
 | 0, _, _, _, _ => none
 | k + 1, x0, x1, x12, x13 => if x13 < x12 then (if 0 ≤ x13 then (if x13 < (x0.length : Int) then (if x13 < (x1.length : Int) then (if ((rdOf false x0 x13) != (rdOf false x1 x13)) = true then (some false) else (laws_sameBools.l0 k x0 x1 x12 (wrap64 (x13 + 1)))) else (none)) else (none)) else (none)) else (some true)
def laws_sameBools.f (k : Nat) (l0 : List Bool) (l1 : List Bool) : Option (Bool) := if (l0.length : Int) = (l1.length : Int) then (laws_sameBools.l0 k l0 l1 (l0.length : Int) 0) else (some false)
theorem laws_sameBools.mono_l : ∀ k, (∀ y0 y1 y2 y3, LeO (laws_sameBools.l0 k y0 y1 y2 y3) (laws_sameBools.l0 (k + 1) y0 y1 y2 y3))
 | 0 => fun _ _ _ _ r h => by simp [laws_sameBools.l0] at h
 | k + 1 => by
  have ih0 := laws_sameBools.mono_l k
  ·intro y0 y1 y2 y3
   unfold laws_sameBools.l0
   repeat' first
   | (with_reducible exact ih0 _ _ _ _)
   | (with_reducible exact LeO.refl _)
   | (with_reducible exact LeO.none _)
   | (with_reducible refine LeO.ite ?_ ?_)
   | (with_reducible refine LeO.bind ?_ (fun _ => ?_))
theorem laws_sameBools.mono : ∀ a0 a1 k, LeO (laws_sameBools.f k a0 a1) (laws_sameBools.f (k + 1) a0 a1) := by
 intro a0 a1 k
 have ih0 := laws_sameBools.mono_l k
 unfold laws_sameBools.f
 repeat' first
   | (with_reducible exact ih0 _ _ _ _)
   | (with_reducible exact LeO.refl _)
   | (with_reducible exact LeO.none _)
   | (with_reducible refine LeO.ite ?_ ?_)
   | (with_reducible refine LeO.bind ?_ (fun _ => ?_))
set_option maxHeartbeats 8000000 in
set_option maxRecDepth 100000 in
theorem laws_sameBools.calls (k : Nat) (A0 : Option Addr) (c0 : Nat) (l0 : List Bool) (A1 : Option Addr) (c1 : Nat) (l1 : List Bool) (r : Bool) (w : World) (hr0 : Kd.C Kd.bool w A0 l0.length l0) (hc0 : l0.length ≤ c0) (hr1 : Kd.C Kd.bool w A1 l1.length l1) (hc1 : l1.length ≤ c1) (h : laws_sameBools.f k l0 l1 = some r) :
  Calls Try.prog 34 #[.slice A0 l0.length c0, .slice A1 l1.length c1] w fun e w' => e = .returned (.bool r) ∧ Drawn0 w w' := by
 have HR0 := Aside0.mk hr0
 have HC0 := Aside0.mk hc0
 clear hr0 hc0
 have HR1 := Aside0.mk hr1
 have HC1 := Aside0.mk hc1
 clear hr1 hc1
 have H : (if (l0.length : Int) = (l1.length : Int) then (laws_sameBools.l0 k l0 l1 (l0.length : Int) 0) else (some false)) = some r := h
 clear h
 by_cases c3 : (l0.length : Int) = (l1.length : Int)
 rotate_left
 ·rw [if_neg c3] at H
  have c3b0 : ((l0.length : Int) == (l1.length : Int)) = false := beq_eq_false_iff_ne.mpr c3
  have c3b1 : ((l0.length : Int) != (l1.length : Int)) = true := bne_iff_ne.mpr c3
  have c3b2 : (l0.length == l1.length) = false := by first | simpa using c3 | (simp at c3 ⊢; omega)
  obtain rfl := Option.some.inj H
  go_enter Try.func34, Try.ntmps34
  go_wp2
  repeat (go_quiet (fail); try go_wp2)
  go_ret
  exact ⟨by first | rfl | (simp; done) | (simp [*]; done), by repeat (first | exact Drawn0.refl _ | apply Drawn0.step)⟩
 rw [if_pos c3] at H
 have c3b0 : ((l0.length : Int) == (l1.length : Int)) = true := beq_iff_eq.mpr c3
 have c3b1 : ((l0.length : Int) != (l1.length : Int)) = false := bne_eq_false_iff_eq.mpr c3
 have c3b2 : (l0.length == l1.length) = true := by first | simpa using c3 | (simp at c3 ⊢; omega)
 clear c3
 have H' := Aside0.mk H
 clear H
 go_enter Try.func34, Try.ntmps34
 go_wp2
 repeat (go_quiet (fail); try go_wp2)
 go_loopg [13] k (fun kq v13 w' => ∃ (x13_1 : Int), v13 = .int .i64 x13_1 ∧ Aside0 (laws_sameBools.l0 kq l0 l1 (l0.length : Int) x13_1 = some r) ∧ Aside0 (kq ≤ k) ∧ Drawn0 w w')
 case atStart => exact ⟨(0), (by first | rfl | (simp; done) | (simp [*]; done)), H', ⟨Nat.le_refl _⟩, by repeat (first | exact Drawn0.refl _ | apply Drawn0.step)⟩
 case round =>
  clear H'
  try clear c1
  try clear c3
  try clear c3b0
  try clear c3b1
  try clear c3b2
  obtain ⟨x13_1, rfl, HA, HK1, ⟨m1, rfl⟩⟩ := hrel
  cases gk with
  | zero => exact absurd HA.out (by simp [laws_sameBools.l0])
  | succ k1 =>
   have H := HA.out
   clear HA
   simp only [laws_sameBools.l0] at H
   by_cases c4 : x13_1 < (l0.length : Int)
   rotate_left
   ·rw [if_neg c4] at H
    have c4b0 : decide (x13_1 < (l0.length : Int)) = false := decide_eq_false c4
    clear c4
    obtain rfl := Option.some.inj H
    go_wp2
    repeat (go_quiet (fail); try go_wp2)
    go_ret
    exact ⟨by first | rfl | (simp; done) | (simp [*]; done), by repeat (first | exact Drawn0.refl _ | apply Drawn0.step)⟩
   rw [if_pos c4] at H
   have c4b0 : decide (x13_1 < (l0.length : Int)) = true := decide_eq_true c4
   clear c4
   by_cases c5 : 0 ≤ x13_1
   rotate_left
   ·rw [if_neg c5] at H
    exact absurd H (by simp)
   rw [if_pos c5] at H
   have c5b0 : decide (0 ≤ x13_1) = true := decide_eq_true c5
   clear c5
   by_cases c6 : x13_1 < (l0.length : Int)
   rotate_left
   ·rw [if_neg c6] at H
    exact absurd H (by simp)
   rw [if_pos c6] at H
   have c6b0 : decide (x13_1 < (l0.length : Int)) = true := decide_eq_true c6
   clear c6
   by_cases c7 : x13_1 < (l1.length : Int)
   rotate_left
   ·rw [if_neg c7] at H
    exact absurd H (by simp)
   rw [if_pos c7] at H
   have c7b0 : decide (x13_1 < (l1.length : Int)) = true := decide_eq_true c7
   clear c7
   by_cases c8 : ((rdOf false l0 x13_1) != (rdOf false l1 x13_1)) = true
   ·rw [if_pos c8] at H
    have c8b0 : ((rdOf false l0 x13_1) != (rdOf false l1 x13_1)) = true := c8
    (try (have c8b1 : decide ((rdOf false l0 x13_1) = (rdOf false l1 x13_1)) = false := by simpa using c8))
    (try (have c8b2 : ((rdOf false l0 x13_1) == (rdOf false l1 x13_1)) = false := by simpa using c8))
    (try (have c8b3 : ¬ ((rdOf false l0 x13_1) = (rdOf false l1 x13_1)) := by simpa using c8))
    clear c8
    obtain rfl := Option.some.inj H
    have p1149 : 0 ≤ (x13_1 : Int) := of_decide_eq_true (by first | (with_reducible assumption) | assumption)
    have q1149 : x13_1 < (l0.length : Int) := of_decide_eq_true (by first | (with_reducible assumption) | assumption)
    obtain ⟨ad1149, e1149, hx1149_0⟩ := Kd.at_bool HR0.out x13_1 p1149 q1149
    cases e1149
    replace p1149 := eq_true p1149
    replace q1149 := eq_true q1149
    have p1150 : 0 ≤ (x13_1 : Int) := of_decide_eq_true (by first | (with_reducible assumption) | assumption)
    have q1150 : x13_1 < (l1.length : Int) := of_decide_eq_true (by first | (with_reducible assumption) | assumption)
    obtain ⟨ad1150, e1150, hx1150_0⟩ := Kd.at_bool HR1.out x13_1 p1150 q1150
    cases e1150
    replace p1150 := eq_true p1150
    replace q1150 := eq_true q1150
    go_wp2
    repeat (go_quiet (fail); try go_wp2)
    go_ret
    exact ⟨by first | rfl | (simp; done) | (simp [*]; done), by repeat (first | exact Drawn0.refl _ | apply Drawn0.step)⟩
   rw [if_neg c8] at H
   have c8b0 : ((rdOf false l0 x13_1) != (rdOf false l1 x13_1)) = false := by simpa using c8
   (try (have c8b1 : decide ((rdOf false l0 x13_1) = (rdOf false l1 x13_1)) = true := by simpa using c8))
   (try (have c8b2 : ((rdOf false l0 x13_1) == (rdOf false l1 x13_1)) = true := by simpa using c8))
   clear c8
   have H' := Aside0.mk H
   clear H
   have p1149 : 0 ≤ (x13_1 : Int) := of_decide_eq_true (by first | (with_reducible assumption) | assumption)
   have q1149 : x13_1 < (l0.length : Int) := of_decide_eq_true (by first | (with_reducible assumption) | assumption)
   obtain ⟨ad1149, e1149, hx1149_0⟩ := Kd.at_bool HR0.out x13_1 p1149 q1149
   cases e1149
   replace p1149 := eq_true p1149
   replace q1149 := eq_true q1149
   have p1150 : 0 ≤ (x13_1 : Int) := of_decide_eq_true (by first | (with_reducible assumption) | assumption)
   have q1150 : x13_1 < (l1.length : Int) := of_decide_eq_true (by first | (with_reducible assumption) | assumption)
   obtain ⟨ad1150, e1150, hx1150_0⟩ := Kd.at_bool HR1.out x13_1 p1150 q1150
   cases e1150
   replace p1150 := eq_true p1150
   replace q1150 := eq_true q1150
   go_wp2
   repeat (go_quiet (fail); try go_wp2)
   go_roundg k1
   case measure => have := HK1.out; omega
   case rel => exact ⟨(wrap64 (x13_1 + 1)), (by first | rfl | (simp; done) | (simp [*]; done)), H', ⟨by have := HK1.out; omega⟩, by repeat (first | exact Drawn0.refl _ | apply Drawn0.step)⟩

def spec_DrawNextState.f (l0 : List Int) : Option (Int × Bool) := (slices_xorshift_Next.f l0).bind fun bt1151 => ((spec_l1Cur_pick.f bt1151.1 bt1151.2.1 bt1151.2.2 5).bind fun bt1155 => ((spec_l1Cur_one.f bt1151.1 bt1155.2.1 bt1155.2.2 2).bind fun bt1158 => (some (wrap64 (bt1155.1 - 1), bt1158.1))))
set_option maxHeartbeats 8000000 in
set_option maxRecDepth 100000 in
theorem spec_DrawNextState.calls (A0 : Option Addr) (c0 : Nat) (l0 : List Int) (r1 : Int) (r2 : Bool) (w : World) (hr0 : Kd.C (Kd.int .u8) w A0 l0.length l0) (hc0 : l0.length ≤ c0) (h : spec_DrawNextState.f l0 = some (r1, r2)) :
  Calls Try.prog 36 #[.slice A0 l0.length c0] w fun e w' => e = .returned (.tuple #[.int .i64 r1, .bool r2]) ∧ Below w.heap.size w w' := by
 have HR0 := Aside0.mk hr0
 have HC0 := Aside0.mk hc0
 clear hr0 hc0
 have HB := Aside0.mk (Below.refl w.heap.size w)
 have H : ((slices_xorshift_Next.f l0).bind fun bt1151 => ((spec_l1Cur_pick.f bt1151.1 bt1151.2.1 bt1151.2.2 5).bind fun bt1155 => ((spec_l1Cur_one.f bt1151.1 bt1155.2.1 bt1155.2.2 2).bind fun bt1158 => (some (wrap64 (bt1155.1 - 1), bt1158.1))))) = some (r1, r2) := h
 clear h
 replace H := Option.bind_eq_some_iff.mp H
 obtain ⟨⟨t1151, t1152, t1153⟩, A20, H⟩ := H
 replace H : ((spec_l1Cur_pick.f t1151 t1152 t1153 5).bind fun bt1155 => ((spec_l1Cur_one.f t1151 bt1155.2.1 bt1155.2.2 2).bind fun bt1158 => (some (wrap64 (bt1155.1 - 1), bt1158.1)))) = some (r1, r2) := H
 have DE_A2 : Aside0 (t1151 = l0 ∧ t1152 = 0 ∧ t1153 = 0) := ⟨by have h_ := A20; simp only [slices_xorshift_Next.f, Option.some.injEq, Prod.mk.injEq] at h_; exact ⟨h_.1.symm, h_.2.1.symm, h_.2.2.symm⟩⟩
 have A2 := Aside0.mk A20
 clear A20
 replace H := Option.bind_eq_some_iff.mp H
 obtain ⟨⟨t1155, t1156, t1157⟩, A30, H⟩ := H
 replace H : ((spec_l1Cur_one.f t1151 t1156 t1157 2).bind fun bt1158 => (some (wrap64 (t1155 - 1), bt1158.1))) = some (r1, r2) := H
 have A3 := Aside0.mk A30
 clear A30
 replace H := Option.bind_eq_some_iff.mp H
 obtain ⟨⟨t1158, t1159, t1160⟩, A40, H⟩ := H
 replace H : (some (wrap64 (t1155 - 1), t1158)) = some (r1, r2) := H
 have A4 := Aside0.mk A40
 clear A40
 simp only [Option.some.injEq, Prod.mk.injEq] at H
 obtain ⟨rfl, rfl⟩ := H
 go_enter Try.func36, Try.ntmps36
 go_wp2_with (first | ((with_reducible refine gate_dst (N := 7) rfl ?_); refine box_event ?hg (N := 7) ?hd (cs := #[.slice A0 l0.length c0, .int .i64 0, .int .u64 0]) (t := 105) ?hr ?_; (case hd => rfl); (case hg => rfl); (case hr => first | (go_simp; done) | (go_simp; rfl)); intro g1154 hg w5 hbox hb2; have hi : IsS105 w w5 g1154 t1151 t1152 t1153 := (by rw [DE_A2.out.1, DE_A2.out.2.1, DE_A2.out.2.2]; exact ⟨_, _, hbox, (gw_ hg HB).out, HR0.out⟩); have hb := (bst_ HB hb2).out; clear hg hbox; have HI1154 := Aside0.mk (hi); replace HB := Aside0.mk (hb); clear hb hb2 hi) | ((with_reducible refine gate_callee (f := 94) rfl ?_); refine goesL_ (some 9) rfl rfl Try.func94 (by kernel_rfl) rfl #[.pointer (some ⟨g1154, 0, none⟩), .int .i64 5] rfl tm_ ?_; (with_reducible refine (spec_l1Cur_pick.calls g1154 t1151 t1152 t1153 5 t1155 t1156 t1157 w _ ?side1 ?side2 A3.out).mono ?_); (case side1 => repeat (first | (with_reducible first | exact HI1154.out | apply IsS105.alloc | apply IsS105.drewN | apply IsS105.drew | apply IsS105.set_1 | apply IsS105.set_2) | exact HI1154.out)); (case side2 => repeat (first | (with_reducible first | exact HB.out | apply below_alloc | apply pw_below_drewN | apply below_drew1 | refine below_set ?_ (IsS105.ge HI1154.out)) | exact HB.out)); rintro e w6 ⟨rfl, hi, hb, hk⟩; refine ⟨_, rfl, ?_⟩; replace HB := Aside0.mk (hb); replace HI1154 := Aside0.mk (hi); clear hb hk hi) | ((with_reducible refine gate_callee (f := 95) rfl ?_); refine goesL_ (some 12) rfl rfl Try.func95 (by kernel_rfl) rfl #[.pointer (some ⟨g1154, 0, none⟩), .int .i64 2] rfl tm_ ?_; (with_reducible refine (spec_l1Cur_one.calls g1154 t1151 t1156 t1157 2 t1158 t1159 t1160 w _ ?side1 ?side2 A4.out).mono ?_); (case side1 => repeat (first | (with_reducible first | exact HI1154.out | apply IsS105.alloc | apply IsS105.drewN | apply IsS105.drew | apply IsS105.set_1 | apply IsS105.set_2) | exact HI1154.out)); (case side2 => repeat (first | (with_reducible first | exact HB.out | apply below_alloc | apply pw_below_drewN | apply below_drew1 | refine below_set ?_ (IsS105.ge HI1154.out)) | exact HB.out)); rintro e w7 ⟨rfl, hi, hb, hk⟩; refine ⟨_, rfl, ?_⟩; replace HB := Aside0.mk (hb); replace HI1154 := Aside0.mk (hi); clear hb hk hi))
 go_ret2
 exact ⟨by first | rfl | (simp [errW_none, errW_some] <;> rfl) | (simp [*, errW_none, errW_some] <;> rfl), by repeat (first | (with_reducible first | exact HB.out | apply below_alloc | apply pw_below_drewN | apply below_drew1 | refine below_set ?_ (IsS105.ge HI1154.out)) | exact HB.out)⟩

def impl_NextState.f (a0 : Int) (a1 : Bool) : Option (Int × Bool) := (impl_in.f a0 0 2).bind fun t1161 => (if t1161 = true then ((impl_nextState.f a1).bind fun t1162 => (some (t1162, true))) else (some (0, false)))
set_option maxHeartbeats 8000000 in
set_option maxRecDepth 100000 in
theorem impl_NextState.calls (a0 : Int) (a1 : Bool) (r1 : Int) (r2 : Bool) (w : World) (h : impl_NextState.f a0 a1 = some (r1, r2)) :
  Calls Try.prog 37 #[.int .i64 a0, .bool a1] w fun e w' => e = .returned (.tuple #[.int .i64 r1, .bool r2]) ∧ Drawn0 w w' := by
 have H : ((impl_in.f a0 0 2).bind fun t1161 => (if t1161 = true then ((impl_nextState.f a1).bind fun t1162 => (some (t1162, true))) else (some (0, false)))) = some (r1, r2) := h
 clear h
 replace H := Option.bind_eq_some_iff.mp H
 obtain ⟨t1161, A30, H⟩ := H
 replace H : (if t1161 = true then ((impl_nextState.f a1).bind fun t1162 => (some (t1162, true))) else (some (0, false))) = some (r1, r2) := H
 have A3 := Aside0.mk A30
 clear A30
 by_cases c4 : t1161 = true
 rotate_left
 ·replace c4 := Bool.eq_false_iff.mpr c4
  subst c4
  rw [if_neg (show ¬ (false = true) by decide)] at H
  simp only [Option.some.injEq, Prod.mk.injEq] at H
  obtain ⟨rfl, rfl⟩ := H
  go_enter Try.func37, Try.ntmps37
  go_wp2_with (first | ((with_reducible refine gate_callee (f := 84) rfl ?_); refine goesL_ (some 7) rfl rfl Try.func84 (by kernel_rfl) rfl #[.int .i64 a0, .int .i64 0, .int .i64 2] rfl tm_ ?_; (with_reducible refine (impl_in.calls a0 0 2 false _ A3.out).mono ?_); rintro e w' ⟨rfl, ⟨nd, rfl⟩⟩; refine ⟨_, rfl, ?_⟩))
  go_ret2
  exact ⟨by first | rfl | (simp; done) | (simp [*]; done), by repeat (first | exact Drawn0.refl _ | apply Drawn0.step)⟩
 subst c4
 rw [if_pos rfl] at H
 replace H := Option.bind_eq_some_iff.mp H
 obtain ⟨t1162, A50, H⟩ := H
 replace H : (some (t1162, true)) = some (r1, r2) := H
 have A5 := Aside0.mk A50
 clear A50
 simp only [Option.some.injEq, Prod.mk.injEq] at H
 obtain ⟨rfl, rfl⟩ := H
 go_enter Try.func37, Try.ntmps37
 go_wp2_with (first | ((with_reducible refine gate_callee (f := 84) rfl ?_); refine goesL_ (some 7) rfl rfl Try.func84 (by kernel_rfl) rfl #[.int .i64 a0, .int .i64 0, .int .i64 2] rfl tm_ ?_; (with_reducible refine (impl_in.calls a0 0 2 true _ A3.out).mono ?_); rintro e w' ⟨rfl, ⟨nd, rfl⟩⟩; refine ⟨_, rfl, ?_⟩) | ((with_reducible refine gate_callee (f := 86) rfl ?_); refine goesL_ (some 10) rfl rfl Try.func86 (by kernel_rfl) rfl #[.bool a1] rfl tm_ ?_; (with_reducible refine (impl_nextState.calls a1 t1162 _ A5.out).mono ?_); rintro e w' ⟨rfl, ⟨nd, rfl⟩⟩; refine ⟨_, rfl, ?_⟩))
 go_ret2
 exact ⟨by first | rfl | (simp; done) | (simp [*]; done), by repeat (first | exact Drawn0.refl _ | apply Drawn0.step)⟩

end Go.Proofs.Ytfkjnpgpofcinaa.P
