import Derived.Test.YtfkjnpgpofcinaaF0
import Derived.Test.YtfkjnpgpofcinaaF20
import Derived.Test.YtfkjnpgpofcinaaF21
import Derived.Test.YtfkjnpgpofcinaaF24
import Derived.Test.YtfkjnpgpofcinaaF25
import Derived.Test.YtfkjnpgpofcinaaF27
import Derived.Test.YtfkjnpgpofcinaaF28
import Derived.Test.YtfkjnpgpofcinaaF29
import Derived.Test.YtfkjnpgpofcinaaF36
namespace Go.Proofs.Ytfkjnpgpofcinaa.P
open Go.RowKit Go.Proofs.YtfkjnpgpofcinaaW.PrintWords Go.Proofs.YtfkjnpgpofcinaaW.PrintLast Go.Proofs.YtfkjnpgpofcinaaW.PrintMore
attribute [local go_sem] max2_int min2_int max_two min_two max_three min_three max_four min_four   -- for this text's walks alone
set_option linter.unusedVariables false
set_option linter.unusedSimpArgs false
attribute [local go_sem high] eqA45 eqA76 eqA83

mutual
def laws_FnPair.j0 : Nat → List Int → Bool → Bool → List Int → List Int → List (S45) → Option (Bool)
 | 0, _, _, _, _, _, _ => none
 | k + 1, x1, x8, x60, x1180000, x1180001, x1180002 => if x60 = true then (some false) else (if x8 = true then ((impl_SettlePair.f k x1180000 x1180001 x1180002).bind fun bt1196 => ((impl_AreBoth.f k bt1196.1 bt1196.2.1 bt1196.2.2.1).bind fun bt1207 => ((impl_GoodPair.f k x1180000 x1180001 x1180002).bind fun t1209 => (if t1209 = true then (if bt1196.2.2.2 = true then (if bt1207.2 = true then (laws_FnPair.j1 k x1 (!bt1207.1) bt1196.1 bt1196.2.1 bt1196.2.2.1) else (laws_FnPair.j1 k x1 true bt1196.1 bt1196.2.1 bt1196.2.2.1)) else (laws_FnPair.j1 k x1 true bt1196.1 bt1196.2.1 bt1196.2.2.1)) else (laws_FnPair.j1 k x1 true bt1196.1 bt1196.2.1 bt1196.2.2.1))))) else ((spec_DrawNextState.f x1).bind fun bt1232 => ((impl_NextState.f bt1232.1 bt1232.2).bind fun bt1234 => ((spec_NextState.f bt1232.1 bt1232.2).bind fun bt1236 => (if (bt1234.2 == bt1236.2) = true then (some (bt1234.1 == bt1236.1)) else (some false))))))
def laws_FnPair.j1 : Nat → List Int → Bool → List Int → List Int → List (S45) → Option (Bool)
 | 0, _, _, _, _, _ => none
 | k + 1, x1, x86, x1207000, x1207001, x1207002 => if x86 = true then (some false) else (laws_FnPair.l0 k x1 0 x1207000 x1207001 x1207002)
def laws_FnPair.l0 : Nat → List Int → Int → List Int → List Int → List (S45) → Option (Bool)
 | 0, _, _, _, _, _ => none
 | k + 1, x1, x17, x1211000, x1211001, x1211002 => if x17 < 3 then ((impl_StepPair.f k x1211000 x1211001 x1211002 4 0).bind fun bt1211 => (if bt1211.2.2.2 = true then (laws_FnPair.l0 k x1 (wrap64 (x17 + 1)) bt1211.1 bt1211.2.1 bt1211.2.2.1) else (some false))) else ((laws_sameInts.f k x1211000 (([0, 0] : List Int))).bind fun t1225 => (if t1225 = true then ((spec_DrawNextState.f x1).bind fun bt1226 => ((impl_NextState.f bt1226.1 bt1226.2).bind fun bt1228 => ((spec_NextState.f bt1226.1 bt1226.2).bind fun bt1230 => (if (bt1228.2 == bt1230.2) = true then (some (bt1228.1 == bt1230.1)) else (some false))))) else (some false)))
end
def laws_FnPair.f (k : Nat) (l0 : List Int) (l1 : List Int) : Option (Bool) := if (wrap64 ((l0.length : Int) + (l1.length : Int))) > 1048576 then (some true) else ((spec_DrawPlayPair.f k l0).bind fun t1163 => ((impl_PlayPair.f k t1163).bind fun bt1166 => ((spec_PlayPair.f k t1163).bind fun bt1180 => (if (bt1166.2.2.2.2 != bt1180.2.2.2.2) = true then (laws_FnPair.j0 k l1 bt1166.2.2.2.2 true bt1166.1 bt1166.2.1 bt1166.2.2.1) else ((laws_sameBools.f k bt1166.2.2.2.1 bt1180.2.2.2.1).bind fun t1194 => (if t1194 = true then ((laws_samePair.f k bt1166.1 bt1166.2.1 bt1166.2.2.1 bt1180.1 bt1180.2.1 bt1180.2.2.1).bind fun t1195 => (laws_FnPair.j0 k l1 bt1166.2.2.2.2 (!t1195) bt1166.1 bt1166.2.1 bt1166.2.2.1)) else (laws_FnPair.j0 k l1 bt1166.2.2.2.2 true bt1166.1 bt1166.2.1 bt1166.2.2.1)))))))
theorem laws_FnPair.mono_l : ∀ k, (∀ y0 y1 y2 y3 y4 y5, LeO (laws_FnPair.j0 k y0 y1 y2 y3 y4 y5) (laws_FnPair.j0 (k + 1) y0 y1 y2 y3 y4 y5)) ∧ (∀ y0 y1 y2 y3 y4, LeO (laws_FnPair.j1 k y0 y1 y2 y3 y4) (laws_FnPair.j1 (k + 1) y0 y1 y2 y3 y4)) ∧ (∀ y0 y1 y2 y3 y4, LeO (laws_FnPair.l0 k y0 y1 y2 y3 y4) (laws_FnPair.l0 (k + 1) y0 y1 y2 y3 y4))
 | 0 => ⟨fun _ _ _ _ _ _ r h => by simp [laws_FnPair.j0] at h, fun _ _ _ _ _ r h => by simp [laws_FnPair.j1] at h, fun _ _ _ _ _ r h => by simp [laws_FnPair.l0] at h⟩
 | k + 1 => by
  obtain ⟨ih0, ih1, ih2⟩ := laws_FnPair.mono_l k
  refine ⟨?_, ?_, ?_⟩
  ·intro y0 y1 y2 y3 y4 y5
   unfold laws_FnPair.j0
   repeat' first
   | (with_reducible exact ih0 _ _ _ _ _ _)
   | (with_reducible exact ih1 _ _ _ _ _)
   | (with_reducible exact ih2 _ _ _ _ _)
   | (with_reducible exact impl_AreBoth.mono _ _ _ _)
   | (with_reducible exact impl_GoodPair.mono _ _ _ _)
   | (with_reducible exact impl_PlayPair.mono _ _)
   | (with_reducible exact impl_SettlePair.mono _ _ _ _)
   | (with_reducible exact impl_StepPair.mono _ _ _ _ _ _)
   | (with_reducible exact laws_sameBools.mono _ _ _)
   | (with_reducible exact laws_sameInts.mono _ _ _)
   | (with_reducible exact laws_samePair.mono _ _ _ _ _ _ _)
   | (with_reducible exact spec_DrawPlayPair.mono _ _)
   | (with_reducible exact spec_PlayPair.mono _ _)
   | (with_reducible exact LeO.refl _)
   | (with_reducible exact LeO.none _)
   | (with_reducible refine LeO.ite ?_ ?_)
   | (with_reducible refine LeO.bind ?_ (fun _ => ?_))
  ·intro y0 y1 y2 y3 y4
   unfold laws_FnPair.j1
   repeat' first
   | (with_reducible exact ih0 _ _ _ _ _ _)
   | (with_reducible exact ih1 _ _ _ _ _)
   | (with_reducible exact ih2 _ _ _ _ _)
   | (with_reducible exact impl_AreBoth.mono _ _ _ _)
   | (with_reducible exact impl_GoodPair.mono _ _ _ _)
   | (with_reducible exact impl_PlayPair.mono _ _)
   | (with_reducible exact impl_SettlePair.mono _ _ _ _)
   | (with_reducible exact impl_StepPair.mono _ _ _ _ _ _)
   | (with_reducible exact laws_sameBools.mono _ _ _)
   | (with_reducible exact laws_sameInts.mono _ _ _)
   | (with_reducible exact laws_samePair.mono _ _ _ _ _ _ _)
   | (with_reducible exact spec_DrawPlayPair.mono _ _)
   | (with_reducible exact spec_PlayPair.mono _ _)
   | (with_reducible exact LeO.refl _)
   | (with_reducible exact LeO.none _)
   | (with_reducible refine LeO.ite ?_ ?_)
   | (with_reducible refine LeO.bind ?_ (fun _ => ?_))
  ·intro y0 y1 y2 y3 y4
   unfold laws_FnPair.l0
   repeat' first
   | (with_reducible exact ih0 _ _ _ _ _ _)
   | (with_reducible exact ih1 _ _ _ _ _)
   | (with_reducible exact ih2 _ _ _ _ _)
   | (with_reducible exact impl_AreBoth.mono _ _ _ _)
   | (with_reducible exact impl_GoodPair.mono _ _ _ _)
   | (with_reducible exact impl_PlayPair.mono _ _)
   | (with_reducible exact impl_SettlePair.mono _ _ _ _)
   | (with_reducible exact impl_StepPair.mono _ _ _ _ _ _)
   | (with_reducible exact laws_sameBools.mono _ _ _)
   | (with_reducible exact laws_sameInts.mono _ _ _)
   | (with_reducible exact laws_samePair.mono _ _ _ _ _ _ _)
   | (with_reducible exact spec_DrawPlayPair.mono _ _)
   | (with_reducible exact spec_PlayPair.mono _ _)
   | (with_reducible exact LeO.refl _)
   | (with_reducible exact LeO.none _)
   | (with_reducible refine LeO.ite ?_ ?_)
   | (with_reducible refine LeO.bind ?_ (fun _ => ?_))
theorem laws_FnPair.mono : ∀ a0 a1 k, LeO (laws_FnPair.f k a0 a1) (laws_FnPair.f (k + 1) a0 a1) := by
 intro a0 a1 k
 obtain ⟨ih0, ih1, ih2⟩ := laws_FnPair.mono_l k
 unfold laws_FnPair.f
 repeat' first
   | (with_reducible exact ih0 _ _ _ _ _ _)
   | (with_reducible exact ih1 _ _ _ _ _)
   | (with_reducible exact ih2 _ _ _ _ _)
   | (with_reducible exact impl_AreBoth.mono _ _ _ _)
   | (with_reducible exact impl_GoodPair.mono _ _ _ _)
   | (with_reducible exact impl_PlayPair.mono _ _)
   | (with_reducible exact impl_SettlePair.mono _ _ _ _)
   | (with_reducible exact impl_StepPair.mono _ _ _ _ _ _)
   | (with_reducible exact laws_sameBools.mono _ _ _)
   | (with_reducible exact laws_sameInts.mono _ _ _)
   | (with_reducible exact laws_samePair.mono _ _ _ _ _ _ _)
   | (with_reducible exact spec_DrawPlayPair.mono _ _)
   | (with_reducible exact spec_PlayPair.mono _ _)
   | (with_reducible exact LeO.refl _)
   | (with_reducible exact LeO.none _)
   | (with_reducible refine LeO.ite ?_ ?_)
   | (with_reducible refine LeO.bind ?_ (fun _ => ?_))
theorem laws_FnPair.cj_ {p q : Prop} (h : p) (f : p → q := by (intro h_; simp only [no_, ne_eq] at h_ ⊢; simp only [h_, not_false_eq_true, and_self, and_true, true_and])) : q := f h
set_option maxHeartbeats 8000000 in
set_option maxRecDepth 100000 in
theorem laws_FnPair.calls (k : Nat) (A0 : Option Addr) (c0 : Nat) (l0 : List Int) (A1 : Option Addr) (c1 : Nat) (l1 : List Int) (r : Bool) (w : World) (hr0 : Kd.C (Kd.int .u8) w A0 l0.length l0) (hc0 : l0.length ≤ c0) (hr1 : Kd.C (Kd.int .u8) w A1 l1.length l1) (hc1 : l1.length ≤ c1) (h : laws_FnPair.f k l0 l1 = some r) :
  Calls Try.prog 5 #[.slice A0 l0.length c0, .slice A1 l1.length c1] w fun e w' => e = .returned (.bool r) ∧ Below w.heap.size w w' := by
 have hu35 := Try.underlying35
 have hu37 := Try.underlying37
 have HR0 := Aside0.mk hr0
 have HC0 := Aside0.mk hc0
 clear hr0 hc0
 have HR1 := Aside0.mk hr1
 have HC1 := Aside0.mk hc1
 clear hr1 hc1
 have HB := Aside0.mk (Below.refl w.heap.size w)
 have H : (if (wrap64 ((l0.length : Int) + (l1.length : Int))) > 1048576 then (some true) else ((spec_DrawPlayPair.f k l0).bind fun t1163 => ((impl_PlayPair.f k t1163).bind fun bt1166 => ((spec_PlayPair.f k t1163).bind fun bt1180 => (if (bt1166.2.2.2.2 != bt1180.2.2.2.2) = true then (laws_FnPair.j0 k l1 bt1166.2.2.2.2 true bt1166.1 bt1166.2.1 bt1166.2.2.1) else ((laws_sameBools.f k bt1166.2.2.2.1 bt1180.2.2.2.1).bind fun t1194 => (if t1194 = true then ((laws_samePair.f k bt1166.1 bt1166.2.1 bt1166.2.2.1 bt1180.1 bt1180.2.1 bt1180.2.2.1).bind fun t1195 => (laws_FnPair.j0 k l1 bt1166.2.2.2.2 (!t1195) bt1166.1 bt1166.2.1 bt1166.2.2.1)) else (laws_FnPair.j0 k l1 bt1166.2.2.2.2 true bt1166.1 bt1166.2.1 bt1166.2.2.1)))))))) = some r := h
 clear h
 by_cases c3 : (wrap64 ((l0.length : Int) + (l1.length : Int))) > 1048576
 ·rw [if_pos c3] at H
  have c3b0 : decide (1048576 < (wrap64 ((l0.length : Int) + (l1.length : Int)))) = true := decide_eq_true c3
  clear c3
  obtain rfl := Option.some.inj H
  go_enter Try.func5, Try.ntmps5
  go_wp2
  go_ret
  exact ⟨by first | rfl | (simp [errW_none, errW_some] <;> rfl) | (simp [*, errW_none, errW_some] <;> rfl), by repeat (first | (with_reducible first | exact HB.out | apply below_alloc | apply pw_below_drewN | apply below_drew1) | exact HB.out)⟩
 rw [if_neg c3] at H
 have c3b0 : decide (1048576 < (wrap64 ((l0.length : Int) + (l1.length : Int)))) = false := decide_eq_false c3
 clear c3
 replace H := Option.bind_eq_some_iff.mp H
 obtain ⟨t1163, A40, H⟩ := H
 replace H : ((impl_PlayPair.f k t1163).bind fun bt1166 => ((spec_PlayPair.f k t1163).bind fun bt1180 => (if (bt1166.2.2.2.2 != bt1180.2.2.2.2) = true then (laws_FnPair.j0 k l1 bt1166.2.2.2.2 true bt1166.1 bt1166.2.1 bt1166.2.2.1) else ((laws_sameBools.f k bt1166.2.2.2.1 bt1180.2.2.2.1).bind fun t1194 => (if t1194 = true then ((laws_samePair.f k bt1166.1 bt1166.2.1 bt1166.2.2.1 bt1180.1 bt1180.2.1 bt1180.2.2.1).bind fun t1195 => (laws_FnPair.j0 k l1 bt1166.2.2.2.2 (!t1195) bt1166.1 bt1166.2.1 bt1166.2.2.1)) else (laws_FnPair.j0 k l1 bt1166.2.2.2.2 true bt1166.1 bt1166.2.1 bt1166.2.2.1)))))) = some r := H
 have A4 := Aside0.mk A40
 clear A40
 replace H := Option.bind_eq_some_iff.mp H
 obtain ⟨⟨t1166, t1169, t1172, t1175, t1178⟩, A50, H⟩ := H
 replace H : ((spec_PlayPair.f k t1163).bind fun bt1180 => (if (t1178 != bt1180.2.2.2.2) = true then (laws_FnPair.j0 k l1 t1178 true t1166 t1169 t1172) else ((laws_sameBools.f k t1175 bt1180.2.2.2.1).bind fun t1194 => (if t1194 = true then ((laws_samePair.f k t1166 t1169 t1172 bt1180.1 bt1180.2.1 bt1180.2.2.1).bind fun t1195 => (laws_FnPair.j0 k l1 t1178 (!t1195) t1166 t1169 t1172)) else (laws_FnPair.j0 k l1 t1178 true t1166 t1169 t1172))))) = some r := H
 have A5 := Aside0.mk A50
 clear A50
 replace H := Option.bind_eq_some_iff.mp H
 obtain ⟨⟨t1180, t1183, t1186, t1189, t1192⟩, A60, H⟩ := H
 replace H : (if (t1178 != t1192) = true then (laws_FnPair.j0 k l1 t1178 true t1166 t1169 t1172) else ((laws_sameBools.f k t1175 t1189).bind fun t1194 => (if t1194 = true then ((laws_samePair.f k t1166 t1169 t1172 t1180 t1183 t1186).bind fun t1195 => (laws_FnPair.j0 k l1 t1178 (!t1195) t1166 t1169 t1172)) else (laws_FnPair.j0 k l1 t1178 true t1166 t1169 t1172)))) = some r := H
 have A6 := Aside0.mk A60
 clear A60
 have HC7 := Aside0.mk H
 clear H
 go_enter Try.func5, Try.ntmps5
 go_upto_region 6 with (first | ((with_reducible refine gate_callee (f := 31) rfl ?_); refine goesL_ (some 33) rfl rfl Try.func31 (by kernel_rfl) rfl #[.slice A0 l0.length c0] rfl tm_ ?_; (with_reducible refine (spec_DrawPlayPair.calls k _ _ l0 t1163 _ ?side1 ?side2 A4.out).mono ?_); (case side1 => exact ca HR0.out); (case side2 => exact HC0.out); rintro e w8 ⟨v1164, rfl, ho0, hb⟩; refine ⟨_, rfl, ?_⟩; have HO1165 := Aside0.mk (Kd.R_lower ho0 (below_size (hB HB))); replace HB := bst_ HB hb; clear hb ho0; obtain ⟨Ao9, co9, eo9⟩ := Kd.R_slice HO1165.out; subst eo9) | ((with_reducible refine gate_callee (f := 32) rfl ?_); refine goesL_ (some 36) rfl rfl Try.func32 (by kernel_rfl) rfl #[.slice Ao9 t1163.length co9] rfl tm_ ?_; (with_reducible refine (impl_PlayPair.calls k _ _ t1163 t1166 t1169 t1172 t1175 t1178 _ ?side1 ?side2 A5.out).mono ?_); (case side1 => exact ca (Kd.R_reads' HO1165.out).2.2); (case side2 => exact (Kd.R_reads' HO1165.out).2.1); rintro e w10 ⟨v1167, v1170, v1173, v1176, rfl, ho0, ho1, ho2, ho3, hb⟩; refine ⟨_, rfl, ?_⟩; have HO1168 := Aside0.mk (Kd.R_lower ho0 (below_size (hB HB))); have HO1171 := Aside0.mk (Kd.R_lower ho1 (below_size (hB HB))); have HO1174 := Aside0.mk (Kd.R_lower ho2 (below_size (hB HB))); have HO1177 := Aside0.mk (Kd.R_lower ho3 (below_size (hB HB))); replace HO1165 := rb_ HO1165 hb; replace HB := bst_ HB hb; clear hb ho0 ho1 ho2 ho3) | ((with_reducible refine gate_dst (N := 6) rfl ?_); refine box_event ?hg (N := 6) ?hd (cs := #[.slice none 0 0, .slice none 0 0, .slice none 0 0]) (t := 35) ?hr ?_; (case hd => rfl); (case hg => rfl); (case hr => first | (go_simp; done) | (go_simp; rfl)); intro gb1179 hg w11 hbox hb; have BK1179 := Aside0.mk (hbox); have GW1179 := gw_ hg HB; have GE1179 := gw_ hg HB; replace HO1165 := rb_ HO1165 hb; replace HO1168 := rb_ HO1168 hb; replace HO1171 := rb_ HO1171 hb; replace HO1174 := rb_ HO1174 hb; replace HO1177 := rb_ HO1177 hb; replace HB := bst_ HB hb; clear hb hbox hg; obtain ⟨Ao12, co12, eo12⟩ := Kd.R_slice HO1168.out; subst eo12; have hcz13_0 : w11.cell? ⟨gb1179, 0, none⟩ = some (.slice none 0 0) := bc_ BK1179 0; have hcz13_1 : w11.cell? ⟨gb1179, 1, none⟩ = some (.slice none 0 0) := bc_ BK1179 1; have hcz13_2 : w11.cell? ⟨gb1179, 2, none⟩ = some (.slice none 0 0) := bc_ BK1179 2; have hfz13_0 := blk_frozen BK1179.out 0; have hfz13_1 := blk_frozen BK1179.out 1; have hfz13_2 := blk_frozen BK1179.out 2; obtain ⟨Ao14, co14, eo14⟩ := Kd.R_slice HO1171.out; subst eo14; obtain ⟨Ao15, co15, eo15⟩ := Kd.R_slice HO1174.out; subst eo15) | ((with_reducible refine gate_callee (f := 33) rfl ?_); refine goesL_ (some 42) rfl rfl Try.func33 (by kernel_rfl) rfl #[.slice Ao9 t1163.length co9] rfl tm_ ?_; (with_reducible refine (spec_PlayPair.calls k _ _ t1163 t1180 t1183 t1186 t1189 t1192 _ ?side1 ?side2 A6.out).mono ?_); (case side1 => refine (Kd.R_reads' (e := 37) (base := w.heap.size) (ok := fun k_ => True) (n := t1163.length) (c := co9) ?_).2.2; exact (by (with_reducible repeat (first | apply Kd.R_alloc | apply Kd.R_drewN | apply Kd.R_drew)); exact (fm3_ HO1165 BK1179))); (case side2 => exact (Kd.R_reads' HO1165.out).2.1); rintro e w16 ⟨v1181, v1184, v1187, v1190, rfl, ho0, ho1, ho2, ho3, hb⟩; refine ⟨_, rfl, ?_⟩; have HO1182 := Aside0.mk (Kd.R_lower (Kd.R_new' (Kd.R_new' ho0 (Kd.R_lt (by (with_reducible repeat (first | apply Kd.R_alloc | apply Kd.R_drewN | apply Kd.R_drew)); exact (fm3_ HO1168 BK1179)))) (Kd.R_lt (by (with_reducible repeat (first | apply Kd.R_alloc | apply Kd.R_drewN | apply Kd.R_drew)); exact (fm3_ HO1171 BK1179)))) (below_size (hB HB))); have HO1185 := Aside0.mk (Kd.R_lower (Kd.R_new' (Kd.R_new' ho1 (Kd.R_lt (by (with_reducible repeat (first | apply Kd.R_alloc | apply Kd.R_drewN | apply Kd.R_drew)); exact (fm3_ HO1168 BK1179)))) (Kd.R_lt (by (with_reducible repeat (first | apply Kd.R_alloc | apply Kd.R_drewN | apply Kd.R_drew)); exact (fm3_ HO1171 BK1179)))) (below_size (hB HB))); have HO1188 := Aside0.mk (Kd.R_lower (Kd.R_new' ho2 (Kd.R_lt (by (with_reducible repeat (first | apply Kd.R_alloc | apply Kd.R_drewN | apply Kd.R_drew)); exact (fm3_ HO1174 BK1179)))) (below_size (hB HB))); have HO1191 := Aside0.mk (Kd.R_lower (Kd.R_new' ho3 (Kd.R_lt (by (with_reducible repeat (first | apply Kd.R_alloc | apply Kd.R_drewN | apply Kd.R_drew)); exact (fm3_ HO1177 BK1179)))) (below_size (hB HB))); replace HO1165 := Aside0.mk (Kd.R_below (by (with_reducible repeat (first | apply Kd.R_alloc | apply Kd.R_drewN | apply Kd.R_drew)); exact (fm3_ HO1165 BK1179)) hb); replace HO1168 := Aside0.mk (Kd.R_mono (Kd.R_told (Kd.R_told (Kd.R_old (by (with_reducible repeat (first | apply Kd.R_alloc | apply Kd.R_drewN | apply Kd.R_drew)); exact (fm3_ HO1168 BK1179)) hb) (Kd.R_base ho0)) (Kd.R_base ho1)) (fun _ h_ => h_.1)); replace HO1171 := Aside0.mk (Kd.R_mono (Kd.R_told (Kd.R_told (Kd.R_old (by (with_reducible repeat (first | apply Kd.R_alloc | apply Kd.R_drewN | apply Kd.R_drew)); exact (fm3_ HO1171 BK1179)) hb) (Kd.R_base ho0)) (Kd.R_base ho1)) (fun _ h_ => h_.1)); replace HO1174 := Aside0.mk (Kd.R_elder' (by (with_reducible repeat (first | apply Kd.R_alloc | apply Kd.R_drewN | apply Kd.R_drew)); exact (fm3_ HO1174 BK1179)) (Kd.R_base ho2) hb); replace HO1177 := Aside0.mk (Kd.R_elder' (by (with_reducible repeat (first | apply Kd.R_alloc | apply Kd.R_drewN | apply Kd.R_drew)); exact (fm3_ HO1177 BK1179)) (Kd.R_base ho3) hb); replace BK1179 := Aside0.mk (blk_below (g := gb1179) (o := .cells #[.slice Ao12 t1166.length co12, .slice Ao14 t1169.length co14, .slice Ao15 t1172.length co15] 35 (0, 0)) (by (with_reducible repeat (first | refine blk_drewN ?_ _ | refine blk_drew ?_ | refine blk_alloc ?_ _)); refine blk_put (cs := #[.slice Ao12 t1166.length co12, .slice Ao14 t1169.length co14, .slice none 0 0]) ?_ 2 _ rfl; (with_reducible repeat (first | refine blk_drewN ?_ _ | refine blk_drew ?_ | refine blk_alloc ?_ _)); refine blk_put (cs := #[.slice Ao12 t1166.length co12, .slice none 0 0, .slice none 0 0]) ?_ 1 _ rfl; (with_reducible repeat (first | refine blk_drewN ?_ _ | refine blk_drew ?_ | refine blk_alloc ?_ _)); refine blk_put (cs := #[.slice none 0 0, .slice none 0 0, .slice none 0 0]) ?_ 0 _ rfl; (with_reducible repeat (first | refine blk_drewN ?_ _ | refine blk_drew ?_ | refine blk_alloc ?_ _)); exact BK1179.out) hb); replace HB := bst_ HB hb; clear hb ho0 ho1 ho2 ho3) | ((with_reducible refine gate_dst (N := 9) rfl ?_); refine box_event ?hg (N := 9) ?hd (cs := #[.slice none 0 0, .slice none 0 0, .slice none 0 0]) (t := 35) ?hr ?_; (case hd => rfl); (case hg => rfl); (case hr => first | (go_simp; done) | (go_simp; rfl)); intro gb1193 hg w17 hbox hb; have BK1193 := Aside0.mk (hbox); have GW1193 := gw_ hg HB; have GE1193 := gw_ hg HB; have NB1179_1193 := nl_ hg BK1179; have NB1193_1179 := ng_ hg BK1179; replace HO1165 := rb_ HO1165 hb; replace HO1168 := rb_ HO1168 hb; replace HO1171 := rb_ HO1171 hb; replace HO1174 := rb_ HO1174 hb; replace HO1177 := rb_ HO1177 hb; replace HO1182 := rb_ HO1182 hb; replace HO1185 := rb_ HO1185 hb; replace HO1188 := rb_ HO1188 hb; replace HO1191 := rb_ HO1191 hb; replace BK1179 := bb_ BK1179 hb; replace HB := bst_ HB hb; clear hb hbox hg; obtain ⟨Ao18, co18, eo18⟩ := Kd.R_slice HO1182.out; subst eo18; have hnb19 := NB1193_1179.out; have hnc19 := NB1179_1193.out; have hcz20_0 : w17.cell? ⟨gb1193, 0, none⟩ = some (.slice none 0 0) := bc_ BK1193 0; have hcz20_1 : w17.cell? ⟨gb1193, 1, none⟩ = some (.slice none 0 0) := bc_ BK1193 1; have hcz20_2 : w17.cell? ⟨gb1193, 2, none⟩ = some (.slice none 0 0) := bc_ BK1193 2; have hfz20_0 := blk_frozen BK1193.out 0; have hfz20_1 := blk_frozen BK1193.out 1; have hfz20_2 := blk_frozen BK1193.out 2; obtain ⟨Ao21, co21, eo21⟩ := Kd.R_slice HO1185.out; subst eo21; obtain ⟨Ao22, co22, eo22⟩ := Kd.R_slice HO1188.out; subst eo22))
 (try simp only [Act.put, List.setIfInBounds_toArray, List.set_cons_zero, List.set_cons_succ])
 go_cut [60] (fun v60 wc => ∃ (kq : Nat) (x60_6 : Bool), v60 = .bool x60_6 ∧ Aside0 (laws_FnPair.j0 kq l1 t1178 x60_6 t1166 t1169 t1172 = some r) ∧ Aside0 (kq ≤ k) ∧ Aside0 (Kd.R (Kd.int .i64) 3 wc w.heap.size (fun k_ => no_ (.slice Ao14 t1169.length co14) k_ ∧ no_ (.slice Ao18 t1180.length co18) k_ ∧ no_ (.slice Ao21 t1183.length co21) k_) (.slice Ao12 t1166.length co12) t1166) ∧ Aside0 (Kd.R (Kd.int .i64) 3 wc w.heap.size (fun k_ => no_ (.slice Ao12 t1166.length co12) k_ ∧ no_ (.slice Ao18 t1180.length co18) k_ ∧ no_ (.slice Ao21 t1183.length co21) k_) (.slice Ao14 t1169.length co14) t1169) ∧ Aside0 (Kd.R k45 45 wc w.heap.size (fun k_ => no_ (.slice Ao22 t1186.length co22) k_) (.slice Ao15 t1172.length co15) t1172) ∧ Aside0 (Kd.R (Kd.int .i64) 3 wc w.heap.size (fun k_ => no_ (.slice Ao12 t1166.length co12) k_ ∧ no_ (.slice Ao14 t1169.length co14) k_ ∧ no_ (.slice Ao21 t1183.length co21) k_) (.slice Ao18 t1180.length co18) t1180) ∧ Aside0 (Kd.R (Kd.int .i64) 3 wc w.heap.size (fun k_ => no_ (.slice Ao12 t1166.length co12) k_ ∧ no_ (.slice Ao14 t1169.length co14) k_ ∧ no_ (.slice Ao18 t1180.length co18) k_) (.slice Ao21 t1183.length co21) t1183) ∧ Aside0 (Kd.R k45 45 wc w.heap.size (fun k_ => no_ (.slice Ao15 t1172.length co15) k_) (.slice Ao22 t1186.length co22) t1186) ∧ Aside0 (wc.heap[gb1179]? = some (.cells #[(.slice Ao12 t1166.length co12), (.slice Ao14 t1169.length co14), (.slice Ao15 t1172.length co15)] 35 (0, 0))) ∧ Aside0 (wc.heap[gb1193]? = some (.cells #[(.slice Ao18 t1180.length co18), (.slice Ao21 t1183.length co21), (.slice Ao22 t1186.length co22)] 35 (0, 0))) ∧ Aside0 (Below w.heap.size w wc))
 case first =>
  have H := HC7.out
  clear HC7
  by_cases c23 : (t1178 != t1192) = true
  ·rw [if_pos c23] at H
   have c23b0 : (t1178 != t1192) = true := c23
   (try (have c23b1 : decide (t1178 = t1192) = false := by simpa using c23))
   (try (have c23b2 : (t1178 == t1192) = false := by simpa using c23))
   (try (have c23b3 : ¬ (t1178 = t1192) := by simpa using c23))
   clear c23
   (first | rw [c23b0] | (simp only [i64_w, i32_w]; rw [c23b0]) | skip)
   have H' := Aside0.mk H
   clear H
   go_wp2
   go_meet
   case rel => exact ⟨_, (true), (by first | rfl | (simp; done) | (simp [*]; done)), H', ⟨by first | omega | exact Nat.le_refl _⟩, ⟨by (with_reducible repeat (first | apply Kd.R_alloc | apply Kd.R_drewN | apply Kd.R_drew)); exact Kd.R_mono (fs3_ HO1168.out BK1193.out) (fun _ hk => laws_FnPair.cj_ hk)⟩, ⟨by (with_reducible repeat (first | apply Kd.R_alloc | apply Kd.R_drewN | apply Kd.R_drew)); exact Kd.R_mono (fs3_ HO1171.out BK1193.out) (fun _ hk => laws_FnPair.cj_ hk)⟩, ⟨by (with_reducible repeat (first | apply Kd.R_alloc | apply Kd.R_drewN | apply Kd.R_drew)); exact Kd.R_mono (fs3_ HO1174.out BK1193.out) (fun _ hk => hk.1.2)⟩, ⟨by (with_reducible repeat (first | apply Kd.R_alloc | apply Kd.R_drewN | apply Kd.R_drew)); exact Kd.R_mono (fs3_ HO1182.out BK1193.out) (fun _ hk => laws_FnPair.cj_ hk)⟩, ⟨by (with_reducible repeat (first | apply Kd.R_alloc | apply Kd.R_drewN | apply Kd.R_drew)); exact Kd.R_mono (fs3_ HO1185.out BK1193.out) (fun _ hk => laws_FnPair.cj_ hk)⟩, ⟨by (with_reducible repeat (first | apply Kd.R_alloc | apply Kd.R_drewN | apply Kd.R_drew)); exact Kd.R_mono (fs3_ HO1188.out BK1193.out) (fun _ hk => hk.1.2)⟩, ⟨by (with_reducible repeat (first | refine blk_drewN ?_ _ | refine blk_drew ?_ | refine blk_alloc ?_ _)); refine blk_far ?_ NB1179_1193.out _; (with_reducible repeat (first | refine blk_drewN ?_ _ | refine blk_drew ?_ | refine blk_alloc ?_ _)); refine blk_far ?_ NB1179_1193.out _; (with_reducible repeat (first | refine blk_drewN ?_ _ | refine blk_drew ?_ | refine blk_alloc ?_ _)); refine blk_far ?_ NB1179_1193.out _; (with_reducible repeat (first | refine blk_drewN ?_ _ | refine blk_drew ?_ | refine blk_alloc ?_ _)); exact BK1179.out⟩, ⟨by (with_reducible repeat (first | refine blk_drewN ?_ _ | refine blk_drew ?_ | refine blk_alloc ?_ _)); refine blk_put (cs := #[.slice Ao18 t1180.length co18, .slice Ao21 t1183.length co21, .slice none 0 0]) ?_ 2 _ rfl; (with_reducible repeat (first | refine blk_drewN ?_ _ | refine blk_drew ?_ | refine blk_alloc ?_ _)); refine blk_put (cs := #[.slice Ao18 t1180.length co18, .slice none 0 0, .slice none 0 0]) ?_ 1 _ rfl; (with_reducible repeat (first | refine blk_drewN ?_ _ | refine blk_drew ?_ | refine blk_alloc ?_ _)); refine blk_put (cs := #[.slice none 0 0, .slice none 0 0, .slice none 0 0]) ?_ 0 _ rfl; (with_reducible repeat (first | refine blk_drewN ?_ _ | refine blk_drew ?_ | refine blk_alloc ?_ _)); exact BK1193.out⟩, ⟨hB HB⟩⟩
  rw [if_neg c23] at H
  have c23b0 : (t1178 != t1192) = false := by simpa using c23
  (try (have c23b1 : decide (t1178 = t1192) = true := by simpa using c23))
  (try (have c23b2 : (t1178 == t1192) = true := by simpa using c23))
  clear c23
  (first | rw [c23b0] | (simp only [i64_w, i32_w]; rw [c23b0]) | skip)
  replace H := Option.bind_eq_some_iff.mp H
  obtain ⟨t1194, A240, H⟩ := H
  replace H : (if t1194 = true then ((laws_samePair.f k t1166 t1169 t1172 t1180 t1183 t1186).bind fun t1195 => (laws_FnPair.j0 k l1 t1178 (!t1195) t1166 t1169 t1172)) else (laws_FnPair.j0 k l1 t1178 true t1166 t1169 t1172)) = some r := H
  have A24 := Aside0.mk A240
  clear A240
  by_cases c25 : t1194 = true
  rotate_left
  ·replace c25 := Bool.eq_false_iff.mpr c25
   subst c25
   rw [if_neg (show ¬ (false = true) by decide)] at H
   have H' := Aside0.mk H
   clear H
   obtain ⟨Ao33, co33, eo33⟩ := Kd.R_slice HO1177.out
   subst eo33
   obtain ⟨Ao34, co34, eo34⟩ := Kd.R_slice HO1191.out
   subst eo34
   go_wp2_with (first | (go_at_call 34; (with_reducible refine (laws_sameBools.calls k _ _ t1175 _ _ t1189 false _ ?side1 ?side2 ?side3 ?side4 A24.out).mono ?_); (case side1 => refine (Kd.R_reads' (e := 4) (base := w.heap.size) (ok := fun k_ => (True ∧ no_ (.slice Ao34 t1189.length co34) k_)) (n := t1175.length) (c := co33) ?_).2.2; exact (by (with_reducible repeat (first | apply Kd.R_alloc | apply Kd.R_drewN | apply Kd.R_drew)); exact (fm3_ HO1177 BK1193))); (case side2 => exact (Kd.R_reads' HO1177.out).2.1); (case side3 => refine (Kd.R_reads' (e := 4) (base := w.heap.size) (ok := fun k_ => (True ∧ no_ (.slice Ao33 t1175.length co33) k_)) (n := t1189.length) (c := co34) ?_).2.2; exact (by (with_reducible repeat (first | apply Kd.R_alloc | apply Kd.R_drewN | apply Kd.R_drew)); exact (fm3_ HO1191 BK1193))); (case side4 => exact (Kd.R_reads' HO1191.out).2.1); rintro e w' ⟨rfl, ⟨nd, rfl⟩⟩))
   go_meet
   case rel => exact ⟨_, (true), (by first | rfl | (simp; done) | (simp [*]; done)), H', ⟨by first | omega | exact Nat.le_refl _⟩, ⟨by (with_reducible repeat (first | apply Kd.R_alloc | apply Kd.R_drewN | apply Kd.R_drew)); exact Kd.R_mono (fs3_ HO1168.out BK1193.out) (fun _ hk => laws_FnPair.cj_ hk)⟩, ⟨by (with_reducible repeat (first | apply Kd.R_alloc | apply Kd.R_drewN | apply Kd.R_drew)); exact Kd.R_mono (fs3_ HO1171.out BK1193.out) (fun _ hk => laws_FnPair.cj_ hk)⟩, ⟨by (with_reducible repeat (first | apply Kd.R_alloc | apply Kd.R_drewN | apply Kd.R_drew)); exact Kd.R_mono (fs3_ HO1174.out BK1193.out) (fun _ hk => hk.1.2)⟩, ⟨by (with_reducible repeat (first | apply Kd.R_alloc | apply Kd.R_drewN | apply Kd.R_drew)); exact Kd.R_mono (fs3_ HO1182.out BK1193.out) (fun _ hk => laws_FnPair.cj_ hk)⟩, ⟨by (with_reducible repeat (first | apply Kd.R_alloc | apply Kd.R_drewN | apply Kd.R_drew)); exact Kd.R_mono (fs3_ HO1185.out BK1193.out) (fun _ hk => laws_FnPair.cj_ hk)⟩, ⟨by (with_reducible repeat (first | apply Kd.R_alloc | apply Kd.R_drewN | apply Kd.R_drew)); exact Kd.R_mono (fs3_ HO1188.out BK1193.out) (fun _ hk => hk.1.2)⟩, ⟨by (with_reducible repeat (first | refine blk_drewN ?_ _ | refine blk_drew ?_ | refine blk_alloc ?_ _)); refine blk_far ?_ NB1179_1193.out _; (with_reducible repeat (first | refine blk_drewN ?_ _ | refine blk_drew ?_ | refine blk_alloc ?_ _)); refine blk_far ?_ NB1179_1193.out _; (with_reducible repeat (first | refine blk_drewN ?_ _ | refine blk_drew ?_ | refine blk_alloc ?_ _)); refine blk_far ?_ NB1179_1193.out _; (with_reducible repeat (first | refine blk_drewN ?_ _ | refine blk_drew ?_ | refine blk_alloc ?_ _)); exact BK1179.out⟩, ⟨by (with_reducible repeat (first | refine blk_drewN ?_ _ | refine blk_drew ?_ | refine blk_alloc ?_ _)); refine blk_put (cs := #[.slice Ao18 t1180.length co18, .slice Ao21 t1183.length co21, .slice none 0 0]) ?_ 2 _ rfl; (with_reducible repeat (first | refine blk_drewN ?_ _ | refine blk_drew ?_ | refine blk_alloc ?_ _)); refine blk_put (cs := #[.slice Ao18 t1180.length co18, .slice none 0 0, .slice none 0 0]) ?_ 1 _ rfl; (with_reducible repeat (first | refine blk_drewN ?_ _ | refine blk_drew ?_ | refine blk_alloc ?_ _)); refine blk_put (cs := #[.slice none 0 0, .slice none 0 0, .slice none 0 0]) ?_ 0 _ rfl; (with_reducible repeat (first | refine blk_drewN ?_ _ | refine blk_drew ?_ | refine blk_alloc ?_ _)); exact BK1193.out⟩, ⟨hB HB⟩⟩
  subst c25
  rw [if_pos rfl] at H
  replace H := Option.bind_eq_some_iff.mp H
  obtain ⟨t1195, A260, H⟩ := H
  replace H : (laws_FnPair.j0 k l1 t1178 (!t1195) t1166 t1169 t1172) = some r := H
  have A26 := Aside0.mk A260
  clear A260
  have H' := Aside0.mk H
  clear H
  obtain ⟨Ao27, co27, eo27⟩ := Kd.R_slice HO1177.out
  subst eo27
  obtain ⟨Ao28, co28, eo28⟩ := Kd.R_slice HO1191.out
  subst eo28
  go_wp2_with (first | (go_at_call 34; (with_reducible refine (laws_sameBools.calls k _ _ t1175 _ _ t1189 true _ ?side1 ?side2 ?side3 ?side4 A24.out).mono ?_); (case side1 => refine (Kd.R_reads' (e := 4) (base := w.heap.size) (ok := fun k_ => (True ∧ no_ (.slice Ao28 t1189.length co28) k_)) (n := t1175.length) (c := co27) ?_).2.2; exact (by (with_reducible repeat (first | apply Kd.R_alloc | apply Kd.R_drewN | apply Kd.R_drew)); exact (fm3_ HO1177 BK1193))); (case side2 => exact (Kd.R_reads' HO1177.out).2.1); (case side3 => refine (Kd.R_reads' (e := 4) (base := w.heap.size) (ok := fun k_ => (True ∧ no_ (.slice Ao27 t1175.length co27) k_)) (n := t1189.length) (c := co28) ?_).2.2; exact (by (with_reducible repeat (first | apply Kd.R_alloc | apply Kd.R_drewN | apply Kd.R_drew)); exact (fm3_ HO1191 BK1193))); (case side4 => exact (Kd.R_reads' HO1191.out).2.1); rintro e w' ⟨rfl, ⟨nd, rfl⟩⟩; have hnb29 := NB1179_1193.out; have hnc29 := NB1193_1179.out; have hcz30_0 : w17.cell? ⟨gb1179, 0, none⟩ = some (.slice Ao12 t1166.length co12) := bc_ BK1179 0; have hcz30_1 : w17.cell? ⟨gb1179, 1, none⟩ = some (.slice Ao14 t1169.length co14) := bc_ BK1179 1; have hcz30_2 : w17.cell? ⟨gb1179, 2, none⟩ = some (.slice Ao15 t1172.length co15) := bc_ BK1179 2; have hfz30_0 := blk_frozen BK1179.out 0; have hfz30_1 := blk_frozen BK1179.out 1; have hfz30_2 := blk_frozen BK1179.out 2; have hcz31_0 : w17.cell? ⟨gb1193, 0, none⟩ = some (.slice none 0 0) := bc_ BK1193 0; have hcz31_1 : w17.cell? ⟨gb1193, 1, none⟩ = some (.slice none 0 0) := bc_ BK1193 1; have hcz31_2 : w17.cell? ⟨gb1193, 2, none⟩ = some (.slice none 0 0) := bc_ BK1193 2; have hfz31_0 := blk_frozen BK1193.out 0; have hfz31_1 := blk_frozen BK1193.out 1; have hfz31_2 := blk_frozen BK1193.out 2) | (go_at_call 20; (with_reducible refine (laws_samePair.calls k _ _ t1166 _ _ t1169 _ _ t1172 _ _ t1180 _ _ t1183 _ _ t1186 t1195 _ ?side1 ?side2 ?side3 ?side4 ?side5 ?side6 ?side7 ?side8 ?side9 ?side10 ?side11 ?side12 A26.out).mono ?_); (case side1 => refine (Kd.R_reads' (e := 3) (base := w.heap.size) (ok := fun k_ => ((no_ (.slice Ao14 t1169.length co14) k_ ∧ no_ (.slice Ao18 t1180.length co18) k_) ∧ no_ (.slice Ao21 t1183.length co21) k_)) (n := t1166.length) (c := co12) ?_).2.2; exact (by (with_reducible repeat (first | apply Kd.R_alloc | apply Kd.R_drewN | apply Kd.R_drew)); exact (fm3_ HO1168 BK1193))); (case side2 => exact (Kd.R_reads' HO1168.out).2.1); (case side3 => refine (Kd.R_reads' (e := 3) (base := w.heap.size) (ok := fun k_ => ((no_ (.slice Ao12 t1166.length co12) k_ ∧ no_ (.slice Ao18 t1180.length co18) k_) ∧ no_ (.slice Ao21 t1183.length co21) k_)) (n := t1169.length) (c := co14) ?_).2.2; exact (by (with_reducible repeat (first | apply Kd.R_alloc | apply Kd.R_drewN | apply Kd.R_drew)); exact (fm3_ HO1171 BK1193))); (case side4 => exact (Kd.R_reads' HO1171.out).2.1); (case side5 => refine (Kd.R_reads' (e := 45) (base := w.heap.size) (ok := fun k_ => (True ∧ no_ (.slice Ao22 t1186.length co22) k_)) (n := t1172.length) (c := co15) ?_).2.2; exact (by (with_reducible repeat (first | apply Kd.R_alloc | apply Kd.R_drewN | apply Kd.R_drew)); exact (fm3_ HO1174 BK1193))); (case side6 => exact (Kd.R_reads' HO1174.out).2.1); (case side7 => refine (Kd.R_reads' (e := 3) (base := w.heap.size) (ok := fun k_ => ((no_ (.slice Ao21 t1183.length co21) k_ ∧ no_ (.slice Ao12 t1166.length co12) k_) ∧ no_ (.slice Ao14 t1169.length co14) k_)) (n := t1180.length) (c := co18) ?_).2.2; exact (by (with_reducible repeat (first | apply Kd.R_alloc | apply Kd.R_drewN | apply Kd.R_drew)); exact (fm3_ HO1182 BK1193))); (case side8 => exact (Kd.R_reads' HO1182.out).2.1); (case side9 => refine (Kd.R_reads' (e := 3) (base := w.heap.size) (ok := fun k_ => ((no_ (.slice Ao18 t1180.length co18) k_ ∧ no_ (.slice Ao12 t1166.length co12) k_) ∧ no_ (.slice Ao14 t1169.length co14) k_)) (n := t1183.length) (c := co21) ?_).2.2; exact (by (with_reducible repeat (first | apply Kd.R_alloc | apply Kd.R_drewN | apply Kd.R_drew)); exact (fm3_ HO1185 BK1193))); (case side10 => exact (Kd.R_reads' HO1185.out).2.1); (case side11 => refine (Kd.R_reads' (e := 45) (base := w.heap.size) (ok := fun k_ => (True ∧ no_ (.slice Ao15 t1172.length co15) k_)) (n := t1186.length) (c := co22) ?_).2.2; exact (by (with_reducible repeat (first | apply Kd.R_alloc | apply Kd.R_drewN | apply Kd.R_drew)); exact (fm3_ HO1188 BK1193))); (case side12 => exact (Kd.R_reads' HO1188.out).2.1); rintro e w32 ⟨rfl, hb⟩; replace HO1165 := Aside0.mk (Kd.R_below (by (with_reducible repeat (first | apply Kd.R_alloc | apply Kd.R_drewN | apply Kd.R_drew)); exact (fm3_ HO1165 BK1193)) hb); replace HO1168 := Aside0.mk (Kd.R_below (by (with_reducible repeat (first | apply Kd.R_alloc | apply Kd.R_drewN | apply Kd.R_drew)); exact (fm3_ HO1168 BK1193)) hb); replace HO1171 := Aside0.mk (Kd.R_below (by (with_reducible repeat (first | apply Kd.R_alloc | apply Kd.R_drewN | apply Kd.R_drew)); exact (fm3_ HO1171 BK1193)) hb); replace HO1174 := Aside0.mk (Kd.R_below (by (with_reducible repeat (first | apply Kd.R_alloc | apply Kd.R_drewN | apply Kd.R_drew)); exact (fm3_ HO1174 BK1193)) hb); replace HO1177 := Aside0.mk (Kd.R_below (by (with_reducible repeat (first | apply Kd.R_alloc | apply Kd.R_drewN | apply Kd.R_drew)); exact (fm3_ HO1177 BK1193)) hb); replace HO1182 := Aside0.mk (Kd.R_below (by (with_reducible repeat (first | apply Kd.R_alloc | apply Kd.R_drewN | apply Kd.R_drew)); exact (fm3_ HO1182 BK1193)) hb); replace HO1185 := Aside0.mk (Kd.R_below (by (with_reducible repeat (first | apply Kd.R_alloc | apply Kd.R_drewN | apply Kd.R_drew)); exact (fm3_ HO1185 BK1193)) hb); replace HO1188 := Aside0.mk (Kd.R_below (by (with_reducible repeat (first | apply Kd.R_alloc | apply Kd.R_drewN | apply Kd.R_drew)); exact (fm3_ HO1188 BK1193)) hb); replace HO1191 := Aside0.mk (Kd.R_below (by (with_reducible repeat (first | apply Kd.R_alloc | apply Kd.R_drewN | apply Kd.R_drew)); exact (fm3_ HO1191 BK1193)) hb); replace BK1179 := Aside0.mk (blk_below (bx BK1179) hb); replace BK1193 := Aside0.mk (blk_below (g := gb1193) (o := .cells #[.slice Ao18 t1180.length co18, .slice Ao21 t1183.length co21, .slice Ao22 t1186.length co22] 35 (0, 0)) (by (with_reducible repeat (first | refine blk_drewN ?_ _ | refine blk_drew ?_ | refine blk_alloc ?_ _)); refine blk_put (cs := #[.slice Ao18 t1180.length co18, .slice Ao21 t1183.length co21, .slice none 0 0]) ?_ 2 _ rfl; (with_reducible repeat (first | refine blk_drewN ?_ _ | refine blk_drew ?_ | refine blk_alloc ?_ _)); refine blk_put (cs := #[.slice Ao18 t1180.length co18, .slice none 0 0, .slice none 0 0]) ?_ 1 _ rfl; (with_reducible repeat (first | refine blk_drewN ?_ _ | refine blk_drew ?_ | refine blk_alloc ?_ _)); refine blk_put (cs := #[.slice none 0 0, .slice none 0 0, .slice none 0 0]) ?_ 0 _ rfl; (with_reducible repeat (first | refine blk_drewN ?_ _ | refine blk_drew ?_ | refine blk_alloc ?_ _)); exact BK1193.out) hb); replace HB := bst_ HB hb; clear hb))
  go_meet
  case rel => exact ⟨_, (!t1195), (by first | rfl | (simp; done) | (simp [*]; done)), H', ⟨by first | omega | exact Nat.le_refl _⟩, rm_ HO1168 (fun _ hk => laws_FnPair.cj_ hk), rm_ HO1171 (fun _ hk => laws_FnPair.cj_ hk), rm_ HO1174 (fun _ hk => hk.2), rm_ HO1182 (fun _ hk => laws_FnPair.cj_ hk), rm_ HO1185 (fun _ hk => laws_FnPair.cj_ hk), rm_ HO1188 (fun _ hk => hk.2), ⟨by (with_reducible repeat (first | refine blk_drewN ?_ _ | refine blk_drew ?_ | refine blk_alloc ?_ _)); exact BK1179.out⟩, ⟨by (with_reducible repeat (first | refine blk_drewN ?_ _ | refine blk_drew ?_ | refine blk_alloc ?_ _)); exact BK1193.out⟩, ⟨hB HB⟩⟩
 case rest =>
  clear HC7
  try clear c1
  try clear c3
  try clear c3b0
  try clear hcz13_0
  try clear hcz13_1
  try clear hcz13_2
  try clear hcz20_0
  try clear hcz20_1
  try clear hcz20_2
  try clear hfz13_0
  try clear hfz13_1
  try clear hfz13_2
  try clear hfz20_0
  try clear hfz20_1
  try clear hfz20_2
  obtain ⟨kq, x60_6, rfl, HA, HJ6, HO_1180000, HO_1180001, HO_1180002, HO_1194000, HO_1194001, HO_1194002, BK1179, BK1193, HB⟩ := hcut
  cases kq with
  | zero => exact absurd HA.out (by simp [laws_FnPair.j0])
  | succ kj6 =>
   have H := HA.out
   clear HA
   simp only [laws_FnPair.j0] at H
   by_cases c35 : x60_6 = true
   ·subst c35
    rw [if_pos rfl] at H
    obtain rfl := Option.some.inj H
    go_wp2
    go_ret
    exact ⟨by first | rfl | (simp [errW_none, errW_some] <;> rfl) | (simp [*, errW_none, errW_some] <;> rfl), by repeat (first | (with_reducible first | exact HB.out | apply below_alloc | apply pw_below_drewN | apply below_drew1 | refine below_set ?_ GE1179.out | refine below_set ?_ GE1193.out) | exact HB.out)⟩
   replace c35 := Bool.eq_false_iff.mpr c35
   subst c35
   rw [if_neg (show ¬ (false = true) by decide)] at H
   by_cases c36 : t1178 = true
   rotate_left
   ·replace c36 := Bool.eq_false_iff.mpr c36
    subst c36
    rw [if_neg (show ¬ (false = true) by decide)] at H
    replace H := Option.bind_eq_some_iff.mp H
    obtain ⟨⟨t1232, t1233⟩, A1500, H⟩ := H
    replace H : ((impl_NextState.f t1232 t1233).bind fun bt1234 => ((spec_NextState.f t1232 t1233).bind fun bt1236 => (if (bt1234.2 == bt1236.2) = true then (some (bt1234.1 == bt1236.1)) else (some false)))) = some r := H
    have A150 := Aside0.mk A1500
    clear A1500
    replace H := Option.bind_eq_some_iff.mp H
    obtain ⟨⟨t1234, t1235⟩, A1510, H⟩ := H
    replace H : ((spec_NextState.f t1232 t1233).bind fun bt1236 => (if (t1235 == bt1236.2) = true then (some (t1234 == bt1236.1)) else (some false))) = some r := H
    have A151 := Aside0.mk A1510
    clear A1510
    replace H := Option.bind_eq_some_iff.mp H
    obtain ⟨⟨t1236, t1237⟩, A1520, H⟩ := H
    replace H : (if (t1235 == t1237) = true then (some (t1234 == t1236)) else (some false)) = some r := H
    have A152 := Aside0.mk A1520
    clear A1520
    by_cases c153 : (t1235 == t1237) = true
    ·rw [if_pos c153] at H
     have c153b0 : (t1235 == t1237) = true := c153
     (try (have c153b1 : decide (t1235 = t1237) = true := by simpa using c153))
     (try (have c153b2 : (t1235 == t1237) = true := by simpa using c153))
     clear c153
     obtain rfl := Option.some.inj H
     go_wp2_with (first | ((with_reducible refine gate_callee (f := 36) rfl ?_); refine goesL_ (some 108) rfl rfl Try.func36 (by kernel_rfl) rfl #[.slice A1 l1.length c1] rfl tm_ ?_; (with_reducible refine (spec_DrawNextState.calls _ _ l1 t1232 t1233 _ ?side1 ?side2 A150.out).mono ?_); (case side1 => exact ca (Kd.C_below HR1.out HB.out)); (case side2 => exact HC1.out); rintro e w154 ⟨rfl, hb⟩; refine ⟨_, rfl, ?_⟩; replace HO_1180000 := rb_ HO_1180000 hb; replace HO_1180001 := rb_ HO_1180001 hb; replace HO_1180002 := rb_ HO_1180002 hb; replace HO_1194000 := rb_ HO_1194000 hb; replace HO_1194001 := rb_ HO_1194001 hb; replace HO_1194002 := rb_ HO_1194002 hb; replace BK1179 := bb_ BK1179 hb; replace BK1193 := bb_ BK1193 hb; replace HB := bst_ HB hb; clear hb) | ((with_reducible refine gate_callee (f := 37) rfl ?_); refine goesL_ (some 114) rfl rfl Try.func37 (by kernel_rfl) rfl #[.int .i64 t1232, .bool t1233] rfl tm_ ?_; (with_reducible refine (impl_NextState.calls t1232 t1233 t1234 t1235 _ A151.out).mono ?_); rintro e w' ⟨rfl, ⟨nd, rfl⟩⟩; refine ⟨_, rfl, ?_⟩) | ((with_reducible refine gate_callee (f := 38) rfl ?_); refine goesL_ (some 120) rfl rfl Try.func38 (by kernel_rfl) rfl #[.int .i64 t1232, .bool t1233] rfl tm_ ?_; (with_reducible refine (spec_NextState.calls t1232 t1233 t1236 t1237 _ A152.out).mono ?_); rintro e w' ⟨rfl, ⟨nd, rfl⟩⟩; refine ⟨_, rfl, ?_⟩))
     go_ret
     exact ⟨by first | rfl | (simp [errW_none, errW_some] <;> rfl) | (simp [*, errW_none, errW_some] <;> rfl), by repeat (first | (with_reducible first | exact HB.out | apply below_alloc | apply pw_below_drewN | apply below_drew1 | refine below_set ?_ GE1179.out | refine below_set ?_ GE1193.out) | exact HB.out)⟩
    rw [if_neg c153] at H
    have c153b0 : (t1235 == t1237) = false := by simpa using c153
    (try (have c153b1 : decide (t1235 = t1237) = false := by simpa using c153))
    (try (have c153b2 : (t1235 == t1237) = false := by simpa using c153))
    (try (have c153b3 : ¬ (t1235 = t1237) := by simpa using c153))
    clear c153
    obtain rfl := Option.some.inj H
    go_wp2_with (first | ((with_reducible refine gate_callee (f := 36) rfl ?_); refine goesL_ (some 108) rfl rfl Try.func36 (by kernel_rfl) rfl #[.slice A1 l1.length c1] rfl tm_ ?_; (with_reducible refine (spec_DrawNextState.calls _ _ l1 t1232 t1233 _ ?side1 ?side2 A150.out).mono ?_); (case side1 => exact ca (Kd.C_below HR1.out HB.out)); (case side2 => exact HC1.out); rintro e w155 ⟨rfl, hb⟩; refine ⟨_, rfl, ?_⟩; replace HO_1180000 := rb_ HO_1180000 hb; replace HO_1180001 := rb_ HO_1180001 hb; replace HO_1180002 := rb_ HO_1180002 hb; replace HO_1194000 := rb_ HO_1194000 hb; replace HO_1194001 := rb_ HO_1194001 hb; replace HO_1194002 := rb_ HO_1194002 hb; replace BK1179 := bb_ BK1179 hb; replace BK1193 := bb_ BK1193 hb; replace HB := bst_ HB hb; clear hb) | ((with_reducible refine gate_callee (f := 37) rfl ?_); refine goesL_ (some 114) rfl rfl Try.func37 (by kernel_rfl) rfl #[.int .i64 t1232, .bool t1233] rfl tm_ ?_; (with_reducible refine (impl_NextState.calls t1232 t1233 t1234 t1235 _ A151.out).mono ?_); rintro e w' ⟨rfl, ⟨nd, rfl⟩⟩; refine ⟨_, rfl, ?_⟩) | ((with_reducible refine gate_callee (f := 38) rfl ?_); refine goesL_ (some 120) rfl rfl Try.func38 (by kernel_rfl) rfl #[.int .i64 t1232, .bool t1233] rfl tm_ ?_; (with_reducible refine (spec_NextState.calls t1232 t1233 t1236 t1237 _ A152.out).mono ?_); rintro e w' ⟨rfl, ⟨nd, rfl⟩⟩; refine ⟨_, rfl, ?_⟩))
    go_ret
    exact ⟨by first | rfl | (simp [errW_none, errW_some] <;> rfl) | (simp [*, errW_none, errW_some] <;> rfl), by repeat (first | (with_reducible first | exact HB.out | apply below_alloc | apply pw_below_drewN | apply below_drew1 | refine below_set ?_ GE1179.out | refine below_set ?_ GE1193.out) | exact HB.out)⟩
   subst c36
   rw [if_pos rfl] at H
   replace H := Option.bind_eq_some_iff.mp H
   obtain ⟨⟨t1196, t1199, t1202, t1205⟩, A370, H⟩ := H
   replace H : ((impl_AreBoth.f kj6 t1196 t1199 t1202).bind fun bt1207 => ((impl_GoodPair.f kj6 t1166 t1169 t1172).bind fun t1209 => (if t1209 = true then (if t1205 = true then (if bt1207.2 = true then (laws_FnPair.j1 kj6 l1 (!bt1207.1) t1196 t1199 t1202) else (laws_FnPair.j1 kj6 l1 true t1196 t1199 t1202)) else (laws_FnPair.j1 kj6 l1 true t1196 t1199 t1202)) else (laws_FnPair.j1 kj6 l1 true t1196 t1199 t1202)))) = some r := H
   have A37 := Aside0.mk A370
   clear A370
   replace H := Option.bind_eq_some_iff.mp H
   obtain ⟨⟨t1207, t1208⟩, A380, H⟩ := H
   replace H : ((impl_GoodPair.f kj6 t1166 t1169 t1172).bind fun t1209 => (if t1209 = true then (if t1205 = true then (if t1208 = true then (laws_FnPair.j1 kj6 l1 (!t1207) t1196 t1199 t1202) else (laws_FnPair.j1 kj6 l1 true t1196 t1199 t1202)) else (laws_FnPair.j1 kj6 l1 true t1196 t1199 t1202)) else (laws_FnPair.j1 kj6 l1 true t1196 t1199 t1202))) = some r := H
   have A38 := Aside0.mk A380
   clear A380
   have HC39 := Aside0.mk H
   clear H
   have hnb40 := NB1179_1193.out
   have hnc40 := NB1193_1179.out
   have hcz41_0 : wc.cell? ⟨gb1179, 0, none⟩ = some (.slice Ao12 t1166.length co12) := bc_ BK1179 0
   have hcz41_1 : wc.cell? ⟨gb1179, 1, none⟩ = some (.slice Ao14 t1169.length co14) := bc_ BK1179 1
   have hcz41_2 : wc.cell? ⟨gb1179, 2, none⟩ = some (.slice Ao15 t1172.length co15) := bc_ BK1179 2
   have hfz41_0 := blk_frozen BK1179.out 0
   have hfz41_1 := blk_frozen BK1179.out 1
   have hfz41_2 := blk_frozen BK1179.out 2
   go_upto_region 11 with (first | ((with_reducible refine gate_callee (f := 24) rfl ?_); refine goesL_ (some 64) rfl rfl Try.func24 (by kernel_rfl) rfl #[.agg #[.slice Ao12 t1166.length co12, .slice Ao14 t1169.length co14, .slice Ao15 t1172.length co15]] rfl tm_ ?_; (with_reducible refine (impl_SettlePair.calls kj6 _ _ t1166 _ _ t1169 _ _ t1172 t1196 t1199 t1202 t1205 _ ?side1 ?side2 ?side3 ?side4 ?side5 ?side6 A37.out).mono ?_); (case side1 => exact ca (Kd.R_reads' HO_1180000.out).2.2); (case side2 => exact (Kd.R_reads' HO_1180000.out).2.1); (case side3 => exact ca (Kd.R_reads' HO_1180001.out).2.2); (case side4 => exact (Kd.R_reads' HO_1180001.out).2.1); (case side5 => exact ca (Kd.R_reads' HO_1180002.out).2.2); (case side6 => exact (Kd.R_reads' HO_1180002.out).2.1); rintro e w42 ⟨v1197, v1200, v1203, rfl, ho0, ho1, ho2, hb⟩; refine ⟨_, rfl, ?_⟩; have HO1198 := Aside0.mk (Kd.R_lower (Kd.R_new' (Kd.R_new' (Kd.R_new' (Kd.R_new' ho0 (rl_ HO_1180000)) (rl_ HO_1180001)) (rl_ HO_1194000)) (rl_ HO_1194001)) (below_size (hB HB))); have HO1201 := Aside0.mk (Kd.R_lower (Kd.R_new' (Kd.R_new' (Kd.R_new' (Kd.R_new' ho1 (rl_ HO_1180000)) (rl_ HO_1180001)) (rl_ HO_1194000)) (rl_ HO_1194001)) (below_size (hB HB))); have HO1204 := Aside0.mk (Kd.R_lower (Kd.R_new' (Kd.R_new' ho2 (rl_ HO_1180002)) (rl_ HO_1194002)) (below_size (hB HB))); replace HO_1180000 := rt2_ HO_1180000 hb ho0 ho1; replace HO_1180001 := rt2_ HO_1180001 hb ho0 ho1; replace HO_1180002 := re_ HO_1180002 ho2 hb; replace HO_1194000 := rt2_ HO_1194000 hb ho0 ho1; replace HO_1194001 := rt2_ HO_1194001 hb ho0 ho1; replace HO_1194002 := re_ HO_1194002 ho2 hb; replace BK1179 := bb_ BK1179 hb; replace BK1193 := bb_ BK1193 hb; replace HB := bst_ HB hb; clear hb ho0 ho1 ho2) | ((with_reducible refine gate_dst (N := 12) rfl ?_); refine box_event ?hg (N := 12) ?hd (cs := #[.slice none 0 0, .slice none 0 0, .slice none 0 0]) (t := 35) ?hr ?_; (case hd => rfl); (case hg => rfl); (case hr => first | (go_simp; done) | (go_simp; rfl)); intro gb1206 hg w43 hbox hb; have BK1206 := Aside0.mk (hbox); have GW1206 := gw_ hg HB; have GE1206 := gw_ hg HB; have NB1179_1206 := nl_ hg BK1179; have NB1206_1179 := ng_ hg BK1179; have NB1193_1206 := nl_ hg BK1193; have NB1206_1193 := ng_ hg BK1193; replace HO_1180000 := rb_ HO_1180000 hb; replace HO_1180001 := rb_ HO_1180001 hb; replace HO_1180002 := rb_ HO_1180002 hb; replace HO_1194000 := rb_ HO_1194000 hb; replace HO_1194001 := rb_ HO_1194001 hb; replace HO_1194002 := rb_ HO_1194002 hb; replace HO1198 := rb_ HO1198 hb; replace HO1201 := rb_ HO1201 hb; replace HO1204 := rb_ HO1204 hb; replace BK1179 := bb_ BK1179 hb; replace BK1193 := bb_ BK1193 hb; replace HB := bst_ HB hb; clear hb hbox hg; obtain ⟨Ao44, co44, eo44⟩ := Kd.R_slice HO1198.out; subst eo44; have hnb45 := NB1206_1179.out; have hnc45 := NB1179_1206.out; have hnb46 := NB1206_1193.out; have hnc46 := NB1193_1206.out; have hcz47_0 : w43.cell? ⟨gb1206, 0, none⟩ = some (.slice none 0 0) := bc_ BK1206 0; have hcz47_1 : w43.cell? ⟨gb1206, 1, none⟩ = some (.slice none 0 0) := bc_ BK1206 1; have hcz47_2 : w43.cell? ⟨gb1206, 2, none⟩ = some (.slice none 0 0) := bc_ BK1206 2; have hfz47_0 := blk_frozen BK1206.out 0; have hfz47_1 := blk_frozen BK1206.out 1; have hfz47_2 := blk_frozen BK1206.out 2; obtain ⟨Ao48, co48, eo48⟩ := Kd.R_slice HO1201.out; subst eo48; obtain ⟨Ao49, co49, eo49⟩ := Kd.R_slice HO1204.out; subst eo49) | ((with_reducible refine gate_callee (f := 26) rfl ?_); refine goesL_ (some 69) rfl rfl Try.func26 (by kernel_rfl) rfl #[.agg #[.slice Ao44 t1196.length co44, .slice Ao48 t1199.length co48, .slice Ao49 t1202.length co49]] rfl tm_ ?_; (with_reducible refine (impl_AreBoth.calls kj6 _ _ t1196 _ _ t1199 _ _ t1202 t1207 t1208 _ ?side1 ?side2 ?side3 ?side4 ?side5 ?side6 A38.out).mono ?_); (case side1 => refine (Kd.R_reads' (e := 3) (base := w.heap.size) (ok := fun k_ => ((((no_ (.slice Ao48 t1199.length co48) k_ ∧ no_ (.slice Ao12 t1166.length co12) k_) ∧ no_ (.slice Ao14 t1169.length co14) k_) ∧ no_ (.slice Ao18 t1180.length co18) k_) ∧ no_ (.slice Ao21 t1183.length co21) k_)) (n := t1196.length) (c := co44) ?_).2.2; exact (by (with_reducible repeat (first | apply Kd.R_alloc | apply Kd.R_drewN | apply Kd.R_drew)); exact (fm3_ HO1198 BK1206))); (case side2 => exact (Kd.R_reads' HO1198.out).2.1); (case side3 => refine (Kd.R_reads' (e := 3) (base := w.heap.size) (ok := fun k_ => ((((no_ (.slice Ao44 t1196.length co44) k_ ∧ no_ (.slice Ao12 t1166.length co12) k_) ∧ no_ (.slice Ao14 t1169.length co14) k_) ∧ no_ (.slice Ao18 t1180.length co18) k_) ∧ no_ (.slice Ao21 t1183.length co21) k_)) (n := t1199.length) (c := co48) ?_).2.2; exact (by (with_reducible repeat (first | apply Kd.R_alloc | apply Kd.R_drewN | apply Kd.R_drew)); exact (fm3_ HO1201 BK1206))); (case side4 => exact (Kd.R_reads' HO1201.out).2.1); (case side5 => refine (Kd.R_reads' (e := 45) (base := w.heap.size) (ok := fun k_ => ((True ∧ no_ (.slice Ao15 t1172.length co15) k_) ∧ no_ (.slice Ao22 t1186.length co22) k_)) (n := t1202.length) (c := co49) ?_).2.2; exact (by (with_reducible repeat (first | apply Kd.R_alloc | apply Kd.R_drewN | apply Kd.R_drew)); exact (fm3_ HO1204 BK1206))); (case side6 => exact (Kd.R_reads' HO1204.out).2.1); rintro e w50 ⟨rfl, hb⟩; refine ⟨_, rfl, ?_⟩; replace HO_1180000 := Aside0.mk (Kd.R_below (by (with_reducible repeat (first | apply Kd.R_alloc | apply Kd.R_drewN | apply Kd.R_drew)); exact (fm3_ HO_1180000 BK1206)) hb); replace HO_1180001 := Aside0.mk (Kd.R_below (by (with_reducible repeat (first | apply Kd.R_alloc | apply Kd.R_drewN | apply Kd.R_drew)); exact (fm3_ HO_1180001 BK1206)) hb); replace HO_1180002 := Aside0.mk (Kd.R_below (by (with_reducible repeat (first | apply Kd.R_alloc | apply Kd.R_drewN | apply Kd.R_drew)); exact (fm3_ HO_1180002 BK1206)) hb); replace HO_1194000 := Aside0.mk (Kd.R_below (by (with_reducible repeat (first | apply Kd.R_alloc | apply Kd.R_drewN | apply Kd.R_drew)); exact (fm3_ HO_1194000 BK1206)) hb); replace HO_1194001 := Aside0.mk (Kd.R_below (by (with_reducible repeat (first | apply Kd.R_alloc | apply Kd.R_drewN | apply Kd.R_drew)); exact (fm3_ HO_1194001 BK1206)) hb); replace HO_1194002 := Aside0.mk (Kd.R_below (by (with_reducible repeat (first | apply Kd.R_alloc | apply Kd.R_drewN | apply Kd.R_drew)); exact (fm3_ HO_1194002 BK1206)) hb); replace HO1198 := Aside0.mk (Kd.R_below (by (with_reducible repeat (first | apply Kd.R_alloc | apply Kd.R_drewN | apply Kd.R_drew)); exact (fm3_ HO1198 BK1206)) hb); replace HO1201 := Aside0.mk (Kd.R_below (by (with_reducible repeat (first | apply Kd.R_alloc | apply Kd.R_drewN | apply Kd.R_drew)); exact (fm3_ HO1201 BK1206)) hb); replace HO1204 := Aside0.mk (Kd.R_below (by (with_reducible repeat (first | apply Kd.R_alloc | apply Kd.R_drewN | apply Kd.R_drew)); exact (fm3_ HO1204 BK1206)) hb); replace BK1179 := Aside0.mk (blk_below (bx BK1179) hb); replace BK1193 := Aside0.mk (blk_below (bx BK1193) hb); replace BK1206 := Aside0.mk (blk_below (g := gb1206) (o := .cells #[.slice Ao44 t1196.length co44, .slice Ao48 t1199.length co48, .slice Ao49 t1202.length co49] 35 (0, 0)) (by (with_reducible repeat (first | refine blk_drewN ?_ _ | refine blk_drew ?_ | refine blk_alloc ?_ _)); refine blk_put (cs := #[.slice Ao44 t1196.length co44, .slice Ao48 t1199.length co48, .slice none 0 0]) ?_ 2 _ rfl; (with_reducible repeat (first | refine blk_drewN ?_ _ | refine blk_drew ?_ | refine blk_alloc ?_ _)); refine blk_put (cs := #[.slice Ao44 t1196.length co44, .slice none 0 0, .slice none 0 0]) ?_ 1 _ rfl; (with_reducible repeat (first | refine blk_drewN ?_ _ | refine blk_drew ?_ | refine blk_alloc ?_ _)); refine blk_put (cs := #[.slice none 0 0, .slice none 0 0, .slice none 0 0]) ?_ 0 _ rfl; (with_reducible repeat (first | refine blk_drewN ?_ _ | refine blk_drew ?_ | refine blk_alloc ?_ _)); exact BK1206.out) hb); replace HB := bst_ HB hb; clear hb))
   (try simp only [Act.put, List.setIfInBounds_toArray, List.set_cons_zero, List.set_cons_succ])
   go_cut [86] (fun v86 wc => ∃ (kq : Nat) (x86_38 : Bool), v86 = .bool x86_38 ∧ Aside0 (laws_FnPair.j1 kq l1 x86_38 t1196 t1199 t1202 = some r) ∧ Aside0 (kq ≤ kj6) ∧ Aside0 (Kd.R (Kd.int .i64) 3 wc w.heap.size (fun k_ => no_ (.slice Ao14 t1169.length co14) k_ ∧ no_ (.slice Ao18 t1180.length co18) k_ ∧ no_ (.slice Ao21 t1183.length co21) k_ ∧ no_ (.slice Ao44 t1196.length co44) k_ ∧ no_ (.slice Ao48 t1199.length co48) k_) (.slice Ao12 t1166.length co12) t1166) ∧ Aside0 (Kd.R (Kd.int .i64) 3 wc w.heap.size (fun k_ => no_ (.slice Ao12 t1166.length co12) k_ ∧ no_ (.slice Ao18 t1180.length co18) k_ ∧ no_ (.slice Ao21 t1183.length co21) k_ ∧ no_ (.slice Ao44 t1196.length co44) k_ ∧ no_ (.slice Ao48 t1199.length co48) k_) (.slice Ao14 t1169.length co14) t1169) ∧ Aside0 (Kd.R k45 45 wc w.heap.size (fun k_ => no_ (.slice Ao22 t1186.length co22) k_ ∧ no_ (.slice Ao49 t1202.length co49) k_) (.slice Ao15 t1172.length co15) t1172) ∧ Aside0 (Kd.R (Kd.int .i64) 3 wc w.heap.size (fun k_ => no_ (.slice Ao12 t1166.length co12) k_ ∧ no_ (.slice Ao14 t1169.length co14) k_ ∧ no_ (.slice Ao21 t1183.length co21) k_ ∧ no_ (.slice Ao44 t1196.length co44) k_ ∧ no_ (.slice Ao48 t1199.length co48) k_) (.slice Ao18 t1180.length co18) t1180) ∧ Aside0 (Kd.R (Kd.int .i64) 3 wc w.heap.size (fun k_ => no_ (.slice Ao12 t1166.length co12) k_ ∧ no_ (.slice Ao14 t1169.length co14) k_ ∧ no_ (.slice Ao18 t1180.length co18) k_ ∧ no_ (.slice Ao44 t1196.length co44) k_ ∧ no_ (.slice Ao48 t1199.length co48) k_) (.slice Ao21 t1183.length co21) t1183) ∧ Aside0 (Kd.R k45 45 wc w.heap.size (fun k_ => no_ (.slice Ao15 t1172.length co15) k_ ∧ no_ (.slice Ao49 t1202.length co49) k_) (.slice Ao22 t1186.length co22) t1186) ∧ Aside0 (Kd.R (Kd.int .i64) 3 wc w.heap.size (fun k_ => no_ (.slice Ao12 t1166.length co12) k_ ∧ no_ (.slice Ao14 t1169.length co14) k_ ∧ no_ (.slice Ao18 t1180.length co18) k_ ∧ no_ (.slice Ao21 t1183.length co21) k_ ∧ no_ (.slice Ao48 t1199.length co48) k_) (.slice Ao44 t1196.length co44) t1196) ∧ Aside0 (Kd.R (Kd.int .i64) 3 wc w.heap.size (fun k_ => no_ (.slice Ao12 t1166.length co12) k_ ∧ no_ (.slice Ao14 t1169.length co14) k_ ∧ no_ (.slice Ao18 t1180.length co18) k_ ∧ no_ (.slice Ao21 t1183.length co21) k_ ∧ no_ (.slice Ao44 t1196.length co44) k_) (.slice Ao48 t1199.length co48) t1199) ∧ Aside0 (Kd.R k45 45 wc w.heap.size (fun k_ => no_ (.slice Ao15 t1172.length co15) k_ ∧ no_ (.slice Ao22 t1186.length co22) k_) (.slice Ao49 t1202.length co49) t1202) ∧ Aside0 (wc.heap[gb1179]? = some (.cells #[(.slice Ao12 t1166.length co12), (.slice Ao14 t1169.length co14), (.slice Ao15 t1172.length co15)] 35 (0, 0))) ∧ Aside0 (wc.heap[gb1193]? = some (.cells #[(.slice Ao18 t1180.length co18), (.slice Ao21 t1183.length co21), (.slice Ao22 t1186.length co22)] 35 (0, 0))) ∧ Aside0 (wc.heap[gb1206]? = some (.cells #[(.slice Ao44 t1196.length co44), (.slice Ao48 t1199.length co48), (.slice Ao49 t1202.length co49)] 35 (0, 0))) ∧ Aside0 (Below w.heap.size w wc))
   case first =>
    have H := HC39.out
    clear HC39
    replace H := Option.bind_eq_some_iff.mp H
    obtain ⟨t1209, A510, H⟩ := H
    replace H : (if t1209 = true then (if t1205 = true then (if t1208 = true then (laws_FnPair.j1 kj6 l1 (!t1207) t1196 t1199 t1202) else (laws_FnPair.j1 kj6 l1 true t1196 t1199 t1202)) else (laws_FnPair.j1 kj6 l1 true t1196 t1199 t1202)) else (laws_FnPair.j1 kj6 l1 true t1196 t1199 t1202)) = some r := H
    have A51 := Aside0.mk A510
    clear A510
    by_cases c52 : t1209 = true
    rotate_left
    ·replace c52 := Bool.eq_false_iff.mpr c52
     subst c52
     rw [if_neg (show ¬ (false = true) by decide)] at H
     have H' := Aside0.mk H
     clear H
     have hnb67 := NB1179_1193.out
     have hnc67 := NB1193_1179.out
     have hnb68 := NB1179_1206.out
     have hnc68 := NB1206_1179.out
     have hcz69_0 : w50.cell? ⟨gb1179, 0, none⟩ = some (.slice Ao12 t1166.length co12) := bc_ BK1179 0
     have hcz69_1 : w50.cell? ⟨gb1179, 1, none⟩ = some (.slice Ao14 t1169.length co14) := bc_ BK1179 1
     have hcz69_2 : w50.cell? ⟨gb1179, 2, none⟩ = some (.slice Ao15 t1172.length co15) := bc_ BK1179 2
     have hfz69_0 := blk_frozen BK1179.out 0
     have hfz69_1 := blk_frozen BK1179.out 1
     have hfz69_2 := blk_frozen BK1179.out 2
     go_wp2_with (first | ((with_reducible refine gate_callee (f := 21) rfl ?_); refine goesL_ (some 73) rfl rfl Try.func21 (by kernel_rfl) rfl #[.agg #[.slice Ao12 t1166.length co12, .slice Ao14 t1169.length co14, .slice Ao15 t1172.length co15]] rfl tm_ ?_; (with_reducible refine (impl_GoodPair.calls kj6 _ _ t1166 _ _ t1169 _ _ t1172 false _ ?side1 ?side2 ?side3 ?side4 ?side5 ?side6 A51.out).mono ?_); (case side1 => exact ca (Kd.R_reads' HO_1180000.out).2.2); (case side2 => exact (Kd.R_reads' HO_1180000.out).2.1); (case side3 => exact ca (Kd.R_reads' HO_1180001.out).2.2); (case side4 => exact (Kd.R_reads' HO_1180001.out).2.1); (case side5 => exact ca (Kd.R_reads' HO_1180002.out).2.2); (case side6 => exact (Kd.R_reads' HO_1180002.out).2.1); rintro e w70 ⟨rfl, hb⟩; refine ⟨_, rfl, ?_⟩; replace HO_1180000 := rb_ HO_1180000 hb; replace HO_1180001 := rb_ HO_1180001 hb; replace HO_1180002 := rb_ HO_1180002 hb; replace HO_1194000 := rb_ HO_1194000 hb; replace HO_1194001 := rb_ HO_1194001 hb; replace HO_1194002 := rb_ HO_1194002 hb; replace HO1198 := rb_ HO1198 hb; replace HO1201 := rb_ HO1201 hb; replace HO1204 := rb_ HO1204 hb; replace BK1179 := bb_ BK1179 hb; replace BK1193 := bb_ BK1193 hb; replace BK1206 := bb_ BK1206 hb; replace HB := bst_ HB hb; clear hb))
     go_meet
     case rel => exact ⟨_, (true), (by first | rfl | (simp; done) | (simp [*]; done)), H', ⟨by have := HJ6.out; first | omega | exact Nat.le_refl _⟩, rm_ HO_1180000 (fun _ hk => laws_FnPair.cj_ hk), rm_ HO_1180001 (fun _ hk => laws_FnPair.cj_ hk), ⟨ra HO_1180002.out⟩, rm_ HO_1194000 (fun _ hk => laws_FnPair.cj_ hk), rm_ HO_1194001 (fun _ hk => laws_FnPair.cj_ hk), ⟨ra HO_1194002.out⟩, rm_ HO1198 (fun _ hk => laws_FnPair.cj_ hk), rm_ HO1201 (fun _ hk => laws_FnPair.cj_ hk), rm_ HO1204 (fun _ hk => laws_FnPair.cj_ hk), ⟨by (with_reducible repeat (first | refine blk_drewN ?_ _ | refine blk_drew ?_ | refine blk_alloc ?_ _)); exact BK1179.out⟩, ⟨by (with_reducible repeat (first | refine blk_drewN ?_ _ | refine blk_drew ?_ | refine blk_alloc ?_ _)); exact BK1193.out⟩, ⟨by (with_reducible repeat (first | refine blk_drewN ?_ _ | refine blk_drew ?_ | refine blk_alloc ?_ _)); exact BK1206.out⟩, ⟨hB HB⟩⟩
    subst c52
    rw [if_pos rfl] at H
    by_cases c53 : t1205 = true
    rotate_left
    ·replace c53 := Bool.eq_false_iff.mpr c53
     subst c53
     rw [if_neg (show ¬ (false = true) by decide)] at H
     have H' := Aside0.mk H
     clear H
     have hnb63 := NB1179_1193.out
     have hnc63 := NB1193_1179.out
     have hnb64 := NB1179_1206.out
     have hnc64 := NB1206_1179.out
     have hcz65_0 : w50.cell? ⟨gb1179, 0, none⟩ = some (.slice Ao12 t1166.length co12) := bc_ BK1179 0
     have hcz65_1 : w50.cell? ⟨gb1179, 1, none⟩ = some (.slice Ao14 t1169.length co14) := bc_ BK1179 1
     have hcz65_2 : w50.cell? ⟨gb1179, 2, none⟩ = some (.slice Ao15 t1172.length co15) := bc_ BK1179 2
     have hfz65_0 := blk_frozen BK1179.out 0
     have hfz65_1 := blk_frozen BK1179.out 1
     have hfz65_2 := blk_frozen BK1179.out 2
     go_wp2_with (first | ((with_reducible refine gate_callee (f := 21) rfl ?_); refine goesL_ (some 73) rfl rfl Try.func21 (by kernel_rfl) rfl #[.agg #[.slice Ao12 t1166.length co12, .slice Ao14 t1169.length co14, .slice Ao15 t1172.length co15]] rfl tm_ ?_; (with_reducible refine (impl_GoodPair.calls kj6 _ _ t1166 _ _ t1169 _ _ t1172 true _ ?side1 ?side2 ?side3 ?side4 ?side5 ?side6 A51.out).mono ?_); (case side1 => exact ca (Kd.R_reads' HO_1180000.out).2.2); (case side2 => exact (Kd.R_reads' HO_1180000.out).2.1); (case side3 => exact ca (Kd.R_reads' HO_1180001.out).2.2); (case side4 => exact (Kd.R_reads' HO_1180001.out).2.1); (case side5 => exact ca (Kd.R_reads' HO_1180002.out).2.2); (case side6 => exact (Kd.R_reads' HO_1180002.out).2.1); rintro e w66 ⟨rfl, hb⟩; refine ⟨_, rfl, ?_⟩; replace HO_1180000 := rb_ HO_1180000 hb; replace HO_1180001 := rb_ HO_1180001 hb; replace HO_1180002 := rb_ HO_1180002 hb; replace HO_1194000 := rb_ HO_1194000 hb; replace HO_1194001 := rb_ HO_1194001 hb; replace HO_1194002 := rb_ HO_1194002 hb; replace HO1198 := rb_ HO1198 hb; replace HO1201 := rb_ HO1201 hb; replace HO1204 := rb_ HO1204 hb; replace BK1179 := bb_ BK1179 hb; replace BK1193 := bb_ BK1193 hb; replace BK1206 := bb_ BK1206 hb; replace HB := bst_ HB hb; clear hb))
     go_meet
     case rel => exact ⟨_, (true), (by first | rfl | (simp; done) | (simp [*]; done)), H', ⟨by have := HJ6.out; first | omega | exact Nat.le_refl _⟩, rm_ HO_1180000 (fun _ hk => laws_FnPair.cj_ hk), rm_ HO_1180001 (fun _ hk => laws_FnPair.cj_ hk), ⟨ra HO_1180002.out⟩, rm_ HO_1194000 (fun _ hk => laws_FnPair.cj_ hk), rm_ HO_1194001 (fun _ hk => laws_FnPair.cj_ hk), ⟨ra HO_1194002.out⟩, rm_ HO1198 (fun _ hk => laws_FnPair.cj_ hk), rm_ HO1201 (fun _ hk => laws_FnPair.cj_ hk), rm_ HO1204 (fun _ hk => laws_FnPair.cj_ hk), ⟨by (with_reducible repeat (first | refine blk_drewN ?_ _ | refine blk_drew ?_ | refine blk_alloc ?_ _)); exact BK1179.out⟩, ⟨by (with_reducible repeat (first | refine blk_drewN ?_ _ | refine blk_drew ?_ | refine blk_alloc ?_ _)); exact BK1193.out⟩, ⟨by (with_reducible repeat (first | refine blk_drewN ?_ _ | refine blk_drew ?_ | refine blk_alloc ?_ _)); exact BK1206.out⟩, ⟨hB HB⟩⟩
    subst c53
    rw [if_pos rfl] at H
    by_cases c54 : t1208 = true
    ·subst c54
     rw [if_pos rfl] at H
     have H' := Aside0.mk H
     clear H
     have hnb55 := NB1179_1193.out
     have hnc55 := NB1193_1179.out
     have hnb56 := NB1179_1206.out
     have hnc56 := NB1206_1179.out
     have hcz57_0 : w50.cell? ⟨gb1179, 0, none⟩ = some (.slice Ao12 t1166.length co12) := bc_ BK1179 0
     have hcz57_1 : w50.cell? ⟨gb1179, 1, none⟩ = some (.slice Ao14 t1169.length co14) := bc_ BK1179 1
     have hcz57_2 : w50.cell? ⟨gb1179, 2, none⟩ = some (.slice Ao15 t1172.length co15) := bc_ BK1179 2
     have hfz57_0 := blk_frozen BK1179.out 0
     have hfz57_1 := blk_frozen BK1179.out 1
     have hfz57_2 := blk_frozen BK1179.out 2
     go_wp2_with (first | ((with_reducible refine gate_callee (f := 21) rfl ?_); refine goesL_ (some 73) rfl rfl Try.func21 (by kernel_rfl) rfl #[.agg #[.slice Ao12 t1166.length co12, .slice Ao14 t1169.length co14, .slice Ao15 t1172.length co15]] rfl tm_ ?_; (with_reducible refine (impl_GoodPair.calls kj6 _ _ t1166 _ _ t1169 _ _ t1172 true _ ?side1 ?side2 ?side3 ?side4 ?side5 ?side6 A51.out).mono ?_); (case side1 => exact ca (Kd.R_reads' HO_1180000.out).2.2); (case side2 => exact (Kd.R_reads' HO_1180000.out).2.1); (case side3 => exact ca (Kd.R_reads' HO_1180001.out).2.2); (case side4 => exact (Kd.R_reads' HO_1180001.out).2.1); (case side5 => exact ca (Kd.R_reads' HO_1180002.out).2.2); (case side6 => exact (Kd.R_reads' HO_1180002.out).2.1); rintro e w58 ⟨rfl, hb⟩; refine ⟨_, rfl, ?_⟩; replace HO_1180000 := rb_ HO_1180000 hb; replace HO_1180001 := rb_ HO_1180001 hb; replace HO_1180002 := rb_ HO_1180002 hb; replace HO_1194000 := rb_ HO_1194000 hb; replace HO_1194001 := rb_ HO_1194001 hb; replace HO_1194002 := rb_ HO_1194002 hb; replace HO1198 := rb_ HO1198 hb; replace HO1201 := rb_ HO1201 hb; replace HO1204 := rb_ HO1204 hb; replace BK1179 := bb_ BK1179 hb; replace BK1193 := bb_ BK1193 hb; replace BK1206 := bb_ BK1206 hb; replace HB := bst_ HB hb; clear hb))
     go_meet
     case rel => exact ⟨_, (!t1207), (by first | rfl | (simp; done) | (simp [*]; done)), H', ⟨by have := HJ6.out; first | omega | exact Nat.le_refl _⟩, rm_ HO_1180000 (fun _ hk => laws_FnPair.cj_ hk), rm_ HO_1180001 (fun _ hk => laws_FnPair.cj_ hk), ⟨ra HO_1180002.out⟩, rm_ HO_1194000 (fun _ hk => laws_FnPair.cj_ hk), rm_ HO_1194001 (fun _ hk => laws_FnPair.cj_ hk), ⟨ra HO_1194002.out⟩, rm_ HO1198 (fun _ hk => laws_FnPair.cj_ hk), rm_ HO1201 (fun _ hk => laws_FnPair.cj_ hk), rm_ HO1204 (fun _ hk => laws_FnPair.cj_ hk), ⟨by (with_reducible repeat (first | refine blk_drewN ?_ _ | refine blk_drew ?_ | refine blk_alloc ?_ _)); exact BK1179.out⟩, ⟨by (with_reducible repeat (first | refine blk_drewN ?_ _ | refine blk_drew ?_ | refine blk_alloc ?_ _)); exact BK1193.out⟩, ⟨by (with_reducible repeat (first | refine blk_drewN ?_ _ | refine blk_drew ?_ | refine blk_alloc ?_ _)); exact BK1206.out⟩, ⟨hB HB⟩⟩
    replace c54 := Bool.eq_false_iff.mpr c54
    subst c54
    rw [if_neg (show ¬ (false = true) by decide)] at H
    have H' := Aside0.mk H
    clear H
    have hnb59 := NB1179_1193.out
    have hnc59 := NB1193_1179.out
    have hnb60 := NB1179_1206.out
    have hnc60 := NB1206_1179.out
    have hcz61_0 : w50.cell? ⟨gb1179, 0, none⟩ = some (.slice Ao12 t1166.length co12) := bc_ BK1179 0
    have hcz61_1 : w50.cell? ⟨gb1179, 1, none⟩ = some (.slice Ao14 t1169.length co14) := bc_ BK1179 1
    have hcz61_2 : w50.cell? ⟨gb1179, 2, none⟩ = some (.slice Ao15 t1172.length co15) := bc_ BK1179 2
    have hfz61_0 := blk_frozen BK1179.out 0
    have hfz61_1 := blk_frozen BK1179.out 1
    have hfz61_2 := blk_frozen BK1179.out 2
    go_wp2_with (first | ((with_reducible refine gate_callee (f := 21) rfl ?_); refine goesL_ (some 73) rfl rfl Try.func21 (by kernel_rfl) rfl #[.agg #[.slice Ao12 t1166.length co12, .slice Ao14 t1169.length co14, .slice Ao15 t1172.length co15]] rfl tm_ ?_; (with_reducible refine (impl_GoodPair.calls kj6 _ _ t1166 _ _ t1169 _ _ t1172 true _ ?side1 ?side2 ?side3 ?side4 ?side5 ?side6 A51.out).mono ?_); (case side1 => exact ca (Kd.R_reads' HO_1180000.out).2.2); (case side2 => exact (Kd.R_reads' HO_1180000.out).2.1); (case side3 => exact ca (Kd.R_reads' HO_1180001.out).2.2); (case side4 => exact (Kd.R_reads' HO_1180001.out).2.1); (case side5 => exact ca (Kd.R_reads' HO_1180002.out).2.2); (case side6 => exact (Kd.R_reads' HO_1180002.out).2.1); rintro e w62 ⟨rfl, hb⟩; refine ⟨_, rfl, ?_⟩; replace HO_1180000 := rb_ HO_1180000 hb; replace HO_1180001 := rb_ HO_1180001 hb; replace HO_1180002 := rb_ HO_1180002 hb; replace HO_1194000 := rb_ HO_1194000 hb; replace HO_1194001 := rb_ HO_1194001 hb; replace HO_1194002 := rb_ HO_1194002 hb; replace HO1198 := rb_ HO1198 hb; replace HO1201 := rb_ HO1201 hb; replace HO1204 := rb_ HO1204 hb; replace BK1179 := bb_ BK1179 hb; replace BK1193 := bb_ BK1193 hb; replace BK1206 := bb_ BK1206 hb; replace HB := bst_ HB hb; clear hb))
    go_meet
    case rel => exact ⟨_, (true), (by first | rfl | (simp; done) | (simp [*]; done)), H', ⟨by have := HJ6.out; first | omega | exact Nat.le_refl _⟩, rm_ HO_1180000 (fun _ hk => laws_FnPair.cj_ hk), rm_ HO_1180001 (fun _ hk => laws_FnPair.cj_ hk), ⟨ra HO_1180002.out⟩, rm_ HO_1194000 (fun _ hk => laws_FnPair.cj_ hk), rm_ HO_1194001 (fun _ hk => laws_FnPair.cj_ hk), ⟨ra HO_1194002.out⟩, rm_ HO1198 (fun _ hk => laws_FnPair.cj_ hk), rm_ HO1201 (fun _ hk => laws_FnPair.cj_ hk), rm_ HO1204 (fun _ hk => laws_FnPair.cj_ hk), ⟨by (with_reducible repeat (first | refine blk_drewN ?_ _ | refine blk_drew ?_ | refine blk_alloc ?_ _)); exact BK1179.out⟩, ⟨by (with_reducible repeat (first | refine blk_drewN ?_ _ | refine blk_drew ?_ | refine blk_alloc ?_ _)); exact BK1193.out⟩, ⟨by (with_reducible repeat (first | refine blk_drewN ?_ _ | refine blk_drew ?_ | refine blk_alloc ?_ _)); exact BK1206.out⟩, ⟨hB HB⟩⟩
   case rest =>
    clear HC39
    try clear c1
    try clear c3
    try clear c3b0
    try clear c35
    try clear c36
    try clear hcz13_0
    try clear hcz13_1
    try clear hcz13_2
    try clear hcz20_0
    try clear hcz20_1
    try clear hcz20_2
    try clear hcz41_0
    try clear hcz41_1
    try clear hcz41_2
    try clear hcz47_0
    try clear hcz47_1
    try clear hcz47_2
    try clear hfz13_0
    try clear hfz13_1
    try clear hfz13_2
    try clear hfz20_0
    try clear hfz20_1
    try clear hfz20_2
    try clear hfz41_0
    try clear hfz41_1
    try clear hfz41_2
    try clear hfz47_0
    try clear hfz47_1
    try clear hfz47_2
    obtain ⟨kq, x86_38, rfl, HA, HJ38, HO_1180000, HO_1180001, HO_1180002, HO_1194000, HO_1194001, HO_1194002, HO_1207000, HO_1207001, HO_1207002, BK1179, BK1193, BK1206, HB⟩ := hcut
    cases kq with
    | zero => exact absurd HA.out (by simp [laws_FnPair.j1])
    | succ kj38 =>
     have H := HA.out
     clear HA
     simp only [laws_FnPair.j1] at H
     by_cases c71 : x86_38 = true
     ·subst c71
      rw [if_pos rfl] at H
      obtain rfl := Option.some.inj H
      go_wp2
      go_ret
      exact ⟨by first | rfl | (simp [errW_none, errW_some] <;> rfl) | (simp [*, errW_none, errW_some] <;> rfl), by repeat (first | (with_reducible first | exact HB.out | apply below_alloc | apply pw_below_drewN | apply below_drew1 | refine below_set ?_ GE1179.out | refine below_set ?_ GE1193.out | refine below_set ?_ GE1206.out) | exact HB.out)⟩
     replace c71 := Bool.eq_false_iff.mpr c71
     subst c71
     rw [if_neg (show ¬ (false = true) by decide)] at H
     have H' := Aside0.mk H
     clear H
     have hnb72 := NB1206_1179.out
     have hnc72 := NB1179_1206.out
     have hnb73 := NB1206_1193.out
     have hnc73 := NB1193_1206.out
     have hcz74_0 : wc.cell? ⟨gb1206, 0, none⟩ = some (.slice Ao44 t1196.length co44) := bc_ BK1206 0
     have hcz74_1 : wc.cell? ⟨gb1206, 1, none⟩ = some (.slice Ao48 t1199.length co48) := bc_ BK1206 1
     have hcz74_2 : wc.cell? ⟨gb1206, 2, none⟩ = some (.slice Ao49 t1202.length co49) := bc_ BK1206 2
     have hfz74_0 := blk_frozen BK1206.out 0
     have hfz74_1 := blk_frozen BK1206.out 1
     have hfz74_2 := blk_frozen BK1206.out 2
     go_wp2_with (first | ((with_reducible refine gate_dst (N := 16) rfl ?_); refine box_event ?hg (N := 16) ?hd (cs := #[.slice none 0 0, .slice none 0 0, .slice none 0 0]) (t := 35) ?hr ?_; (case hd => rfl); (case hg => rfl); (case hr => first | (go_simp; done) | (go_simp; rfl)); intro gb1210 hg w75 hbox hb; have BK1210 := Aside0.mk (hbox); have GW1210 := gw_ hg HB; have GE1210 := gw_ hg HB; have NB1179_1210 := nl_ hg BK1179; have NB1210_1179 := ng_ hg BK1179; have NB1193_1210 := nl_ hg BK1193; have NB1210_1193 := ng_ hg BK1193; have NB1206_1210 := nl_ hg BK1206; have NB1210_1206 := ng_ hg BK1206; replace HO_1180000 := rb_ HO_1180000 hb; replace HO_1180001 := rb_ HO_1180001 hb; replace HO_1180002 := rb_ HO_1180002 hb; replace HO_1194000 := rb_ HO_1194000 hb; replace HO_1194001 := rb_ HO_1194001 hb; replace HO_1194002 := rb_ HO_1194002 hb; replace HO_1207000 := rb_ HO_1207000 hb; replace HO_1207001 := rb_ HO_1207001 hb; replace HO_1207002 := rb_ HO_1207002 hb; replace BK1179 := bb_ BK1179 hb; replace BK1193 := bb_ BK1193 hb; replace BK1206 := bb_ BK1206 hb; replace HB := bst_ HB hb; clear hb hbox hg; have hnb76 := NB1210_1179.out; have hnc76 := NB1179_1210.out; have hnb77 := NB1210_1193.out; have hnc77 := NB1193_1210.out; have hnb78 := NB1210_1206.out; have hnc78 := NB1206_1210.out; have hcz79_0 : w75.cell? ⟨gb1210, 0, none⟩ = some (.slice none 0 0) := bc_ BK1210 0; have hcz79_1 : w75.cell? ⟨gb1210, 1, none⟩ = some (.slice none 0 0) := bc_ BK1210 1; have hcz79_2 : w75.cell? ⟨gb1210, 2, none⟩ = some (.slice none 0 0) := bc_ BK1210 2; have hfz79_0 := blk_frozen BK1210.out 0; have hfz79_1 := blk_frozen BK1210.out 1; have hfz79_2 := blk_frozen BK1210.out 2))
     go_loopg [17] kj38 (fun kq v17 w' => ∃ (x17_3 : Int) (x1211000_3 : List Int) (x1211001_3 : List Int) (x1211002_3 : List (S45)) (u1211000 : Value) (u1211001 : Value) (u1211002 : Value), v17 = .int .i64 x17_3 ∧ Aside0 (laws_FnPair.l0 kq l1 x17_3 x1211000_3 x1211001_3 x1211002_3 = some r) ∧ Aside0 (kq ≤ kj38) ∧ Aside0 (Kd.R (Kd.int .i64) 3 w' w.heap.size (fun k_ => no_ (.slice Ao14 t1169.length co14) k_ ∧ no_ (.slice Ao18 t1180.length co18) k_ ∧ no_ (.slice Ao21 t1183.length co21) k_ ∧ no_ (.slice Ao44 t1196.length co44) k_ ∧ no_ (.slice Ao48 t1199.length co48) k_ ∧ some k_ ≠ (u1211000 : Value).ownBlock ∧ some k_ ≠ (u1211001 : Value).ownBlock) (.slice Ao12 t1166.length co12) t1166) ∧ Aside0 (Kd.R (Kd.int .i64) 3 w' w.heap.size (fun k_ => no_ (.slice Ao12 t1166.length co12) k_ ∧ no_ (.slice Ao18 t1180.length co18) k_ ∧ no_ (.slice Ao21 t1183.length co21) k_ ∧ no_ (.slice Ao44 t1196.length co44) k_ ∧ no_ (.slice Ao48 t1199.length co48) k_ ∧ some k_ ≠ (u1211000 : Value).ownBlock ∧ some k_ ≠ (u1211001 : Value).ownBlock) (.slice Ao14 t1169.length co14) t1169) ∧ Aside0 (Kd.R k45 45 w' w.heap.size (fun k_ => no_ (.slice Ao22 t1186.length co22) k_ ∧ no_ (.slice Ao49 t1202.length co49) k_ ∧ some k_ ≠ (u1211002 : Value).ownBlock) (.slice Ao15 t1172.length co15) t1172) ∧ Aside0 (Kd.R (Kd.int .i64) 3 w' w.heap.size (fun k_ => no_ (.slice Ao12 t1166.length co12) k_ ∧ no_ (.slice Ao14 t1169.length co14) k_ ∧ no_ (.slice Ao21 t1183.length co21) k_ ∧ no_ (.slice Ao44 t1196.length co44) k_ ∧ no_ (.slice Ao48 t1199.length co48) k_ ∧ some k_ ≠ (u1211000 : Value).ownBlock ∧ some k_ ≠ (u1211001 : Value).ownBlock) (.slice Ao18 t1180.length co18) t1180) ∧ Aside0 (Kd.R (Kd.int .i64) 3 w' w.heap.size (fun k_ => no_ (.slice Ao12 t1166.length co12) k_ ∧ no_ (.slice Ao14 t1169.length co14) k_ ∧ no_ (.slice Ao18 t1180.length co18) k_ ∧ no_ (.slice Ao44 t1196.length co44) k_ ∧ no_ (.slice Ao48 t1199.length co48) k_ ∧ some k_ ≠ (u1211000 : Value).ownBlock ∧ some k_ ≠ (u1211001 : Value).ownBlock) (.slice Ao21 t1183.length co21) t1183) ∧ Aside0 (Kd.R k45 45 w' w.heap.size (fun k_ => no_ (.slice Ao15 t1172.length co15) k_ ∧ no_ (.slice Ao49 t1202.length co49) k_ ∧ some k_ ≠ (u1211002 : Value).ownBlock) (.slice Ao22 t1186.length co22) t1186) ∧ Aside0 (Kd.R (Kd.int .i64) 3 w' w.heap.size (fun k_ => no_ (.slice Ao12 t1166.length co12) k_ ∧ no_ (.slice Ao14 t1169.length co14) k_ ∧ no_ (.slice Ao18 t1180.length co18) k_ ∧ no_ (.slice Ao21 t1183.length co21) k_ ∧ no_ (.slice Ao48 t1199.length co48) k_ ∧ some k_ ≠ (u1211001 : Value).ownBlock) (.slice Ao44 t1196.length co44) t1196) ∧ Aside0 (Kd.R (Kd.int .i64) 3 w' w.heap.size (fun k_ => no_ (.slice Ao12 t1166.length co12) k_ ∧ no_ (.slice Ao14 t1169.length co14) k_ ∧ no_ (.slice Ao18 t1180.length co18) k_ ∧ no_ (.slice Ao21 t1183.length co21) k_ ∧ no_ (.slice Ao44 t1196.length co44) k_ ∧ some k_ ≠ (u1211000 : Value).ownBlock) (.slice Ao48 t1199.length co48) t1199) ∧ Aside0 (Kd.R k45 45 w' w.heap.size (fun k_ => no_ (.slice Ao15 t1172.length co15) k_ ∧ no_ (.slice Ao22 t1186.length co22) k_) (.slice Ao49 t1202.length co49) t1202) ∧ Aside0 (Kd.R (Kd.int .i64) 3 w' w.heap.size (fun k_ => no_ (.slice Ao12 t1166.length co12) k_ ∧ no_ (.slice Ao14 t1169.length co14) k_ ∧ no_ (.slice Ao18 t1180.length co18) k_ ∧ no_ (.slice Ao21 t1183.length co21) k_ ∧ no_ (.slice Ao48 t1199.length co48) k_ ∧ some k_ ≠ (u1211001 : Value).ownBlock) u1211000 x1211000_3) ∧ Aside0 (Kd.R (Kd.int .i64) 3 w' w.heap.size (fun k_ => no_ (.slice Ao12 t1166.length co12) k_ ∧ no_ (.slice Ao14 t1169.length co14) k_ ∧ no_ (.slice Ao18 t1180.length co18) k_ ∧ no_ (.slice Ao21 t1183.length co21) k_ ∧ no_ (.slice Ao44 t1196.length co44) k_ ∧ some k_ ≠ (u1211000 : Value).ownBlock) u1211001 x1211001_3) ∧ Aside0 (Kd.R k45 45 w' w.heap.size (fun k_ => no_ (.slice Ao15 t1172.length co15) k_ ∧ no_ (.slice Ao22 t1186.length co22) k_) u1211002 x1211002_3) ∧ Aside0 (w'.heap[gb1179]? = some (.cells #[(.slice Ao12 t1166.length co12), (.slice Ao14 t1169.length co14), (.slice Ao15 t1172.length co15)] 35 (0, 0))) ∧ Aside0 (w'.heap[gb1193]? = some (.cells #[(.slice Ao18 t1180.length co18), (.slice Ao21 t1183.length co21), (.slice Ao22 t1186.length co22)] 35 (0, 0))) ∧ Aside0 (w'.heap[gb1206]? = some (.cells #[(.slice Ao44 t1196.length co44), (.slice Ao48 t1199.length co48), (.slice Ao49 t1202.length co49)] 35 (0, 0))) ∧ Aside0 (w'.heap[gb1210]? = some (.cells #[u1211000, u1211001, u1211002] 35 (0, 0))) ∧ Aside0 (Below w.heap.size w w'))
     case atStart => exact ⟨(0), (t1196), (t1199), (t1202), (.slice Ao44 t1196.length co44), (.slice Ao48 t1199.length co48), (.slice Ao49 t1202.length co49), (by first | rfl | (simp; done) | (simp [*]; done)), H', ⟨Nat.le_refl _⟩, ⟨by (with_reducible repeat (first | apply Kd.R_alloc | apply Kd.R_drewN | apply Kd.R_drew)); exact Kd.R_mono (fs3_ HO_1180000.out BK1210.out) (fun _ hk => ⟨hk.1.1, ⟨hk.1.2.1, ⟨hk.1.2.2.1, ⟨hk.1.2.2.2.1, ⟨hk.1.2.2.2.2, hk.1.2.2.2⟩⟩⟩⟩⟩)⟩, ⟨by (with_reducible repeat (first | apply Kd.R_alloc | apply Kd.R_drewN | apply Kd.R_drew)); exact Kd.R_mono (fs3_ HO_1180001.out BK1210.out) (fun _ hk => ⟨hk.1.1, ⟨hk.1.2.1, ⟨hk.1.2.2.1, ⟨hk.1.2.2.2.1, ⟨hk.1.2.2.2.2, hk.1.2.2.2⟩⟩⟩⟩⟩)⟩, ⟨by (with_reducible repeat (first | apply Kd.R_alloc | apply Kd.R_drewN | apply Kd.R_drew)); exact Kd.R_mono (fs3_ HO_1180002.out BK1210.out) (fun _ hk => ⟨hk.1.1, ⟨hk.1.2, hk.1.2⟩⟩)⟩, ⟨by (with_reducible repeat (first | apply Kd.R_alloc | apply Kd.R_drewN | apply Kd.R_drew)); exact Kd.R_mono (fs3_ HO_1194000.out BK1210.out) (fun _ hk => ⟨hk.1.1, ⟨hk.1.2.1, ⟨hk.1.2.2.1, ⟨hk.1.2.2.2.1, ⟨hk.1.2.2.2.2, hk.1.2.2.2⟩⟩⟩⟩⟩)⟩, ⟨by (with_reducible repeat (first | apply Kd.R_alloc | apply Kd.R_drewN | apply Kd.R_drew)); exact Kd.R_mono (fs3_ HO_1194001.out BK1210.out) (fun _ hk => ⟨hk.1.1, ⟨hk.1.2.1, ⟨hk.1.2.2.1, ⟨hk.1.2.2.2.1, ⟨hk.1.2.2.2.2, hk.1.2.2.2⟩⟩⟩⟩⟩)⟩, ⟨by (with_reducible repeat (first | apply Kd.R_alloc | apply Kd.R_drewN | apply Kd.R_drew)); exact Kd.R_mono (fs3_ HO_1194002.out BK1210.out) (fun _ hk => ⟨hk.1.1, ⟨hk.1.2, hk.1.2⟩⟩)⟩, ⟨by (with_reducible repeat (first | apply Kd.R_alloc | apply Kd.R_drewN | apply Kd.R_drew)); exact Kd.R_mono (fs3_ HO_1207000.out BK1210.out) (fun _ hk => ⟨hk.1.1, ⟨hk.1.2.1, ⟨hk.1.2.2.1, ⟨hk.1.2.2.2.1, ⟨hk.1.2.2.2.2, hk.1.2.2.2.2⟩⟩⟩⟩⟩)⟩, ⟨by (with_reducible repeat (first | apply Kd.R_alloc | apply Kd.R_drewN | apply Kd.R_drew)); exact Kd.R_mono (fs3_ HO_1207001.out BK1210.out) (fun _ hk => ⟨hk.1.1, ⟨hk.1.2.1, ⟨hk.1.2.2.1, ⟨hk.1.2.2.2.1, ⟨hk.1.2.2.2.2, hk.1.2.2.2.2⟩⟩⟩⟩⟩)⟩, ⟨by (with_reducible repeat (first | apply Kd.R_alloc | apply Kd.R_drewN | apply Kd.R_drew)); exact Kd.R_mono (fs3_ HO_1207002.out BK1210.out) (fun _ hk => hk.1)⟩, ⟨by (with_reducible repeat (first | apply Kd.R_alloc | apply Kd.R_drewN | apply Kd.R_drew)); exact Kd.R_mono (fs3_ HO_1207000.out BK1210.out) (fun _ hk => ⟨hk.1.1, ⟨hk.1.2.1, ⟨hk.1.2.2.1, ⟨hk.1.2.2.2.1, ⟨hk.1.2.2.2.2, hk.1.2.2.2.2⟩⟩⟩⟩⟩)⟩, ⟨by (with_reducible repeat (first | apply Kd.R_alloc | apply Kd.R_drewN | apply Kd.R_drew)); exact Kd.R_mono (fs3_ HO_1207001.out BK1210.out) (fun _ hk => ⟨hk.1.1, ⟨hk.1.2.1, ⟨hk.1.2.2.1, ⟨hk.1.2.2.2.1, ⟨hk.1.2.2.2.2, hk.1.2.2.2.2⟩⟩⟩⟩⟩)⟩, ⟨by (with_reducible repeat (first | apply Kd.R_alloc | apply Kd.R_drewN | apply Kd.R_drew)); exact Kd.R_mono (fs3_ HO_1207002.out BK1210.out) (fun _ hk => hk.1)⟩, ⟨by (with_reducible repeat (first | refine blk_drewN ?_ _ | refine blk_drew ?_ | refine blk_alloc ?_ _)); refine blk_far ?_ NB1179_1210.out _; (with_reducible repeat (first | refine blk_drewN ?_ _ | refine blk_drew ?_ | refine blk_alloc ?_ _)); refine blk_far ?_ NB1179_1210.out _; (with_reducible repeat (first | refine blk_drewN ?_ _ | refine blk_drew ?_ | refine blk_alloc ?_ _)); refine blk_far ?_ NB1179_1210.out _; (with_reducible repeat (first | refine blk_drewN ?_ _ | refine blk_drew ?_ | refine blk_alloc ?_ _)); exact BK1179.out⟩, ⟨by (with_reducible repeat (first | refine blk_drewN ?_ _ | refine blk_drew ?_ | refine blk_alloc ?_ _)); refine blk_far ?_ NB1193_1210.out _; (with_reducible repeat (first | refine blk_drewN ?_ _ | refine blk_drew ?_ | refine blk_alloc ?_ _)); refine blk_far ?_ NB1193_1210.out _; (with_reducible repeat (first | refine blk_drewN ?_ _ | refine blk_drew ?_ | refine blk_alloc ?_ _)); refine blk_far ?_ NB1193_1210.out _; (with_reducible repeat (first | refine blk_drewN ?_ _ | refine blk_drew ?_ | refine blk_alloc ?_ _)); exact BK1193.out⟩, ⟨by (with_reducible repeat (first | refine blk_drewN ?_ _ | refine blk_drew ?_ | refine blk_alloc ?_ _)); refine blk_far ?_ NB1206_1210.out _; (with_reducible repeat (first | refine blk_drewN ?_ _ | refine blk_drew ?_ | refine blk_alloc ?_ _)); refine blk_far ?_ NB1206_1210.out _; (with_reducible repeat (first | refine blk_drewN ?_ _ | refine blk_drew ?_ | refine blk_alloc ?_ _)); refine blk_far ?_ NB1206_1210.out _; (with_reducible repeat (first | refine blk_drewN ?_ _ | refine blk_drew ?_ | refine blk_alloc ?_ _)); exact BK1206.out⟩, ⟨by (with_reducible repeat (first | refine blk_drewN ?_ _ | refine blk_drew ?_ | refine blk_alloc ?_ _)); refine blk_put (cs := #[.slice Ao44 t1196.length co44, .slice Ao48 t1199.length co48, .slice none 0 0]) ?_ 2 _ rfl; (with_reducible repeat (first | refine blk_drewN ?_ _ | refine blk_drew ?_ | refine blk_alloc ?_ _)); refine blk_put (cs := #[.slice Ao44 t1196.length co44, .slice none 0 0, .slice none 0 0]) ?_ 1 _ rfl; (with_reducible repeat (first | refine blk_drewN ?_ _ | refine blk_drew ?_ | refine blk_alloc ?_ _)); refine blk_put (cs := #[.slice none 0 0, .slice none 0 0, .slice none 0 0]) ?_ 0 _ rfl; (with_reducible repeat (first | refine blk_drewN ?_ _ | refine blk_drew ?_ | refine blk_alloc ?_ _)); exact BK1210.out⟩, ⟨hB HB⟩⟩
     case round =>
      clear H'
      try clear c1
      try clear c3
      try clear c3b0
      try clear c35
      try clear c36
      try clear c71
      try clear hcz13_0
      try clear hcz13_1
      try clear hcz13_2
      try clear hcz20_0
      try clear hcz20_1
      try clear hcz20_2
      try clear hcz41_0
      try clear hcz41_1
      try clear hcz41_2
      try clear hcz47_0
      try clear hcz47_1
      try clear hcz47_2
      try clear hcz74_0
      try clear hcz74_1
      try clear hcz74_2
      try clear hcz79_0
      try clear hcz79_1
      try clear hcz79_2
      try clear hfz13_0
      try clear hfz13_1
      try clear hfz13_2
      try clear hfz20_0
      try clear hfz20_1
      try clear hfz20_2
      try clear hfz41_0
      try clear hfz41_1
      try clear hfz41_2
      try clear hfz47_0
      try clear hfz47_1
      try clear hfz47_2
      try clear hfz74_0
      try clear hfz74_1
      try clear hfz74_2
      try clear hfz79_0
      try clear hfz79_1
      try clear hfz79_2
      obtain ⟨x17_3, x1211000_3, x1211001_3, x1211002_3, u1211000, u1211001, u1211002, rfl, HA, HK3, HO_1180000, HO_1180001, HO_1180002, HO_1194000, HO_1194001, HO_1194002, HO_1207000, HO_1207001, HO_1207002, HO_1211000, HO_1211001, HO_1211002, BK1179, BK1193, BK1206, BK1210, HB⟩ := hrel
      cases gk with
      | zero => exact absurd HA.out (by simp [laws_FnPair.l0])
      | succ k3 =>
       have H := HA.out
       clear HA
       simp only [laws_FnPair.l0] at H
       by_cases c80 : x17_3 < 3
       rotate_left
       ·rw [if_neg c80] at H
        have c80b0 : decide (x17_3 < 3) = false := decide_eq_false c80
        clear c80
        obtain ⟨y1222, hy1222⟩ : ∃ y_ : List Int, y_ = (([0, 0] : List Int)) := ⟨_, rfl⟩
        replace H : ((laws_sameInts.f k3 x1211000_3 y1222).bind fun t1225 => (if t1225 = true then ((spec_DrawNextState.f l1).bind fun bt1226 => ((impl_NextState.f bt1226.1 bt1226.2).bind fun bt1228 => ((spec_NextState.f bt1226.1 bt1226.2).bind fun bt1230 => (if (bt1228.2 == bt1230.2) = true then (some (bt1228.1 == bt1230.1)) else (some false))))) else (some false))) = some r := by first | (rw [hy1222]; with_reducible exact H) | (have H2_ := (Option.bind_some _ _).symm.trans H; rw [hy1222]; with_reducible exact H2_) | (have H2_ := (Option.bind_some _ _).symm.trans H; with_reducible exact H2_) | with_reducible exact H | (rw [hy1222]; exact H) | exact H
        have Ny1222 := Aside0.mk hy1222
        clear hy1222
        replace H := Option.bind_eq_some_iff.mp H
        obtain ⟨t1225, A1180, H⟩ := H
        replace H : (if t1225 = true then ((spec_DrawNextState.f l1).bind fun bt1226 => ((impl_NextState.f bt1226.1 bt1226.2).bind fun bt1228 => ((spec_NextState.f bt1226.1 bt1226.2).bind fun bt1230 => (if (bt1228.2 == bt1230.2) = true then (some (bt1228.1 == bt1230.1)) else (some false))))) else (some false)) = some r := H
        have A118 := Aside0.mk A1180
        clear A1180
        by_cases c119 : t1225 = true
        rotate_left
        ·replace c119 := Bool.eq_false_iff.mpr c119
         subst c119
         rw [if_neg (show ¬ (false = true) by decide)] at H
         obtain rfl := Option.some.inj H
         have hnb142 := NB1210_1179.out
         have hnc142 := NB1179_1210.out
         have hnb143 := NB1210_1193.out
         have hnc143 := NB1193_1210.out
         have hnb144 := NB1210_1206.out
         have hnc144 := NB1206_1210.out
         have hcz145_0 : wr.cell? ⟨gb1210, 0, none⟩ = some (u1211000) := bc_ BK1210 0
         have hcz145_1 : wr.cell? ⟨gb1210, 1, none⟩ = some (u1211001) := bc_ BK1210 1
         have hcz145_2 : wr.cell? ⟨gb1210, 2, none⟩ = some (u1211002) := bc_ BK1210 2
         have hfz145_0 := blk_frozen BK1210.out 0
         have hfz145_1 := blk_frozen BK1210.out 1
         have hfz145_2 := blk_frozen BK1210.out 2
         go_wp2_with (first | ((with_reducible refine gate_dst (N := 103) rfl ?_); refine Kd.R_lit (Kd.int .i64) _ 3 ?hg (N := 103) ?hd (xs := ([0, 0] : List Int)) (inner := [.int .i64 0, .int .i64 0]) (ok := fun _ => True) (okp := fun _ => True) ?hr ?hp (fun _ hk => hk) trivial (Below.refl _ _) (Nat.le_refl _) (by simp) ?_; (case hd => rfl); (case hg => rfl); (case hr => first | (go_simp; done) | (go_simp; rfl)); (case hp => exact (Reps.one (show Kd.M (Kd.int .i64) _ _ _ 0 [.int .i64 0] from rfl) (Reps.one (show Kd.M (Kd.int .i64) _ _ _ 0 [.int .i64 0] from rfl) (Reps.none _ _)))); intro v1223 w146 ho147 hb hg_ hnew_; clear hg_ hnew_; (first | rw [← Ny1222.out] at ho147 | (simp only [Int.reduceToNat] at ho147; rw [← Ny1222.out] at ho147)); have HO1224 := Aside0.mk (Kd.R_lower (Kd.R_new' (Kd.R_new' (Kd.R_new' (Kd.R_new' (Kd.R_new' (Kd.R_new' (Kd.R_new' (Kd.R_new' ho147 (rl_ HO_1180000)) (rl_ HO_1180001)) (rl_ HO_1194000)) (rl_ HO_1194001)) (rl_ HO_1207000)) (rl_ HO_1207001)) (rl_ HO_1211000)) (rl_ HO_1211001)) (below_size (hB HB))); replace HO_1180000 := re_ HO_1180000 ho147 hb; replace HO_1180001 := re_ HO_1180001 ho147 hb; replace HO_1180002 := rb_ HO_1180002 hb; replace HO_1194000 := re_ HO_1194000 ho147 hb; replace HO_1194001 := re_ HO_1194001 ho147 hb; replace HO_1194002 := rb_ HO_1194002 hb; replace HO_1207000 := re_ HO_1207000 ho147 hb; replace HO_1207001 := re_ HO_1207001 ho147 hb; replace HO_1207002 := rb_ HO_1207002 hb; replace HO_1211000 := re_ HO_1211000 ho147 hb; replace HO_1211001 := re_ HO_1211001 ho147 hb; replace HO_1211002 := rb_ HO_1211002 hb; replace BK1179 := bb_ BK1179 hb; replace BK1193 := bb_ BK1193 hb; replace BK1206 := bb_ BK1206 hb; replace BK1210 := bb_ BK1210 hb; replace HB := bst_ HB hb; clear hb ho147; obtain ⟨Ao148, co148, eo148⟩ := Kd.R_slice HO_1211000.out; subst eo148; obtain ⟨Ao149, co149, eo149⟩ := Kd.R_slice HO1224.out; subst eo149) | ((with_reducible refine gate_callee (f := 35) rfl ?_); refine goesL_ (some 104) rfl rfl Try.func35 (by kernel_rfl) rfl #[.slice Ao148 x1211000_3.length co148, .slice Ao149 y1222.length co149] rfl tm_ ?_; (with_reducible refine (laws_sameInts.calls k3 _ _ x1211000_3 _ _ y1222 false _ ?side1 ?side2 ?side3 ?side4 A118.out).mono ?_); (case side1 => exact ca (Kd.R_reads' HO_1211000.out).2.2); (case side2 => exact (Kd.R_reads' HO_1211000.out).2.1); (case side3 => exact ca (Kd.R_reads' HO1224.out).2.2); (case side4 => exact (Kd.R_reads' HO1224.out).2.1); rintro e w' ⟨rfl, ⟨nd, rfl⟩⟩; refine ⟨_, rfl, ?_⟩))
         go_ret
         exact ⟨by first | rfl | (simp [errW_none, errW_some] <;> rfl) | (simp [*, errW_none, errW_some] <;> rfl), by repeat (first | (with_reducible first | exact HB.out | apply below_alloc | apply pw_below_drewN | apply below_drew1 | refine below_set ?_ GE1179.out | refine below_set ?_ GE1193.out | refine below_set ?_ GE1206.out | refine below_set ?_ GE1210.out) | exact HB.out)⟩
        subst c119
        rw [if_pos rfl] at H
        replace H := Option.bind_eq_some_iff.mp H
        obtain ⟨⟨t1226, t1227⟩, A1200, H⟩ := H
        replace H : ((impl_NextState.f t1226 t1227).bind fun bt1228 => ((spec_NextState.f t1226 t1227).bind fun bt1230 => (if (bt1228.2 == bt1230.2) = true then (some (bt1228.1 == bt1230.1)) else (some false)))) = some r := H
        have A120 := Aside0.mk A1200
        clear A1200
        replace H := Option.bind_eq_some_iff.mp H
        obtain ⟨⟨t1228, t1229⟩, A1210, H⟩ := H
        replace H : ((spec_NextState.f t1226 t1227).bind fun bt1230 => (if (t1229 == bt1230.2) = true then (some (t1228 == bt1230.1)) else (some false))) = some r := H
        have A121 := Aside0.mk A1210
        clear A1210
        replace H := Option.bind_eq_some_iff.mp H
        obtain ⟨⟨t1230, t1231⟩, A1220, H⟩ := H
        replace H : (if (t1229 == t1231) = true then (some (t1228 == t1230)) else (some false)) = some r := H
        have A122 := Aside0.mk A1220
        clear A1220
        by_cases c123 : (t1229 == t1231) = true
        ·rw [if_pos c123] at H
         have c123b0 : (t1229 == t1231) = true := c123
         (try (have c123b1 : decide (t1229 = t1231) = true := by simpa using c123))
         (try (have c123b2 : (t1229 == t1231) = true := by simpa using c123))
         clear c123
         obtain rfl := Option.some.inj H
         have hnb124 := NB1210_1179.out
         have hnc124 := NB1179_1210.out
         have hnb125 := NB1210_1193.out
         have hnc125 := NB1193_1210.out
         have hnb126 := NB1210_1206.out
         have hnc126 := NB1206_1210.out
         have hcz127_0 : wr.cell? ⟨gb1210, 0, none⟩ = some (u1211000) := bc_ BK1210 0
         have hcz127_1 : wr.cell? ⟨gb1210, 1, none⟩ = some (u1211001) := bc_ BK1210 1
         have hcz127_2 : wr.cell? ⟨gb1210, 2, none⟩ = some (u1211002) := bc_ BK1210 2
         have hfz127_0 := blk_frozen BK1210.out 0
         have hfz127_1 := blk_frozen BK1210.out 1
         have hfz127_2 := blk_frozen BK1210.out 2
         go_wp2_with (first | ((with_reducible refine gate_dst (N := 103) rfl ?_); refine Kd.R_lit (Kd.int .i64) _ 3 ?hg (N := 103) ?hd (xs := ([0, 0] : List Int)) (inner := [.int .i64 0, .int .i64 0]) (ok := fun _ => True) (okp := fun _ => True) ?hr ?hp (fun _ hk => hk) trivial (Below.refl _ _) (Nat.le_refl _) (by simp) ?_; (case hd => rfl); (case hg => rfl); (case hr => first | (go_simp; done) | (go_simp; rfl)); (case hp => exact (Reps.one (show Kd.M (Kd.int .i64) _ _ _ 0 [.int .i64 0] from rfl) (Reps.one (show Kd.M (Kd.int .i64) _ _ _ 0 [.int .i64 0] from rfl) (Reps.none _ _)))); intro v1223 w128 ho129 hb hg_ hnew_; clear hg_ hnew_; (first | rw [← Ny1222.out] at ho129 | (simp only [Int.reduceToNat] at ho129; rw [← Ny1222.out] at ho129)); have HO1224 := Aside0.mk (Kd.R_lower (Kd.R_new' (Kd.R_new' (Kd.R_new' (Kd.R_new' (Kd.R_new' (Kd.R_new' (Kd.R_new' (Kd.R_new' ho129 (rl_ HO_1180000)) (rl_ HO_1180001)) (rl_ HO_1194000)) (rl_ HO_1194001)) (rl_ HO_1207000)) (rl_ HO_1207001)) (rl_ HO_1211000)) (rl_ HO_1211001)) (below_size (hB HB))); replace HO_1180000 := re_ HO_1180000 ho129 hb; replace HO_1180001 := re_ HO_1180001 ho129 hb; replace HO_1180002 := rb_ HO_1180002 hb; replace HO_1194000 := re_ HO_1194000 ho129 hb; replace HO_1194001 := re_ HO_1194001 ho129 hb; replace HO_1194002 := rb_ HO_1194002 hb; replace HO_1207000 := re_ HO_1207000 ho129 hb; replace HO_1207001 := re_ HO_1207001 ho129 hb; replace HO_1207002 := rb_ HO_1207002 hb; replace HO_1211000 := re_ HO_1211000 ho129 hb; replace HO_1211001 := re_ HO_1211001 ho129 hb; replace HO_1211002 := rb_ HO_1211002 hb; replace BK1179 := bb_ BK1179 hb; replace BK1193 := bb_ BK1193 hb; replace BK1206 := bb_ BK1206 hb; replace BK1210 := bb_ BK1210 hb; replace HB := bst_ HB hb; clear hb ho129; obtain ⟨Ao130, co130, eo130⟩ := Kd.R_slice HO_1211000.out; subst eo130; obtain ⟨Ao131, co131, eo131⟩ := Kd.R_slice HO1224.out; subst eo131) | ((with_reducible refine gate_callee (f := 35) rfl ?_); refine goesL_ (some 104) rfl rfl Try.func35 (by kernel_rfl) rfl #[.slice Ao130 x1211000_3.length co130, .slice Ao131 y1222.length co131] rfl tm_ ?_; (with_reducible refine (laws_sameInts.calls k3 _ _ x1211000_3 _ _ y1222 true _ ?side1 ?side2 ?side3 ?side4 A118.out).mono ?_); (case side1 => exact ca (Kd.R_reads' HO_1211000.out).2.2); (case side2 => exact (Kd.R_reads' HO_1211000.out).2.1); (case side3 => exact ca (Kd.R_reads' HO1224.out).2.2); (case side4 => exact (Kd.R_reads' HO1224.out).2.1); rintro e w' ⟨rfl, ⟨nd, rfl⟩⟩; refine ⟨_, rfl, ?_⟩) | ((with_reducible refine gate_callee (f := 36) rfl ?_); refine goesL_ (some 108) rfl rfl Try.func36 (by kernel_rfl) rfl #[.slice A1 l1.length c1] rfl tm_ ?_; (with_reducible refine (spec_DrawNextState.calls _ _ l1 t1226 t1227 _ ?side1 ?side2 A120.out).mono ?_); (case side1 => exact ca (Kd.C_below HR1.out (hB HB))); (case side2 => exact HC1.out); rintro e w132 ⟨rfl, hb⟩; refine ⟨_, rfl, ?_⟩; replace HO_1180000 := rb_ HO_1180000 hb; replace HO_1180001 := rb_ HO_1180001 hb; replace HO_1180002 := rb_ HO_1180002 hb; replace HO_1194000 := rb_ HO_1194000 hb; replace HO_1194001 := rb_ HO_1194001 hb; replace HO_1194002 := rb_ HO_1194002 hb; replace HO_1207000 := rb_ HO_1207000 hb; replace HO_1207001 := rb_ HO_1207001 hb; replace HO_1207002 := rb_ HO_1207002 hb; replace HO_1211000 := rb_ HO_1211000 hb; replace HO_1211001 := rb_ HO_1211001 hb; replace HO_1211002 := rb_ HO_1211002 hb; replace HO1224 := rb_ HO1224 hb; replace BK1179 := bb_ BK1179 hb; replace BK1193 := bb_ BK1193 hb; replace BK1206 := bb_ BK1206 hb; replace BK1210 := bb_ BK1210 hb; replace HB := bst_ HB hb; clear hb) | ((with_reducible refine gate_callee (f := 37) rfl ?_); refine goesL_ (some 114) rfl rfl Try.func37 (by kernel_rfl) rfl #[.int .i64 t1226, .bool t1227] rfl tm_ ?_; (with_reducible refine (impl_NextState.calls t1226 t1227 t1228 t1229 _ A121.out).mono ?_); rintro e w' ⟨rfl, ⟨nd, rfl⟩⟩; refine ⟨_, rfl, ?_⟩) | ((with_reducible refine gate_callee (f := 38) rfl ?_); refine goesL_ (some 120) rfl rfl Try.func38 (by kernel_rfl) rfl #[.int .i64 t1226, .bool t1227] rfl tm_ ?_; (with_reducible refine (spec_NextState.calls t1226 t1227 t1230 t1231 _ A122.out).mono ?_); rintro e w' ⟨rfl, ⟨nd, rfl⟩⟩; refine ⟨_, rfl, ?_⟩))
         go_ret
         exact ⟨by first | rfl | (simp [errW_none, errW_some] <;> rfl) | (simp [*, errW_none, errW_some] <;> rfl), by repeat (first | (with_reducible first | exact HB.out | apply below_alloc | apply pw_below_drewN | apply below_drew1 | refine below_set ?_ GE1179.out | refine below_set ?_ GE1193.out | refine below_set ?_ GE1206.out | refine below_set ?_ GE1210.out) | exact HB.out)⟩
        rw [if_neg c123] at H
        have c123b0 : (t1229 == t1231) = false := by simpa using c123
        (try (have c123b1 : decide (t1229 = t1231) = false := by simpa using c123))
        (try (have c123b2 : (t1229 == t1231) = false := by simpa using c123))
        (try (have c123b3 : ¬ (t1229 = t1231) := by simpa using c123))
        clear c123
        obtain rfl := Option.some.inj H
        have hnb133 := NB1210_1179.out
        have hnc133 := NB1179_1210.out
        have hnb134 := NB1210_1193.out
        have hnc134 := NB1193_1210.out
        have hnb135 := NB1210_1206.out
        have hnc135 := NB1206_1210.out
        have hcz136_0 : wr.cell? ⟨gb1210, 0, none⟩ = some (u1211000) := bc_ BK1210 0
        have hcz136_1 : wr.cell? ⟨gb1210, 1, none⟩ = some (u1211001) := bc_ BK1210 1
        have hcz136_2 : wr.cell? ⟨gb1210, 2, none⟩ = some (u1211002) := bc_ BK1210 2
        have hfz136_0 := blk_frozen BK1210.out 0
        have hfz136_1 := blk_frozen BK1210.out 1
        have hfz136_2 := blk_frozen BK1210.out 2
        go_wp2_with (first | ((with_reducible refine gate_dst (N := 103) rfl ?_); refine Kd.R_lit (Kd.int .i64) _ 3 ?hg (N := 103) ?hd (xs := ([0, 0] : List Int)) (inner := [.int .i64 0, .int .i64 0]) (ok := fun _ => True) (okp := fun _ => True) ?hr ?hp (fun _ hk => hk) trivial (Below.refl _ _) (Nat.le_refl _) (by simp) ?_; (case hd => rfl); (case hg => rfl); (case hr => first | (go_simp; done) | (go_simp; rfl)); (case hp => exact (Reps.one (show Kd.M (Kd.int .i64) _ _ _ 0 [.int .i64 0] from rfl) (Reps.one (show Kd.M (Kd.int .i64) _ _ _ 0 [.int .i64 0] from rfl) (Reps.none _ _)))); intro v1223 w137 ho138 hb hg_ hnew_; clear hg_ hnew_; (first | rw [← Ny1222.out] at ho138 | (simp only [Int.reduceToNat] at ho138; rw [← Ny1222.out] at ho138)); have HO1224 := Aside0.mk (Kd.R_lower (Kd.R_new' (Kd.R_new' (Kd.R_new' (Kd.R_new' (Kd.R_new' (Kd.R_new' (Kd.R_new' (Kd.R_new' ho138 (rl_ HO_1180000)) (rl_ HO_1180001)) (rl_ HO_1194000)) (rl_ HO_1194001)) (rl_ HO_1207000)) (rl_ HO_1207001)) (rl_ HO_1211000)) (rl_ HO_1211001)) (below_size (hB HB))); replace HO_1180000 := re_ HO_1180000 ho138 hb; replace HO_1180001 := re_ HO_1180001 ho138 hb; replace HO_1180002 := rb_ HO_1180002 hb; replace HO_1194000 := re_ HO_1194000 ho138 hb; replace HO_1194001 := re_ HO_1194001 ho138 hb; replace HO_1194002 := rb_ HO_1194002 hb; replace HO_1207000 := re_ HO_1207000 ho138 hb; replace HO_1207001 := re_ HO_1207001 ho138 hb; replace HO_1207002 := rb_ HO_1207002 hb; replace HO_1211000 := re_ HO_1211000 ho138 hb; replace HO_1211001 := re_ HO_1211001 ho138 hb; replace HO_1211002 := rb_ HO_1211002 hb; replace BK1179 := bb_ BK1179 hb; replace BK1193 := bb_ BK1193 hb; replace BK1206 := bb_ BK1206 hb; replace BK1210 := bb_ BK1210 hb; replace HB := bst_ HB hb; clear hb ho138; obtain ⟨Ao139, co139, eo139⟩ := Kd.R_slice HO_1211000.out; subst eo139; obtain ⟨Ao140, co140, eo140⟩ := Kd.R_slice HO1224.out; subst eo140) | ((with_reducible refine gate_callee (f := 35) rfl ?_); refine goesL_ (some 104) rfl rfl Try.func35 (by kernel_rfl) rfl #[.slice Ao139 x1211000_3.length co139, .slice Ao140 y1222.length co140] rfl tm_ ?_; (with_reducible refine (laws_sameInts.calls k3 _ _ x1211000_3 _ _ y1222 true _ ?side1 ?side2 ?side3 ?side4 A118.out).mono ?_); (case side1 => exact ca (Kd.R_reads' HO_1211000.out).2.2); (case side2 => exact (Kd.R_reads' HO_1211000.out).2.1); (case side3 => exact ca (Kd.R_reads' HO1224.out).2.2); (case side4 => exact (Kd.R_reads' HO1224.out).2.1); rintro e w' ⟨rfl, ⟨nd, rfl⟩⟩; refine ⟨_, rfl, ?_⟩) | ((with_reducible refine gate_callee (f := 36) rfl ?_); refine goesL_ (some 108) rfl rfl Try.func36 (by kernel_rfl) rfl #[.slice A1 l1.length c1] rfl tm_ ?_; (with_reducible refine (spec_DrawNextState.calls _ _ l1 t1226 t1227 _ ?side1 ?side2 A120.out).mono ?_); (case side1 => exact ca (Kd.C_below HR1.out (hB HB))); (case side2 => exact HC1.out); rintro e w141 ⟨rfl, hb⟩; refine ⟨_, rfl, ?_⟩; replace HO_1180000 := rb_ HO_1180000 hb; replace HO_1180001 := rb_ HO_1180001 hb; replace HO_1180002 := rb_ HO_1180002 hb; replace HO_1194000 := rb_ HO_1194000 hb; replace HO_1194001 := rb_ HO_1194001 hb; replace HO_1194002 := rb_ HO_1194002 hb; replace HO_1207000 := rb_ HO_1207000 hb; replace HO_1207001 := rb_ HO_1207001 hb; replace HO_1207002 := rb_ HO_1207002 hb; replace HO_1211000 := rb_ HO_1211000 hb; replace HO_1211001 := rb_ HO_1211001 hb; replace HO_1211002 := rb_ HO_1211002 hb; replace HO1224 := rb_ HO1224 hb; replace BK1179 := bb_ BK1179 hb; replace BK1193 := bb_ BK1193 hb; replace BK1206 := bb_ BK1206 hb; replace BK1210 := bb_ BK1210 hb; replace HB := bst_ HB hb; clear hb) | ((with_reducible refine gate_callee (f := 37) rfl ?_); refine goesL_ (some 114) rfl rfl Try.func37 (by kernel_rfl) rfl #[.int .i64 t1226, .bool t1227] rfl tm_ ?_; (with_reducible refine (impl_NextState.calls t1226 t1227 t1228 t1229 _ A121.out).mono ?_); rintro e w' ⟨rfl, ⟨nd, rfl⟩⟩; refine ⟨_, rfl, ?_⟩) | ((with_reducible refine gate_callee (f := 38) rfl ?_); refine goesL_ (some 120) rfl rfl Try.func38 (by kernel_rfl) rfl #[.int .i64 t1226, .bool t1227] rfl tm_ ?_; (with_reducible refine (spec_NextState.calls t1226 t1227 t1230 t1231 _ A122.out).mono ?_); rintro e w' ⟨rfl, ⟨nd, rfl⟩⟩; refine ⟨_, rfl, ?_⟩))
        go_ret
        exact ⟨by first | rfl | (simp [errW_none, errW_some] <;> rfl) | (simp [*, errW_none, errW_some] <;> rfl), by repeat (first | (with_reducible first | exact HB.out | apply below_alloc | apply pw_below_drewN | apply below_drew1 | refine below_set ?_ GE1179.out | refine below_set ?_ GE1193.out | refine below_set ?_ GE1206.out | refine below_set ?_ GE1210.out) | exact HB.out)⟩
       rw [if_pos c80] at H
       have c80b0 : decide (x17_3 < 3) = true := decide_eq_true c80
       clear c80
       replace H := Option.bind_eq_some_iff.mp H
       obtain ⟨⟨t1211, t1214, t1217, t1220⟩, A810, H⟩ := H
       replace H : (if t1220 = true then (laws_FnPair.l0 k3 l1 (wrap64 (x17_3 + 1)) t1211 t1214 t1217) else (some false)) = some r := H
       have A81 := Aside0.mk A810
       clear A810
       by_cases c82 : t1220 = true
       rotate_left
       ·replace c82 := Bool.eq_false_iff.mpr c82
        subst c82
        rw [if_neg (show ¬ (false = true) by decide)] at H
        obtain rfl := Option.some.inj H
        have hnb101 := NB1210_1179.out
        have hnc101 := NB1179_1210.out
        have hnb102 := NB1210_1193.out
        have hnc102 := NB1193_1210.out
        have hnb103 := NB1210_1206.out
        have hnc103 := NB1206_1210.out
        have hcz104_0 : wr.cell? ⟨gb1210, 0, none⟩ = some (u1211000) := bc_ BK1210 0
        have hcz104_1 : wr.cell? ⟨gb1210, 1, none⟩ = some (u1211001) := bc_ BK1210 1
        have hcz104_2 : wr.cell? ⟨gb1210, 2, none⟩ = some (u1211002) := bc_ BK1210 2
        have hfz104_0 := blk_frozen BK1210.out 0
        have hfz104_1 := blk_frozen BK1210.out 1
        have hfz104_2 := blk_frozen BK1210.out 2
        obtain ⟨Ao105, co105, eo105⟩ := Kd.R_slice HO_1211000.out
        subst eo105
        obtain ⟨Ao106, co106, eo106⟩ := Kd.R_slice HO_1211001.out
        subst eo106
        obtain ⟨Ao107, co107, eo107⟩ := Kd.R_slice HO_1211002.out
        subst eo107
        go_wp2_with (first | ((with_reducible refine gate_callee (f := 18) rfl ?_); refine goesL_ (some 95) rfl rfl Try.func18 (by kernel_rfl) rfl #[.agg #[.slice Ao105 x1211000_3.length co105, .slice Ao106 x1211001_3.length co106, .slice Ao107 x1211002_3.length co107], .agg #[.int .i64 4, .int .i64 0]] rfl tm_ ?_; (with_reducible refine (impl_StepPair.calls k3 _ _ x1211000_3 _ _ x1211001_3 _ _ x1211002_3 4 0 t1211 t1214 t1217 false _ ?side1 ?side2 ?side3 ?side4 ?side5 ?side6 A81.out).mono ?_); (case side1 => exact ca (Kd.R_reads' HO_1211000.out).2.2); (case side2 => exact (Kd.R_reads' HO_1211000.out).2.1); (case side3 => exact ca (Kd.R_reads' HO_1211001.out).2.2); (case side4 => exact (Kd.R_reads' HO_1211001.out).2.1); (case side5 => exact ca (Kd.R_reads' HO_1211002.out).2.2); (case side6 => exact (Kd.R_reads' HO_1211002.out).2.1); rintro e w108 ⟨v1212, v1215, v1218, rfl, ho0, ho1, ho2, hb⟩; refine ⟨_, rfl, ?_⟩; have HO1213 := Aside0.mk (Kd.R_lower (Kd.R_new' (Kd.R_new' (Kd.R_new' (Kd.R_new' (Kd.R_new' (Kd.R_new' (Kd.R_new' (Kd.R_new' ho0 (rl_ HO_1180000)) (rl_ HO_1180001)) (rl_ HO_1194000)) (rl_ HO_1194001)) (rl_ HO_1207000)) (rl_ HO_1207001)) (rl_ HO_1211000)) (rl_ HO_1211001)) (below_size (hB HB))); have HO1216 := Aside0.mk (Kd.R_lower (Kd.R_new' (Kd.R_new' (Kd.R_new' (Kd.R_new' (Kd.R_new' (Kd.R_new' (Kd.R_new' (Kd.R_new' ho1 (rl_ HO_1180000)) (rl_ HO_1180001)) (rl_ HO_1194000)) (rl_ HO_1194001)) (rl_ HO_1207000)) (rl_ HO_1207001)) (rl_ HO_1211000)) (rl_ HO_1211001)) (below_size (hB HB))); have HO1219 := Aside0.mk (Kd.R_lower (Kd.R_new' (Kd.R_new' (Kd.R_new' (Kd.R_new' ho2 (rl_ HO_1180002)) (rl_ HO_1194002)) (rl_ HO_1207002)) (rl_ HO_1211002)) (below_size (hB HB))); replace HO_1180000 := rt2_ HO_1180000 hb ho0 ho1; replace HO_1180001 := rt2_ HO_1180001 hb ho0 ho1; replace HO_1180002 := re_ HO_1180002 ho2 hb; replace HO_1194000 := rt2_ HO_1194000 hb ho0 ho1; replace HO_1194001 := rt2_ HO_1194001 hb ho0 ho1; replace HO_1194002 := re_ HO_1194002 ho2 hb; replace HO_1207000 := rt2_ HO_1207000 hb ho0 ho1; replace HO_1207001 := rt2_ HO_1207001 hb ho0 ho1; replace HO_1207002 := re_ HO_1207002 ho2 hb; replace HO_1211000 := rt2_ HO_1211000 hb ho0 ho1; replace HO_1211001 := rt2_ HO_1211001 hb ho0 ho1; replace HO_1211002 := re_ HO_1211002 ho2 hb; replace BK1179 := bb_ BK1179 hb; replace BK1193 := bb_ BK1193 hb; replace BK1206 := bb_ BK1206 hb; replace BK1210 := bb_ BK1210 hb; replace HB := bst_ HB hb; clear hb ho0 ho1 ho2) | ((with_reducible refine gate_dst (N := 18) rfl ?_); refine box_event ?hg (N := 18) ?hd (cs := #[.slice none 0 0, .slice none 0 0, .slice none 0 0]) (t := 35) ?hr ?_; (case hd => rfl); (case hg => rfl); (case hr => first | (go_simp; done) | (go_simp; rfl)); intro gb1221 hg w109 hbox hb; have BK1221 := Aside0.mk (hbox); have GW1221 := gw_ hg HB; have GE1221 := gw_ hg HB; have NB1179_1221 := nl_ hg BK1179; have NB1221_1179 := ng_ hg BK1179; have NB1193_1221 := nl_ hg BK1193; have NB1221_1193 := ng_ hg BK1193; have NB1206_1221 := nl_ hg BK1206; have NB1221_1206 := ng_ hg BK1206; have NB1210_1221 := nl_ hg BK1210; have NB1221_1210 := ng_ hg BK1210; replace HO_1180000 := rb_ HO_1180000 hb; replace HO_1180001 := rb_ HO_1180001 hb; replace HO_1180002 := rb_ HO_1180002 hb; replace HO_1194000 := rb_ HO_1194000 hb; replace HO_1194001 := rb_ HO_1194001 hb; replace HO_1194002 := rb_ HO_1194002 hb; replace HO_1207000 := rb_ HO_1207000 hb; replace HO_1207001 := rb_ HO_1207001 hb; replace HO_1207002 := rb_ HO_1207002 hb; replace HO_1211000 := rb_ HO_1211000 hb; replace HO_1211001 := rb_ HO_1211001 hb; replace HO_1211002 := rb_ HO_1211002 hb; replace HO1213 := rb_ HO1213 hb; replace HO1216 := rb_ HO1216 hb; replace HO1219 := rb_ HO1219 hb; replace BK1179 := bb_ BK1179 hb; replace BK1193 := bb_ BK1193 hb; replace BK1206 := bb_ BK1206 hb; replace BK1210 := bb_ BK1210 hb; replace HB := bst_ HB hb; clear hb hbox hg; obtain ⟨Ao110, co110, eo110⟩ := Kd.R_slice HO1213.out; subst eo110; have hnb111 := NB1221_1179.out; have hnc111 := NB1179_1221.out; have hnb112 := NB1221_1193.out; have hnc112 := NB1193_1221.out; have hnb113 := NB1221_1206.out; have hnc113 := NB1206_1221.out; have hnb114 := NB1221_1210.out; have hnc114 := NB1210_1221.out; have hcz115_0 : w109.cell? ⟨gb1221, 0, none⟩ = some (.slice none 0 0) := bc_ BK1221 0; have hcz115_1 : w109.cell? ⟨gb1221, 1, none⟩ = some (.slice none 0 0) := bc_ BK1221 1; have hcz115_2 : w109.cell? ⟨gb1221, 2, none⟩ = some (.slice none 0 0) := bc_ BK1221 2; have hfz115_0 := blk_frozen BK1221.out 0; have hfz115_1 := blk_frozen BK1221.out 1; have hfz115_2 := blk_frozen BK1221.out 2; obtain ⟨Ao116, co116, eo116⟩ := Kd.R_slice HO1216.out; subst eo116; obtain ⟨Ao117, co117, eo117⟩ := Kd.R_slice HO1219.out; subst eo117))
        go_ret
        exact ⟨by first | rfl | (simp [errW_none, errW_some] <;> rfl) | (simp [*, errW_none, errW_some] <;> rfl), by repeat (first | (with_reducible first | exact HB.out | apply below_alloc | apply pw_below_drewN | apply below_drew1 | refine below_set ?_ GE1179.out | refine below_set ?_ GE1193.out | refine below_set ?_ GE1206.out | refine below_set ?_ GE1210.out | refine below_set ?_ GE1221.out) | exact HB.out)⟩
       subst c82
       rw [if_pos rfl] at H
       have H' := Aside0.mk H
       clear H
       have hnb83 := NB1210_1179.out
       have hnc83 := NB1179_1210.out
       have hnb84 := NB1210_1193.out
       have hnc84 := NB1193_1210.out
       have hnb85 := NB1210_1206.out
       have hnc85 := NB1206_1210.out
       have hcz86_0 : wr.cell? ⟨gb1210, 0, none⟩ = some (u1211000) := bc_ BK1210 0
       have hcz86_1 : wr.cell? ⟨gb1210, 1, none⟩ = some (u1211001) := bc_ BK1210 1
       have hcz86_2 : wr.cell? ⟨gb1210, 2, none⟩ = some (u1211002) := bc_ BK1210 2
       have hfz86_0 := blk_frozen BK1210.out 0
       have hfz86_1 := blk_frozen BK1210.out 1
       have hfz86_2 := blk_frozen BK1210.out 2
       obtain ⟨Ao87, co87, eo87⟩ := Kd.R_slice HO_1211000.out
       subst eo87
       obtain ⟨Ao88, co88, eo88⟩ := Kd.R_slice HO_1211001.out
       subst eo88
       obtain ⟨Ao89, co89, eo89⟩ := Kd.R_slice HO_1211002.out
       subst eo89
       go_wp2_with (first | ((with_reducible refine gate_callee (f := 18) rfl ?_); refine goesL_ (some 95) rfl rfl Try.func18 (by kernel_rfl) rfl #[.agg #[.slice Ao87 x1211000_3.length co87, .slice Ao88 x1211001_3.length co88, .slice Ao89 x1211002_3.length co89], .agg #[.int .i64 4, .int .i64 0]] rfl tm_ ?_; (with_reducible refine (impl_StepPair.calls k3 _ _ x1211000_3 _ _ x1211001_3 _ _ x1211002_3 4 0 t1211 t1214 t1217 true _ ?side1 ?side2 ?side3 ?side4 ?side5 ?side6 A81.out).mono ?_); (case side1 => exact ca (Kd.R_reads' HO_1211000.out).2.2); (case side2 => exact (Kd.R_reads' HO_1211000.out).2.1); (case side3 => exact ca (Kd.R_reads' HO_1211001.out).2.2); (case side4 => exact (Kd.R_reads' HO_1211001.out).2.1); (case side5 => exact ca (Kd.R_reads' HO_1211002.out).2.2); (case side6 => exact (Kd.R_reads' HO_1211002.out).2.1); rintro e w90 ⟨v1212, v1215, v1218, rfl, ho0, ho1, ho2, hb⟩; refine ⟨_, rfl, ?_⟩; have HO1213 := Aside0.mk (Kd.R_lower (Kd.R_new' (Kd.R_new' (Kd.R_new' (Kd.R_new' (Kd.R_new' (Kd.R_new' (Kd.R_new' (Kd.R_new' ho0 (rl_ HO_1180000)) (rl_ HO_1180001)) (rl_ HO_1194000)) (rl_ HO_1194001)) (rl_ HO_1207000)) (rl_ HO_1207001)) (rl_ HO_1211000)) (rl_ HO_1211001)) (below_size (hB HB))); have HO1216 := Aside0.mk (Kd.R_lower (Kd.R_new' (Kd.R_new' (Kd.R_new' (Kd.R_new' (Kd.R_new' (Kd.R_new' (Kd.R_new' (Kd.R_new' ho1 (rl_ HO_1180000)) (rl_ HO_1180001)) (rl_ HO_1194000)) (rl_ HO_1194001)) (rl_ HO_1207000)) (rl_ HO_1207001)) (rl_ HO_1211000)) (rl_ HO_1211001)) (below_size (hB HB))); have HO1219 := Aside0.mk (Kd.R_lower (Kd.R_new' (Kd.R_new' (Kd.R_new' (Kd.R_new' ho2 (rl_ HO_1180002)) (rl_ HO_1194002)) (rl_ HO_1207002)) (rl_ HO_1211002)) (below_size (hB HB))); replace HO_1180000 := rt2_ HO_1180000 hb ho0 ho1; replace HO_1180001 := rt2_ HO_1180001 hb ho0 ho1; replace HO_1180002 := re_ HO_1180002 ho2 hb; replace HO_1194000 := rt2_ HO_1194000 hb ho0 ho1; replace HO_1194001 := rt2_ HO_1194001 hb ho0 ho1; replace HO_1194002 := re_ HO_1194002 ho2 hb; replace HO_1207000 := rt2_ HO_1207000 hb ho0 ho1; replace HO_1207001 := rt2_ HO_1207001 hb ho0 ho1; replace HO_1207002 := re_ HO_1207002 ho2 hb; replace HO_1211000 := rt2_ HO_1211000 hb ho0 ho1; replace HO_1211001 := rt2_ HO_1211001 hb ho0 ho1; replace HO_1211002 := re_ HO_1211002 ho2 hb; replace BK1179 := bb_ BK1179 hb; replace BK1193 := bb_ BK1193 hb; replace BK1206 := bb_ BK1206 hb; replace BK1210 := bb_ BK1210 hb; replace HB := bst_ HB hb; clear hb ho0 ho1 ho2) | ((with_reducible refine gate_dst (N := 18) rfl ?_); refine box_event ?hg (N := 18) ?hd (cs := #[.slice none 0 0, .slice none 0 0, .slice none 0 0]) (t := 35) ?hr ?_; (case hd => rfl); (case hg => rfl); (case hr => first | (go_simp; done) | (go_simp; rfl)); intro gb1221 hg w91 hbox hb; have BK1221 := Aside0.mk (hbox); have GW1221 := gw_ hg HB; have GE1221 := gw_ hg HB; have NB1179_1221 := nl_ hg BK1179; have NB1221_1179 := ng_ hg BK1179; have NB1193_1221 := nl_ hg BK1193; have NB1221_1193 := ng_ hg BK1193; have NB1206_1221 := nl_ hg BK1206; have NB1221_1206 := ng_ hg BK1206; have NB1210_1221 := nl_ hg BK1210; have NB1221_1210 := ng_ hg BK1210; replace HO_1180000 := rb_ HO_1180000 hb; replace HO_1180001 := rb_ HO_1180001 hb; replace HO_1180002 := rb_ HO_1180002 hb; replace HO_1194000 := rb_ HO_1194000 hb; replace HO_1194001 := rb_ HO_1194001 hb; replace HO_1194002 := rb_ HO_1194002 hb; replace HO_1207000 := rb_ HO_1207000 hb; replace HO_1207001 := rb_ HO_1207001 hb; replace HO_1207002 := rb_ HO_1207002 hb; replace HO_1211000 := rb_ HO_1211000 hb; replace HO_1211001 := rb_ HO_1211001 hb; replace HO_1211002 := rb_ HO_1211002 hb; replace HO1213 := rb_ HO1213 hb; replace HO1216 := rb_ HO1216 hb; replace HO1219 := rb_ HO1219 hb; replace BK1179 := bb_ BK1179 hb; replace BK1193 := bb_ BK1193 hb; replace BK1206 := bb_ BK1206 hb; replace BK1210 := bb_ BK1210 hb; replace HB := bst_ HB hb; clear hb hbox hg; obtain ⟨Ao92, co92, eo92⟩ := Kd.R_slice HO1213.out; subst eo92; have hnb93 := NB1221_1179.out; have hnc93 := NB1179_1221.out; have hnb94 := NB1221_1193.out; have hnc94 := NB1193_1221.out; have hnb95 := NB1221_1206.out; have hnc95 := NB1206_1221.out; have hnb96 := NB1221_1210.out; have hnc96 := NB1210_1221.out; have hcz97_0 : w91.cell? ⟨gb1221, 0, none⟩ = some (.slice none 0 0) := bc_ BK1221 0; have hcz97_1 : w91.cell? ⟨gb1221, 1, none⟩ = some (.slice none 0 0) := bc_ BK1221 1; have hcz97_2 : w91.cell? ⟨gb1221, 2, none⟩ = some (.slice none 0 0) := bc_ BK1221 2; have hfz97_0 := blk_frozen BK1221.out 0; have hfz97_1 := blk_frozen BK1221.out 1; have hfz97_2 := blk_frozen BK1221.out 2; obtain ⟨Ao98, co98, eo98⟩ := Kd.R_slice HO1216.out; subst eo98; obtain ⟨Ao99, co99, eo99⟩ := Kd.R_slice HO1219.out; subst eo99; have hcz100_0 : w91.cell? ⟨gb1210, 0, none⟩ = some (.slice Ao87 x1211000_3.length co87) := bc_ BK1210 0; have hcz100_1 : w91.cell? ⟨gb1210, 1, none⟩ = some (.slice Ao88 x1211001_3.length co88) := bc_ BK1210 1; have hcz100_2 : w91.cell? ⟨gb1210, 2, none⟩ = some (.slice Ao89 x1211002_3.length co89) := bc_ BK1210 2; have hfz100_0 := blk_frozen BK1210.out 0; have hfz100_1 := blk_frozen BK1210.out 1; have hfz100_2 := blk_frozen BK1210.out 2))
       go_roundg k3
       case measure => have := HJ6.out; have := HJ38.out; have := HK3.out; omega
       case rel => exact ⟨(wrap64 (x17_3 + 1)), (t1211), (t1214), (t1217), (.slice Ao92 t1211.length co92), (.slice Ao98 t1214.length co98), (.slice Ao99 t1217.length co99), (by first | rfl | (simp; done) | (simp [*]; done)), H', ⟨by have := HJ6.out; have := HJ38.out; have := HK3.out; omega⟩, ⟨by (with_reducible repeat (first | apply Kd.R_alloc | apply Kd.R_drewN | apply Kd.R_drew)); exact Kd.R_mono (Kd.R_far (p := ⟨gb1210, 2, none⟩) (Kd.R_far (p := ⟨gb1210, 1, none⟩) (Kd.R_far (p := ⟨gb1210, 0, none⟩) (Kd.R_far (p := ⟨gb1221, 2, none⟩) (Kd.R_far (p := ⟨gb1221, 1, none⟩) (Kd.R_far (p := ⟨gb1221, 0, none⟩) (Kd.R_types (Kd.R_types HO_1180000.out BK1221.out (by decide)) BK1210.out (by decide)) (fun _ hk => hk.1.2) (.slice Ao92 t1211.length co92)) (fun _ hk => hk.1.2) (.slice Ao98 t1214.length co98)) (fun _ hk => hk.1.2) (.slice Ao99 t1217.length co99)) (fun _ hk => hk.2) (.slice Ao92 t1211.length co92)) (fun _ hk => hk.2) (.slice Ao98 t1214.length co98)) (fun _ hk => hk.2) (.slice Ao99 t1217.length co99)) (fun _ hk => laws_FnPair.cj_ hk)⟩, ⟨by (with_reducible repeat (first | apply Kd.R_alloc | apply Kd.R_drewN | apply Kd.R_drew)); exact Kd.R_mono (Kd.R_far (p := ⟨gb1210, 2, none⟩) (Kd.R_far (p := ⟨gb1210, 1, none⟩) (Kd.R_far (p := ⟨gb1210, 0, none⟩) (Kd.R_far (p := ⟨gb1221, 2, none⟩) (Kd.R_far (p := ⟨gb1221, 1, none⟩) (Kd.R_far (p := ⟨gb1221, 0, none⟩) (Kd.R_types (Kd.R_types HO_1180001.out BK1221.out (by decide)) BK1210.out (by decide)) (fun _ hk => hk.1.2) (.slice Ao92 t1211.length co92)) (fun _ hk => hk.1.2) (.slice Ao98 t1214.length co98)) (fun _ hk => hk.1.2) (.slice Ao99 t1217.length co99)) (fun _ hk => hk.2) (.slice Ao92 t1211.length co92)) (fun _ hk => hk.2) (.slice Ao98 t1214.length co98)) (fun _ hk => hk.2) (.slice Ao99 t1217.length co99)) (fun _ hk => laws_FnPair.cj_ hk)⟩, ⟨by (with_reducible repeat (first | apply Kd.R_alloc | apply Kd.R_drewN | apply Kd.R_drew)); exact Kd.R_mono (Kd.R_far (p := ⟨gb1210, 2, none⟩) (Kd.R_far (p := ⟨gb1210, 1, none⟩) (Kd.R_far (p := ⟨gb1210, 0, none⟩) (Kd.R_far (p := ⟨gb1221, 2, none⟩) (Kd.R_far (p := ⟨gb1221, 1, none⟩) (Kd.R_far (p := ⟨gb1221, 0, none⟩) (Kd.R_types (Kd.R_types HO_1180002.out BK1221.out (by decide)) BK1210.out (by decide)) (fun _ hk => hk.1.2) (.slice Ao92 t1211.length co92)) (fun _ hk => hk.1.2) (.slice Ao98 t1214.length co98)) (fun _ hk => hk.1.2) (.slice Ao99 t1217.length co99)) (fun _ hk => hk.2) (.slice Ao92 t1211.length co92)) (fun _ hk => hk.2) (.slice Ao98 t1214.length co98)) (fun _ hk => hk.2) (.slice Ao99 t1217.length co99)) (fun _ hk => laws_FnPair.cj_ hk)⟩, ⟨by (with_reducible repeat (first | apply Kd.R_alloc | apply Kd.R_drewN | apply Kd.R_drew)); exact Kd.R_mono (Kd.R_far (p := ⟨gb1210, 2, none⟩) (Kd.R_far (p := ⟨gb1210, 1, none⟩) (Kd.R_far (p := ⟨gb1210, 0, none⟩) (Kd.R_far (p := ⟨gb1221, 2, none⟩) (Kd.R_far (p := ⟨gb1221, 1, none⟩) (Kd.R_far (p := ⟨gb1221, 0, none⟩) (Kd.R_types (Kd.R_types HO_1194000.out BK1221.out (by decide)) BK1210.out (by decide)) (fun _ hk => hk.1.2) (.slice Ao92 t1211.length co92)) (fun _ hk => hk.1.2) (.slice Ao98 t1214.length co98)) (fun _ hk => hk.1.2) (.slice Ao99 t1217.length co99)) (fun _ hk => hk.2) (.slice Ao92 t1211.length co92)) (fun _ hk => hk.2) (.slice Ao98 t1214.length co98)) (fun _ hk => hk.2) (.slice Ao99 t1217.length co99)) (fun _ hk => laws_FnPair.cj_ hk)⟩, ⟨by (with_reducible repeat (first | apply Kd.R_alloc | apply Kd.R_drewN | apply Kd.R_drew)); exact Kd.R_mono (Kd.R_far (p := ⟨gb1210, 2, none⟩) (Kd.R_far (p := ⟨gb1210, 1, none⟩) (Kd.R_far (p := ⟨gb1210, 0, none⟩) (Kd.R_far (p := ⟨gb1221, 2, none⟩) (Kd.R_far (p := ⟨gb1221, 1, none⟩) (Kd.R_far (p := ⟨gb1221, 0, none⟩) (Kd.R_types (Kd.R_types HO_1194001.out BK1221.out (by decide)) BK1210.out (by decide)) (fun _ hk => hk.1.2) (.slice Ao92 t1211.length co92)) (fun _ hk => hk.1.2) (.slice Ao98 t1214.length co98)) (fun _ hk => hk.1.2) (.slice Ao99 t1217.length co99)) (fun _ hk => hk.2) (.slice Ao92 t1211.length co92)) (fun _ hk => hk.2) (.slice Ao98 t1214.length co98)) (fun _ hk => hk.2) (.slice Ao99 t1217.length co99)) (fun _ hk => laws_FnPair.cj_ hk)⟩, ⟨by (with_reducible repeat (first | apply Kd.R_alloc | apply Kd.R_drewN | apply Kd.R_drew)); exact Kd.R_mono (Kd.R_far (p := ⟨gb1210, 2, none⟩) (Kd.R_far (p := ⟨gb1210, 1, none⟩) (Kd.R_far (p := ⟨gb1210, 0, none⟩) (Kd.R_far (p := ⟨gb1221, 2, none⟩) (Kd.R_far (p := ⟨gb1221, 1, none⟩) (Kd.R_far (p := ⟨gb1221, 0, none⟩) (Kd.R_types (Kd.R_types HO_1194002.out BK1221.out (by decide)) BK1210.out (by decide)) (fun _ hk => hk.1.2) (.slice Ao92 t1211.length co92)) (fun _ hk => hk.1.2) (.slice Ao98 t1214.length co98)) (fun _ hk => hk.1.2) (.slice Ao99 t1217.length co99)) (fun _ hk => hk.2) (.slice Ao92 t1211.length co92)) (fun _ hk => hk.2) (.slice Ao98 t1214.length co98)) (fun _ hk => hk.2) (.slice Ao99 t1217.length co99)) (fun _ hk => laws_FnPair.cj_ hk)⟩, ⟨by (with_reducible repeat (first | apply Kd.R_alloc | apply Kd.R_drewN | apply Kd.R_drew)); exact Kd.R_mono (Kd.R_far (p := ⟨gb1210, 2, none⟩) (Kd.R_far (p := ⟨gb1210, 1, none⟩) (Kd.R_far (p := ⟨gb1210, 0, none⟩) (Kd.R_far (p := ⟨gb1221, 2, none⟩) (Kd.R_far (p := ⟨gb1221, 1, none⟩) (Kd.R_far (p := ⟨gb1221, 0, none⟩) (Kd.R_types (Kd.R_types HO_1207000.out BK1221.out (by decide)) BK1210.out (by decide)) (fun _ hk => hk.1.2) (.slice Ao92 t1211.length co92)) (fun _ hk => hk.1.2) (.slice Ao98 t1214.length co98)) (fun _ hk => hk.1.2) (.slice Ao99 t1217.length co99)) (fun _ hk => hk.2) (.slice Ao92 t1211.length co92)) (fun _ hk => hk.2) (.slice Ao98 t1214.length co98)) (fun _ hk => hk.2) (.slice Ao99 t1217.length co99)) (fun _ hk => laws_FnPair.cj_ hk)⟩, ⟨by (with_reducible repeat (first | apply Kd.R_alloc | apply Kd.R_drewN | apply Kd.R_drew)); exact Kd.R_mono (Kd.R_far (p := ⟨gb1210, 2, none⟩) (Kd.R_far (p := ⟨gb1210, 1, none⟩) (Kd.R_far (p := ⟨gb1210, 0, none⟩) (Kd.R_far (p := ⟨gb1221, 2, none⟩) (Kd.R_far (p := ⟨gb1221, 1, none⟩) (Kd.R_far (p := ⟨gb1221, 0, none⟩) (Kd.R_types (Kd.R_types HO_1207001.out BK1221.out (by decide)) BK1210.out (by decide)) (fun _ hk => hk.1.2) (.slice Ao92 t1211.length co92)) (fun _ hk => hk.1.2) (.slice Ao98 t1214.length co98)) (fun _ hk => hk.1.2) (.slice Ao99 t1217.length co99)) (fun _ hk => hk.2) (.slice Ao92 t1211.length co92)) (fun _ hk => hk.2) (.slice Ao98 t1214.length co98)) (fun _ hk => hk.2) (.slice Ao99 t1217.length co99)) (fun _ hk => laws_FnPair.cj_ hk)⟩, ⟨by (with_reducible repeat (first | apply Kd.R_alloc | apply Kd.R_drewN | apply Kd.R_drew)); exact Kd.R_mono (Kd.R_far (p := ⟨gb1210, 2, none⟩) (Kd.R_far (p := ⟨gb1210, 1, none⟩) (Kd.R_far (p := ⟨gb1210, 0, none⟩) (Kd.R_far (p := ⟨gb1221, 2, none⟩) (Kd.R_far (p := ⟨gb1221, 1, none⟩) (Kd.R_far (p := ⟨gb1221, 0, none⟩) (Kd.R_types (Kd.R_types HO_1207002.out BK1221.out (by decide)) BK1210.out (by decide)) (fun _ hk => hk.1.2) (.slice Ao92 t1211.length co92)) (fun _ hk => hk.1.2) (.slice Ao98 t1214.length co98)) (fun _ hk => hk.1.2) (.slice Ao99 t1217.length co99)) (fun _ hk => hk.2) (.slice Ao92 t1211.length co92)) (fun _ hk => hk.2) (.slice Ao98 t1214.length co98)) (fun _ hk => hk.2) (.slice Ao99 t1217.length co99)) (fun _ hk => laws_FnPair.cj_ hk)⟩, ⟨by (with_reducible repeat (first | apply Kd.R_alloc | apply Kd.R_drewN | apply Kd.R_drew)); exact Kd.R_mono (Kd.R_far (p := ⟨gb1210, 2, none⟩) (Kd.R_far (p := ⟨gb1210, 1, none⟩) (Kd.R_far (p := ⟨gb1210, 0, none⟩) (Kd.R_far (p := ⟨gb1221, 2, none⟩) (Kd.R_far (p := ⟨gb1221, 1, none⟩) (Kd.R_far (p := ⟨gb1221, 0, none⟩) (Kd.R_types (Kd.R_types HO1213.out BK1221.out (by decide)) BK1210.out (by decide)) (fun _ hk => hk.1.2) (.slice Ao92 t1211.length co92)) (fun _ hk => hk.1.2) (.slice Ao98 t1214.length co98)) (fun _ hk => hk.1.2) (.slice Ao99 t1217.length co99)) (fun _ hk => hk.2) (.slice Ao92 t1211.length co92)) (fun _ hk => hk.2) (.slice Ao98 t1214.length co98)) (fun _ hk => hk.2) (.slice Ao99 t1217.length co99)) (fun _ hk => laws_FnPair.cj_ hk)⟩, ⟨by (with_reducible repeat (first | apply Kd.R_alloc | apply Kd.R_drewN | apply Kd.R_drew)); exact Kd.R_mono (Kd.R_far (p := ⟨gb1210, 2, none⟩) (Kd.R_far (p := ⟨gb1210, 1, none⟩) (Kd.R_far (p := ⟨gb1210, 0, none⟩) (Kd.R_far (p := ⟨gb1221, 2, none⟩) (Kd.R_far (p := ⟨gb1221, 1, none⟩) (Kd.R_far (p := ⟨gb1221, 0, none⟩) (Kd.R_types (Kd.R_types HO1216.out BK1221.out (by decide)) BK1210.out (by decide)) (fun _ hk => hk.1.2) (.slice Ao92 t1211.length co92)) (fun _ hk => hk.1.2) (.slice Ao98 t1214.length co98)) (fun _ hk => hk.1.2) (.slice Ao99 t1217.length co99)) (fun _ hk => hk.2) (.slice Ao92 t1211.length co92)) (fun _ hk => hk.2) (.slice Ao98 t1214.length co98)) (fun _ hk => hk.2) (.slice Ao99 t1217.length co99)) (fun _ hk => laws_FnPair.cj_ hk)⟩, ⟨by (with_reducible repeat (first | apply Kd.R_alloc | apply Kd.R_drewN | apply Kd.R_drew)); exact Kd.R_mono (Kd.R_far (p := ⟨gb1210, 2, none⟩) (Kd.R_far (p := ⟨gb1210, 1, none⟩) (Kd.R_far (p := ⟨gb1210, 0, none⟩) (Kd.R_far (p := ⟨gb1221, 2, none⟩) (Kd.R_far (p := ⟨gb1221, 1, none⟩) (Kd.R_far (p := ⟨gb1221, 0, none⟩) (Kd.R_types (Kd.R_types HO1219.out BK1221.out (by decide)) BK1210.out (by decide)) (fun _ hk => hk.1.2) (.slice Ao92 t1211.length co92)) (fun _ hk => hk.1.2) (.slice Ao98 t1214.length co98)) (fun _ hk => hk.1.2) (.slice Ao99 t1217.length co99)) (fun _ hk => hk.2) (.slice Ao92 t1211.length co92)) (fun _ hk => hk.2) (.slice Ao98 t1214.length co98)) (fun _ hk => hk.2) (.slice Ao99 t1217.length co99)) (fun _ hk => laws_FnPair.cj_ hk)⟩, ⟨by (with_reducible repeat (first | refine blk_drewN ?_ _ | refine blk_drew ?_ | refine blk_alloc ?_ _)); refine blk_far ?_ NB1179_1210.out _; (with_reducible repeat (first | refine blk_drewN ?_ _ | refine blk_drew ?_ | refine blk_alloc ?_ _)); refine blk_far ?_ NB1179_1210.out _; (with_reducible repeat (first | refine blk_drewN ?_ _ | refine blk_drew ?_ | refine blk_alloc ?_ _)); refine blk_far ?_ NB1179_1210.out _; (with_reducible repeat (first | refine blk_drewN ?_ _ | refine blk_drew ?_ | refine blk_alloc ?_ _)); refine blk_far ?_ NB1179_1221.out _; (with_reducible repeat (first | refine blk_drewN ?_ _ | refine blk_drew ?_ | refine blk_alloc ?_ _)); refine blk_far ?_ NB1179_1221.out _; (with_reducible repeat (first | refine blk_drewN ?_ _ | refine blk_drew ?_ | refine blk_alloc ?_ _)); refine blk_far ?_ NB1179_1221.out _; (with_reducible repeat (first | refine blk_drewN ?_ _ | refine blk_drew ?_ | refine blk_alloc ?_ _)); exact BK1179.out⟩, ⟨by (with_reducible repeat (first | refine blk_drewN ?_ _ | refine blk_drew ?_ | refine blk_alloc ?_ _)); refine blk_far ?_ NB1193_1210.out _; (with_reducible repeat (first | refine blk_drewN ?_ _ | refine blk_drew ?_ | refine blk_alloc ?_ _)); refine blk_far ?_ NB1193_1210.out _; (with_reducible repeat (first | refine blk_drewN ?_ _ | refine blk_drew ?_ | refine blk_alloc ?_ _)); refine blk_far ?_ NB1193_1210.out _; (with_reducible repeat (first | refine blk_drewN ?_ _ | refine blk_drew ?_ | refine blk_alloc ?_ _)); refine blk_far ?_ NB1193_1221.out _; (with_reducible repeat (first | refine blk_drewN ?_ _ | refine blk_drew ?_ | refine blk_alloc ?_ _)); refine blk_far ?_ NB1193_1221.out _; (with_reducible repeat (first | refine blk_drewN ?_ _ | refine blk_drew ?_ | refine blk_alloc ?_ _)); refine blk_far ?_ NB1193_1221.out _; (with_reducible repeat (first | refine blk_drewN ?_ _ | refine blk_drew ?_ | refine blk_alloc ?_ _)); exact BK1193.out⟩, ⟨by (with_reducible repeat (first | refine blk_drewN ?_ _ | refine blk_drew ?_ | refine blk_alloc ?_ _)); refine blk_far ?_ NB1206_1210.out _; (with_reducible repeat (first | refine blk_drewN ?_ _ | refine blk_drew ?_ | refine blk_alloc ?_ _)); refine blk_far ?_ NB1206_1210.out _; (with_reducible repeat (first | refine blk_drewN ?_ _ | refine blk_drew ?_ | refine blk_alloc ?_ _)); refine blk_far ?_ NB1206_1210.out _; (with_reducible repeat (first | refine blk_drewN ?_ _ | refine blk_drew ?_ | refine blk_alloc ?_ _)); refine blk_far ?_ NB1206_1221.out _; (with_reducible repeat (first | refine blk_drewN ?_ _ | refine blk_drew ?_ | refine blk_alloc ?_ _)); refine blk_far ?_ NB1206_1221.out _; (with_reducible repeat (first | refine blk_drewN ?_ _ | refine blk_drew ?_ | refine blk_alloc ?_ _)); refine blk_far ?_ NB1206_1221.out _; (with_reducible repeat (first | refine blk_drewN ?_ _ | refine blk_drew ?_ | refine blk_alloc ?_ _)); exact BK1206.out⟩, ⟨by (with_reducible repeat (first | refine blk_drewN ?_ _ | refine blk_drew ?_ | refine blk_alloc ?_ _)); refine blk_put (cs := #[.slice Ao92 t1211.length co92, .slice Ao98 t1214.length co98, .slice Ao89 x1211002_3.length co89]) ?_ 2 _ rfl; (with_reducible repeat (first | refine blk_drewN ?_ _ | refine blk_drew ?_ | refine blk_alloc ?_ _)); refine blk_put (cs := #[.slice Ao92 t1211.length co92, .slice Ao88 x1211001_3.length co88, .slice Ao89 x1211002_3.length co89]) ?_ 1 _ rfl; (with_reducible repeat (first | refine blk_drewN ?_ _ | refine blk_drew ?_ | refine blk_alloc ?_ _)); refine blk_put (cs := #[.slice Ao87 x1211000_3.length co87, .slice Ao88 x1211001_3.length co88, .slice Ao89 x1211002_3.length co89]) ?_ 0 _ rfl; (with_reducible repeat (first | refine blk_drewN ?_ _ | refine blk_drew ?_ | refine blk_alloc ?_ _)); refine blk_far ?_ NB1210_1221.out _; (with_reducible repeat (first | refine blk_drewN ?_ _ | refine blk_drew ?_ | refine blk_alloc ?_ _)); refine blk_far ?_ NB1210_1221.out _; (with_reducible repeat (first | refine blk_drewN ?_ _ | refine blk_drew ?_ | refine blk_alloc ?_ _)); refine blk_far ?_ NB1210_1221.out _; (with_reducible repeat (first | refine blk_drewN ?_ _ | refine blk_drew ?_ | refine blk_alloc ?_ _)); exact BK1210.out⟩, ⟨hB HB⟩⟩

/-- THE ONE PURE STATEMENT of laws_FnPair: yours. -/
def laws_FnPair.Pure : Prop := ∀ (l0 : List Int) (l1 : List Int), l0.length ≤ maxLen → l0.length * 1 ≤ 140737488351232 → (∀ x ∈ l0, (Lit.int .u8 x).wf = true) → l1.length ≤ maxLen → l1.length * 1 ≤ 140737488351232 → (∀ x ∈ l1, (Lit.int .u8 x).wf = true) → ∃ k, laws_FnPair.f k l0 l1 = some true
theorem laws_FnPair.walk (P : laws_FnPair.Pure) (a0 : Option Addr) (len0 cap0 : Nat) (z0 : List Int) (a1 : Option Addr) (len1 cap1 : Nat) (z1 : List Int) (w : World) (w0 : (a0 = none ∧ len0 = 0 ∧ cap0 = 0 ∧ z0 = []) ∨ ∃ x, a0 = some x ∧ len0 ≤ cap0 ∧ cap0 ≤ maxLen ∧ z0.length = cap0 ∧ (∀ i, i < z0.length → w.cell? (x.add i) = some (.int .u8 (z0.getD i 0))) ∧ ∀ n ∈ z0, (Lit.int .u8 n).wf = true) (y0 : len0 * 1 ≤ 140737488351232) (w1 : (a1 = none ∧ len1 = 0 ∧ cap1 = 0 ∧ z1 = []) ∨ ∃ x, a1 = some x ∧ len1 ≤ cap1 ∧ cap1 ≤ maxLen ∧ z1.length = cap1 ∧ (∀ i, i < z1.length → w.cell? (x.add i) = some (.int .u8 (z1.getD i 0))) ∧ ∀ n ∈ z1, (Lit.int .u8 n).wf = true) (y1 : len1 * 1 ≤ 140737488351232) :
  Calls Try.prog 5 #[.slice a0 len0 cap0, .slice a1 len1 cap1] w fun e w' => e = .returned (.bool true) ∧ Below w.heap.size w w' := by
 obtain ⟨l0, rfl, hr0, hm0, hw0, hc0⟩ := ReadsInt.ofRowC w0
 obtain ⟨l1, rfl, hr1, hm1, hw1, hc1⟩ := ReadsInt.ofRowC w1
 obtain ⟨k, h⟩ := P l0 l1 hm0 y0 hw0 hm1 y1 hw1
 refine (laws_FnPair.calls k _ _ l0 _ _ l1 true w (Kd.C_of_reads (d := (0 : Int)) (h1 := fun _ => rfl) hr0) hc0 (Kd.C_of_reads (d := (0 : Int)) (h1 := fun _ => rfl) hr1) hc1 h).mono ?_
 rintro e w' ⟨rfl, hd⟩
 exact ⟨rfl, hd⟩

end Go.Proofs.Ytfkjnpgpofcinaa.P
