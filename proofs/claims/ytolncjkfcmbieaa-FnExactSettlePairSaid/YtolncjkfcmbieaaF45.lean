import Derived.Test.YtolncjkfcmbieaaF0
import Derived.Test.YtolncjkfcmbieaaF38
import Derived.Test.YtolncjkfcmbieaaF40
import Derived.Test.YtolncjkfcmbieaaF44
namespace Go.Proofs.Ytolncjkfcmbieaa.P
open Go.RowKit Go.Proofs.YtolncjkfcmbieaaW.PrintWords Go.Proofs.YtolncjkfcmbieaaW.PrintLast Go.Proofs.YtolncjkfcmbieaaW.PrintMore
attribute [local go_sem] max2_int min2_int max_two min_two max_three min_three max_four min_four   -- for this text's walks alone
set_option linter.unusedVariables false
set_option linter.unusedSimpArgs false

mutual
def laws_FnExactSettlePair.j0 : Nat → Bool → Bool → Bool → List Int → List Int → List (S188) → List Int → List Int → List (S127) → List Int → List Int → List (S127) → List Int → List Int → List (S127) → Option (Bool)
 | 0, _, _, _, _, _, _, _, _, _, _, _, _, _, _, _ => none
 | k + 1, x5, x8, x40, x1000000, x1000001, x1000002, x1021000, x1021001, x1021002, x1031000, x1031001, x1031002, x1042000, x1042001, x1042002 => if x40 = true then (some false) else ((laws_toPair.f k x1000000 x1000001 x1000002).bind fun bt1043 => ((laws_eqPair.f k x1031000 x1031001 x1031002 bt1043.1 bt1043.2.1 bt1043.2.2).bind fun t1052 => (if t1052 = true then ((laws_markPair.f k x1031000 x1031001 x1031002 1).bind fun bt1053 => (if bt1053.1 < 0 then (laws_FnExactSettlePair.j1 k x5 true x1000000 x1000001 x1000002 x1021000 x1021001 x1021002 x1042000 x1042001 x1042002) else ((laws_eqPair.f k x1042000 x1042001 x1042002 x1021000 x1021001 x1021002).bind fun t1057 => (if t1057 = true then (laws_FnExactSettlePair.j1 k x5 (x8 != x5) x1000000 x1000001 x1000002 x1021000 x1021001 x1021002 x1042000 x1042001 x1042002) else (laws_FnExactSettlePair.j1 k x5 true x1000000 x1000001 x1000002 x1021000 x1021001 x1021002 x1042000 x1042001 x1042002))))) else (some false))))
def laws_FnExactSettlePair.j1 : Nat → Bool → Bool → List Int → List Int → List (S188) → List Int → List Int → List (S127) → List Int → List Int → List (S127) → Option (Bool)
 | 0, _, _, _, _, _, _, _, _, _, _, _ => none
 | k + 1, x5, x61, x1000000, x1000001, x1000002, x1021000, x1021001, x1021002, x1042000, x1042001, x1042002 => if x61 = true then (some false) else ((laws_markPair.f k x1042000 x1042001 x1042002 1).bind fun bt1058 => ((laws_heldPair.f k bt1058.2.1 bt1058.2.2.1 bt1058.2.2.2 1).bind fun t1062 => (if t1062 < 0 then (some false) else (if t1062 = bt1058.1 then ((laws_toPair.f k x1000000 x1000001 x1000002).bind fun bt1063 => ((impl_SettlePair.f k bt1063.1 bt1063.2.1 bt1063.2.2).bind fun bt1072 => ((laws_eqPair.f k bt1072.1 bt1072.2.1 bt1072.2.2.1 x1021000 x1021001 x1021002).bind fun t1083 => (if t1083 = true then (laws_FnExactSettlePair.j2 k bt1058.1 (bt1072.2.2.2 != x5) bt1058.2.1 bt1058.2.2.1 bt1058.2.2.2) else (laws_FnExactSettlePair.j2 k bt1058.1 true bt1058.2.1 bt1058.2.2.1 bt1058.2.2.2))))) else (some false)))))
def laws_FnExactSettlePair.j2 : Nat → Int → Bool → List Int → List Int → List (S127) → Option (Bool)
 | 0, _, _, _, _, _ => none
 | k + 1, x10, x87, x1042000, x1042001, x1042002 => if x87 = true then (some false) else ((laws_heldPair.f k x1042000 x1042001 x1042002 1).bind fun t1084 => (if t1084 < 0 then (some false) else (if t1084 = x10 then (some true) else (some false))))
end
def laws_FnExactSettlePair.f (k : Nat) (l0_0 : List Int) (l0_1 : List Int) (l0_2 : List (S188)) : Option (Bool) := (laws_szPair.f l0_0 l0_1 l0_2 1048576).bind fun t1000 => (if t1000 < 0 then (some true) else ((laws_toPair.f k l0_0 l0_1 l0_2).bind fun bt1001 => ((spec_SettlePair.f k bt1001.1 bt1001.2.1 bt1001.2.2).bind fun bt1010 => ((laws_toPair.f k l0_0 l0_1 l0_2).bind fun bt1021 => ((impl_SettlePair.f k bt1021.1 bt1021.2.1 bt1021.2.2).bind fun bt1031 => ((laws_eqPair.f k bt1031.1 bt1031.2.1 bt1031.2.2.1 bt1010.1 bt1010.2.1 bt1010.2.2.1).bind fun t1042 => (if t1042 = true then (laws_FnExactSettlePair.j0 k bt1010.2.2.2 bt1031.2.2.2 (bt1031.2.2.2 != bt1010.2.2.2) l0_0 l0_1 l0_2 bt1010.1 bt1010.2.1 bt1010.2.2.1 bt1021.1 bt1021.2.1 bt1021.2.2 bt1031.1 bt1031.2.1 bt1031.2.2.1) else (laws_FnExactSettlePair.j0 k bt1010.2.2.2 bt1031.2.2.2 true l0_0 l0_1 l0_2 bt1010.1 bt1010.2.1 bt1010.2.2.1 bt1021.1 bt1021.2.1 bt1021.2.2 bt1031.1 bt1031.2.1 bt1031.2.2.1))))))))
theorem laws_FnExactSettlePair.mono_l : ∀ k, (∀ y0 y1 y2 y3 y4 y5 y6 y7 y8 y9 y10 y11 y12 y13 y14, LeO (laws_FnExactSettlePair.j0 k y0 y1 y2 y3 y4 y5 y6 y7 y8 y9 y10 y11 y12 y13 y14) (laws_FnExactSettlePair.j0 (k + 1) y0 y1 y2 y3 y4 y5 y6 y7 y8 y9 y10 y11 y12 y13 y14)) ∧ (∀ y0 y1 y2 y3 y4 y5 y6 y7 y8 y9 y10, LeO (laws_FnExactSettlePair.j1 k y0 y1 y2 y3 y4 y5 y6 y7 y8 y9 y10) (laws_FnExactSettlePair.j1 (k + 1) y0 y1 y2 y3 y4 y5 y6 y7 y8 y9 y10)) ∧ (∀ y0 y1 y2 y3 y4, LeO (laws_FnExactSettlePair.j2 k y0 y1 y2 y3 y4) (laws_FnExactSettlePair.j2 (k + 1) y0 y1 y2 y3 y4))
 | 0 => ⟨fun _ _ _ _ _ _ _ _ _ _ _ _ _ _ _ r h => by simp [laws_FnExactSettlePair.j0] at h, fun _ _ _ _ _ _ _ _ _ _ _ r h => by simp [laws_FnExactSettlePair.j1] at h, fun _ _ _ _ _ r h => by simp [laws_FnExactSettlePair.j2] at h⟩
 | k + 1 => by
  obtain ⟨ih0, ih1, ih2⟩ := laws_FnExactSettlePair.mono_l k
  refine ⟨?_, ?_, ?_⟩
  ·intro y0 y1 y2 y3 y4 y5 y6 y7 y8 y9 y10 y11 y12 y13 y14
   unfold laws_FnExactSettlePair.j0
   repeat' first
   | (with_reducible exact ih0 _ _ _ _ _ _ _ _ _ _ _ _ _ _ _)
   | (with_reducible exact ih1 _ _ _ _ _ _ _ _ _ _ _)
   | (with_reducible exact ih2 _ _ _ _ _)
   | (with_reducible exact impl_SettlePair.mono _ _ _ _)
   | (with_reducible exact laws_eqPair.mono _ _ _ _ _ _ _)
   | (with_reducible exact laws_heldPair.mono _ _ _ _ _)
   | (with_reducible exact laws_markPair.mono _ _ _ _ _)
   | (with_reducible exact laws_toPair.mono _ _ _ _)
   | (with_reducible exact spec_SettlePair.mono _ _ _ _)
   | (with_reducible exact LeO.refl _)
   | (with_reducible exact LeO.none _)
   | (with_reducible refine LeO.ite ?_ ?_)
   | (with_reducible refine LeO.bind ?_ (fun _ => ?_))
  ·intro y0 y1 y2 y3 y4 y5 y6 y7 y8 y9 y10
   unfold laws_FnExactSettlePair.j1
   repeat' first
   | (with_reducible exact ih0 _ _ _ _ _ _ _ _ _ _ _ _ _ _ _)
   | (with_reducible exact ih1 _ _ _ _ _ _ _ _ _ _ _)
   | (with_reducible exact ih2 _ _ _ _ _)
   | (with_reducible exact impl_SettlePair.mono _ _ _ _)
   | (with_reducible exact laws_eqPair.mono _ _ _ _ _ _ _)
   | (with_reducible exact laws_heldPair.mono _ _ _ _ _)
   | (with_reducible exact laws_markPair.mono _ _ _ _ _)
   | (with_reducible exact laws_toPair.mono _ _ _ _)
   | (with_reducible exact spec_SettlePair.mono _ _ _ _)
   | (with_reducible exact LeO.refl _)
   | (with_reducible exact LeO.none _)
   | (with_reducible refine LeO.ite ?_ ?_)
   | (with_reducible refine LeO.bind ?_ (fun _ => ?_))
  ·intro y0 y1 y2 y3 y4
   unfold laws_FnExactSettlePair.j2
   repeat' first
   | (with_reducible exact ih0 _ _ _ _ _ _ _ _ _ _ _ _ _ _ _)
   | (with_reducible exact ih1 _ _ _ _ _ _ _ _ _ _ _)
   | (with_reducible exact ih2 _ _ _ _ _)
   | (with_reducible exact impl_SettlePair.mono _ _ _ _)
   | (with_reducible exact laws_eqPair.mono _ _ _ _ _ _ _)
   | (with_reducible exact laws_heldPair.mono _ _ _ _ _)
   | (with_reducible exact laws_markPair.mono _ _ _ _ _)
   | (with_reducible exact laws_toPair.mono _ _ _ _)
   | (with_reducible exact spec_SettlePair.mono _ _ _ _)
   | (with_reducible exact LeO.refl _)
   | (with_reducible exact LeO.none _)
   | (with_reducible refine LeO.ite ?_ ?_)
   | (with_reducible refine LeO.bind ?_ (fun _ => ?_))
theorem laws_FnExactSettlePair.mono : ∀ a0 a1 a2 k, LeO (laws_FnExactSettlePair.f k a0 a1 a2) (laws_FnExactSettlePair.f (k + 1) a0 a1 a2) := by
 intro a0 a1 a2 k
 obtain ⟨ih0, ih1, ih2⟩ := laws_FnExactSettlePair.mono_l k
 unfold laws_FnExactSettlePair.f
 repeat' first
   | (with_reducible exact ih0 _ _ _ _ _ _ _ _ _ _ _ _ _ _ _)
   | (with_reducible exact ih1 _ _ _ _ _ _ _ _ _ _ _)
   | (with_reducible exact ih2 _ _ _ _ _)
   | (with_reducible exact impl_SettlePair.mono _ _ _ _)
   | (with_reducible exact laws_eqPair.mono _ _ _ _ _ _ _)
   | (with_reducible exact laws_heldPair.mono _ _ _ _ _)
   | (with_reducible exact laws_markPair.mono _ _ _ _ _)
   | (with_reducible exact laws_toPair.mono _ _ _ _)
   | (with_reducible exact spec_SettlePair.mono _ _ _ _)
   | (with_reducible exact LeO.refl _)
   | (with_reducible exact LeO.none _)
   | (with_reducible refine LeO.ite ?_ ?_)
   | (with_reducible refine LeO.bind ?_ (fun _ => ?_))
set_option maxHeartbeats 8000000 in
set_option maxRecDepth 100000 in
theorem laws_FnExactSettlePair.calls (k : Nat) (A0_0 : Option Addr) (c0_0 : Nat) (l0_0 : List Int) (A0_1 : Option Addr) (c0_1 : Nat) (l0_1 : List Int) (A0_2 : Option Addr) (c0_2 : Nat) (l0_2 : List (S188)) (r : Bool) (w : World) (hr0_0 : Kd.C (Kd.int .i64) w A0_0 l0_0.length l0_0) (hc0_0 : l0_0.length ≤ c0_0) (hr0_1 : Kd.C (Kd.int .i64) w A0_1 l0_1.length l0_1) (hc0_1 : l0_1.length ≤ c0_1) (hr0_2 : Kd.C k188 w A0_2 l0_2.length l0_2) (hc0_2 : l0_2.length ≤ c0_2) (h : laws_FnExactSettlePair.f k l0_0 l0_1 l0_2 = some r) :
  Calls Try.prog 7 #[.agg #[.slice A0_0 l0_0.length c0_0, .slice A0_1 l0_1.length c0_1, .slice A0_2 l0_2.length c0_2]] w fun e w' => e = .returned (.bool r) ∧ Below w.heap.size w w' := by
 have hu41 := Try.underlying41
 have hu47 := Try.underlying47
 have HR0_0 := Aside0.mk hr0_0
 have HC0_0 := Aside0.mk hc0_0
 clear hr0_0 hc0_0
 have HR0_1 := Aside0.mk hr0_1
 have HC0_1 := Aside0.mk hc0_1
 clear hr0_1 hc0_1
 have HR0_2 := Aside0.mk hr0_2
 have HC0_2 := Aside0.mk hc0_2
 clear hr0_2 hc0_2
 have HB := Aside0.mk (Below.refl w.heap.size w)
 have H : ((laws_szPair.f l0_0 l0_1 l0_2 1048576).bind fun t1000 => (if t1000 < 0 then (some true) else ((laws_toPair.f k l0_0 l0_1 l0_2).bind fun bt1001 => ((spec_SettlePair.f k bt1001.1 bt1001.2.1 bt1001.2.2).bind fun bt1010 => ((laws_toPair.f k l0_0 l0_1 l0_2).bind fun bt1021 => ((impl_SettlePair.f k bt1021.1 bt1021.2.1 bt1021.2.2).bind fun bt1031 => ((laws_eqPair.f k bt1031.1 bt1031.2.1 bt1031.2.2.1 bt1010.1 bt1010.2.1 bt1010.2.2.1).bind fun t1042 => (if t1042 = true then (laws_FnExactSettlePair.j0 k bt1010.2.2.2 bt1031.2.2.2 (bt1031.2.2.2 != bt1010.2.2.2) l0_0 l0_1 l0_2 bt1010.1 bt1010.2.1 bt1010.2.2.1 bt1021.1 bt1021.2.1 bt1021.2.2 bt1031.1 bt1031.2.1 bt1031.2.2.1) else (laws_FnExactSettlePair.j0 k bt1010.2.2.2 bt1031.2.2.2 true l0_0 l0_1 l0_2 bt1010.1 bt1010.2.1 bt1010.2.2.1 bt1021.1 bt1021.2.1 bt1021.2.2 bt1031.1 bt1031.2.1 bt1031.2.2.1))))))))) = some r := h
 clear h
 replace H := Option.bind_eq_some_iff.mp H
 obtain ⟨t1000, A20, H⟩ := H
 replace H : (if t1000 < 0 then (some true) else ((laws_toPair.f k l0_0 l0_1 l0_2).bind fun bt1001 => ((spec_SettlePair.f k bt1001.1 bt1001.2.1 bt1001.2.2).bind fun bt1010 => ((laws_toPair.f k l0_0 l0_1 l0_2).bind fun bt1021 => ((impl_SettlePair.f k bt1021.1 bt1021.2.1 bt1021.2.2).bind fun bt1031 => ((laws_eqPair.f k bt1031.1 bt1031.2.1 bt1031.2.2.1 bt1010.1 bt1010.2.1 bt1010.2.2.1).bind fun t1042 => (if t1042 = true then (laws_FnExactSettlePair.j0 k bt1010.2.2.2 bt1031.2.2.2 (bt1031.2.2.2 != bt1010.2.2.2) l0_0 l0_1 l0_2 bt1010.1 bt1010.2.1 bt1010.2.2.1 bt1021.1 bt1021.2.1 bt1021.2.2 bt1031.1 bt1031.2.1 bt1031.2.2.1) else (laws_FnExactSettlePair.j0 k bt1010.2.2.2 bt1031.2.2.2 true l0_0 l0_1 l0_2 bt1010.1 bt1010.2.1 bt1010.2.2.1 bt1021.1 bt1021.2.1 bt1021.2.2 bt1031.1 bt1031.2.1 bt1031.2.2.1)))))))) = some r := H
 have A2 := Aside0.mk A20
 clear A20
 by_cases c3 : t1000 < 0
 ·rw [if_pos c3] at H
  have c3b0 : decide (t1000 < 0) = true := decide_eq_true c3
  clear c3
  obtain rfl := Option.some.inj H
  go_enter Try.func7, Try.ntmps7
  go_wp2_with (first | ((with_reducible refine gate_dst (N := 1) rfl ?_); refine box_event ?hg (N := 1) ?hd (cs := #[.slice A0_0 l0_0.length c0_0, .slice A0_1 l0_1.length c0_1, .slice A0_2 l0_2.length c0_2]) (t := 41) ?hr ?_; (case hd => rfl); (case hg => rfl); (case hr => first | (go_simp; done) | (go_simp; rfl)); intro gb999 hg w4 hbox hb; have BK999 := Aside0.mk (hbox); have GW999 := gw_ hg HB; have GE999 := gw_ hg HB; replace HB := bst_ HB hb; clear hb hbox hg; have hcz5_0 : w4.cell? ⟨gb999, 0, none⟩ = some (.slice A0_0 l0_0.length c0_0) := bc_ BK999 0; have hcz5_1 : w4.cell? ⟨gb999, 1, none⟩ = some (.slice A0_1 l0_1.length c0_1) := bc_ BK999 1; have hcz5_2 : w4.cell? ⟨gb999, 2, none⟩ = some (.slice A0_2 l0_2.length c0_2) := bc_ BK999 2; have hfz5_0 := blk_frozen BK999.out 0; have hfz5_1 := blk_frozen BK999.out 1; have hfz5_2 := blk_frozen BK999.out 2) | ((with_reducible refine gate_callee (f := 29) rfl ?_); refine goesL_ (some 16) rfl rfl Try.func29 (by kernel_rfl) rfl #[.agg #[.slice A0_0 l0_0.length c0_0, .slice A0_1 l0_1.length c0_1, .slice A0_2 l0_2.length c0_2], .int .i64 1048576] rfl tm_ ?_; (with_reducible refine (laws_szPair.calls _ _ l0_0 _ _ l0_1 _ _ l0_2 1048576 t1000 _ ?side1 ?side2 ?side3 ?side4 ?side5 ?side6 A2.out).mono ?_); (case side1 => exact ca (Kd.C_below HR0_0.out HB.out)); (case side2 => exact HC0_0.out); (case side3 => exact ca (Kd.C_below HR0_1.out HB.out)); (case side4 => exact HC0_1.out); (case side5 => exact ca (Kd.C_below HR0_2.out HB.out)); (case side6 => exact HC0_2.out); rintro e w6 ⟨rfl, hb⟩; refine ⟨_, rfl, ?_⟩; replace BK999 := bb_ BK999 hb; replace HB := bst_ HB hb; clear hb))
  go_ret
  exact ⟨by first | rfl | (simp [errW_none, errW_some] <;> rfl) | (simp [*, errW_none, errW_some] <;> rfl), by repeat (first | (with_reducible first | exact HB.out | apply below_alloc | apply pw_below_drewN | apply below_drew1 | refine below_set ?_ GE999.out) | exact HB.out)⟩
 rw [if_neg c3] at H
 have c3b0 : decide (t1000 < 0) = false := decide_eq_false c3
 clear c3
 replace H := Option.bind_eq_some_iff.mp H
 obtain ⟨⟨t1001, t1004, t1007⟩, A70, H⟩ := H
 replace H : ((spec_SettlePair.f k t1001 t1004 t1007).bind fun bt1010 => ((laws_toPair.f k l0_0 l0_1 l0_2).bind fun bt1021 => ((impl_SettlePair.f k bt1021.1 bt1021.2.1 bt1021.2.2).bind fun bt1031 => ((laws_eqPair.f k bt1031.1 bt1031.2.1 bt1031.2.2.1 bt1010.1 bt1010.2.1 bt1010.2.2.1).bind fun t1042 => (if t1042 = true then (laws_FnExactSettlePair.j0 k bt1010.2.2.2 bt1031.2.2.2 (bt1031.2.2.2 != bt1010.2.2.2) l0_0 l0_1 l0_2 bt1010.1 bt1010.2.1 bt1010.2.2.1 bt1021.1 bt1021.2.1 bt1021.2.2 bt1031.1 bt1031.2.1 bt1031.2.2.1) else (laws_FnExactSettlePair.j0 k bt1010.2.2.2 bt1031.2.2.2 true l0_0 l0_1 l0_2 bt1010.1 bt1010.2.1 bt1010.2.2.1 bt1021.1 bt1021.2.1 bt1021.2.2 bt1031.1 bt1031.2.1 bt1031.2.2.1)))))) = some r := H
 have A7 := Aside0.mk A70
 clear A70
 replace H := Option.bind_eq_some_iff.mp H
 obtain ⟨⟨t1010, t1013, t1016, t1019⟩, A80, H⟩ := H
 replace H : ((laws_toPair.f k l0_0 l0_1 l0_2).bind fun bt1021 => ((impl_SettlePair.f k bt1021.1 bt1021.2.1 bt1021.2.2).bind fun bt1031 => ((laws_eqPair.f k bt1031.1 bt1031.2.1 bt1031.2.2.1 t1010 t1013 t1016).bind fun t1042 => (if t1042 = true then (laws_FnExactSettlePair.j0 k t1019 bt1031.2.2.2 (bt1031.2.2.2 != t1019) l0_0 l0_1 l0_2 t1010 t1013 t1016 bt1021.1 bt1021.2.1 bt1021.2.2 bt1031.1 bt1031.2.1 bt1031.2.2.1) else (laws_FnExactSettlePair.j0 k t1019 bt1031.2.2.2 true l0_0 l0_1 l0_2 t1010 t1013 t1016 bt1021.1 bt1021.2.1 bt1021.2.2 bt1031.1 bt1031.2.1 bt1031.2.2.1))))) = some r := H
 have A8 := Aside0.mk A80
 clear A80
 replace H := Option.bind_eq_some_iff.mp H
 obtain ⟨⟨t1021, t1024, t1027⟩, A90, H⟩ := H
 replace H : ((impl_SettlePair.f k t1021 t1024 t1027).bind fun bt1031 => ((laws_eqPair.f k bt1031.1 bt1031.2.1 bt1031.2.2.1 t1010 t1013 t1016).bind fun t1042 => (if t1042 = true then (laws_FnExactSettlePair.j0 k t1019 bt1031.2.2.2 (bt1031.2.2.2 != t1019) l0_0 l0_1 l0_2 t1010 t1013 t1016 t1021 t1024 t1027 bt1031.1 bt1031.2.1 bt1031.2.2.1) else (laws_FnExactSettlePair.j0 k t1019 bt1031.2.2.2 true l0_0 l0_1 l0_2 t1010 t1013 t1016 t1021 t1024 t1027 bt1031.1 bt1031.2.1 bt1031.2.2.1)))) = some r := H
 have A9 := Aside0.mk A90
 clear A90
 replace H := Option.bind_eq_some_iff.mp H
 obtain ⟨⟨t1031, t1034, t1037, t1040⟩, A100, H⟩ := H
 replace H : ((laws_eqPair.f k t1031 t1034 t1037 t1010 t1013 t1016).bind fun t1042 => (if t1042 = true then (laws_FnExactSettlePair.j0 k t1019 t1040 (t1040 != t1019) l0_0 l0_1 l0_2 t1010 t1013 t1016 t1021 t1024 t1027 t1031 t1034 t1037) else (laws_FnExactSettlePair.j0 k t1019 t1040 true l0_0 l0_1 l0_2 t1010 t1013 t1016 t1021 t1024 t1027 t1031 t1034 t1037))) = some r := H
 have A10 := Aside0.mk A100
 clear A100
 have HC11 := Aside0.mk H
 clear H
 go_enter Try.func7, Try.ntmps7
 go_upto_region 8 with (first | ((with_reducible refine gate_dst (N := 1) rfl ?_); refine box_event ?hg (N := 1) ?hd (cs := #[.slice A0_0 l0_0.length c0_0, .slice A0_1 l0_1.length c0_1, .slice A0_2 l0_2.length c0_2]) (t := 41) ?hr ?_; (case hd => rfl); (case hg => rfl); (case hr => first | (go_simp; done) | (go_simp; rfl)); intro gb999 hg w12 hbox hb; have BK999 := Aside0.mk (hbox); have GW999 := gw_ hg HB; have GE999 := gw_ hg HB; replace HB := bst_ HB hb; clear hb hbox hg; have hcz13_0 : w12.cell? ⟨gb999, 0, none⟩ = some (.slice A0_0 l0_0.length c0_0) := bc_ BK999 0; have hcz13_1 : w12.cell? ⟨gb999, 1, none⟩ = some (.slice A0_1 l0_1.length c0_1) := bc_ BK999 1; have hcz13_2 : w12.cell? ⟨gb999, 2, none⟩ = some (.slice A0_2 l0_2.length c0_2) := bc_ BK999 2; have hfz13_0 := blk_frozen BK999.out 0; have hfz13_1 := blk_frozen BK999.out 1; have hfz13_2 := blk_frozen BK999.out 2) | ((with_reducible refine gate_callee (f := 29) rfl ?_); refine goesL_ (some 16) rfl rfl Try.func29 (by kernel_rfl) rfl #[.agg #[.slice A0_0 l0_0.length c0_0, .slice A0_1 l0_1.length c0_1, .slice A0_2 l0_2.length c0_2], .int .i64 1048576] rfl tm_ ?_; (with_reducible refine (laws_szPair.calls _ _ l0_0 _ _ l0_1 _ _ l0_2 1048576 t1000 _ ?side1 ?side2 ?side3 ?side4 ?side5 ?side6 A2.out).mono ?_); (case side1 => exact ca (Kd.C_below HR0_0.out HB.out)); (case side2 => exact HC0_0.out); (case side3 => exact ca (Kd.C_below HR0_1.out HB.out)); (case side4 => exact HC0_1.out); (case side5 => exact ca (Kd.C_below HR0_2.out HB.out)); (case side6 => exact HC0_2.out); rintro e w14 ⟨rfl, hb⟩; refine ⟨_, rfl, ?_⟩; replace BK999 := bb_ BK999 hb; replace HB := bst_ HB hb; clear hb; have hcz15_0 : w14.cell? ⟨gb999, 0, none⟩ = some (.slice A0_0 l0_0.length c0_0) := bc_ BK999 0; have hcz15_1 : w14.cell? ⟨gb999, 1, none⟩ = some (.slice A0_1 l0_1.length c0_1) := bc_ BK999 1; have hcz15_2 : w14.cell? ⟨gb999, 2, none⟩ = some (.slice A0_2 l0_2.length c0_2) := bc_ BK999 2; have hfz15_0 := blk_frozen BK999.out 0; have hfz15_1 := blk_frozen BK999.out 1; have hfz15_2 := blk_frozen BK999.out 2) | ((with_reducible refine gate_callee (f := 31) rfl ?_); refine goesL_ (some 21) rfl rfl Try.func31 (by kernel_rfl) rfl #[.agg #[.slice A0_0 l0_0.length c0_0, .slice A0_1 l0_1.length c0_1, .slice A0_2 l0_2.length c0_2]] rfl tm_ ?_; (with_reducible refine (laws_toPair.calls k _ _ l0_0 _ _ l0_1 _ _ l0_2 t1001 t1004 t1007 _ ?side1 ?side2 ?side3 ?side4 ?side5 ?side6 A7.out).mono ?_); (case side1 => exact ca (Kd.C_below HR0_0.out HB.out)); (case side2 => exact HC0_0.out); (case side3 => exact ca (Kd.C_below HR0_1.out HB.out)); (case side4 => exact HC0_1.out); (case side5 => exact ca (Kd.C_below HR0_2.out HB.out)); (case side6 => exact HC0_2.out); rintro e w16 ⟨v1002, v1005, v1008, rfl, ho0, ho1, ho2, hb⟩; refine ⟨_, rfl, ?_⟩; have HO1003 := Aside0.mk (Kd.R_lower ho0 (below_size (hB HB))); have HO1006 := Aside0.mk (Kd.R_lower ho1 (below_size (hB HB))); have HO1009 := Aside0.mk (Kd.R_lower ho2 (below_size (hB HB))); replace BK999 := bb_ BK999 hb; replace HB := bst_ HB hb; clear hb ho0 ho1 ho2; obtain ⟨Ao17, co17, eo17⟩ := Kd.R_slice HO1003.out; subst eo17; obtain ⟨Ao18, co18, eo18⟩ := Kd.R_slice HO1006.out; subst eo18; obtain ⟨Ao19, co19, eo19⟩ := Kd.R_slice HO1009.out; subst eo19) | ((with_reducible refine gate_callee (f := 44) rfl ?_); refine goesL_ (some 22) rfl rfl Try.func44 (by kernel_rfl) rfl #[.agg #[.slice Ao17 t1001.length co17, .slice Ao18 t1004.length co18, .slice Ao19 t1007.length co19]] rfl tm_ ?_; (with_reducible refine (spec_SettlePair.calls k _ _ t1001 _ _ t1004 _ _ t1007 t1010 t1013 t1016 t1019 _ ?side1 ?side2 ?side3 ?side4 ?side5 ?side6 A8.out).mono ?_); (case side1 => exact ca (Kd.R_reads' HO1003.out).2.2); (case side2 => exact (Kd.R_reads' HO1003.out).2.1); (case side3 => exact ca (Kd.R_reads' HO1006.out).2.2); (case side4 => exact (Kd.R_reads' HO1006.out).2.1); (case side5 => exact ca (Kd.R_reads' HO1009.out).2.2); (case side6 => exact (Kd.R_reads' HO1009.out).2.1); rintro e w20 ⟨v1011, v1014, v1017, rfl, ho0, ho1, ho2, hb⟩; refine ⟨_, rfl, ?_⟩; have HO1012 := Aside0.mk (Kd.R_lower (Kd.R_new' (Kd.R_new' ho0 (rl_ HO1003)) (rl_ HO1006)) (below_size (hB HB))); have HO1015 := Aside0.mk (Kd.R_lower (Kd.R_new' (Kd.R_new' ho1 (rl_ HO1003)) (rl_ HO1006)) (below_size (hB HB))); have HO1018 := Aside0.mk (Kd.R_lower (Kd.R_new' ho2 (rl_ HO1009)) (below_size (hB HB))); replace HO1003 := rt2_ HO1003 hb ho0 ho1; replace HO1006 := rt2_ HO1006 hb ho0 ho1; replace HO1009 := re_ HO1009 ho2 hb; replace BK999 := bb_ BK999 hb; replace HB := bst_ HB hb; clear hb ho0 ho1 ho2) | ((with_reducible refine gate_dst (N := 4) rfl ?_); refine box_event ?hg (N := 4) ?hd (cs := #[.slice none 0 0, .slice none 0 0, .slice none 0 0]) (t := 47) ?hr ?_; (case hd => rfl); (case hg => rfl); (case hr => first | (go_simp; done) | (go_simp; rfl)); intro gb1020 hg w21 hbox hb; have BK1020 := Aside0.mk (hbox); have GW1020 := gw_ hg HB; have GE1020 := gw_ hg HB; have NB999_1020 := nl_ hg BK999; have NB1020_999 := ng_ hg BK999; replace HO1003 := rb_ HO1003 hb; replace HO1006 := rb_ HO1006 hb; replace HO1009 := rb_ HO1009 hb; replace HO1012 := rb_ HO1012 hb; replace HO1015 := rb_ HO1015 hb; replace HO1018 := rb_ HO1018 hb; replace BK999 := bb_ BK999 hb; replace HB := bst_ HB hb; clear hb hbox hg; obtain ⟨Ao22, co22, eo22⟩ := Kd.R_slice HO1012.out; subst eo22; have hnb23 := NB1020_999.out; have hnc23 := NB999_1020.out; have hcz24_0 : w21.cell? ⟨gb1020, 0, none⟩ = some (.slice none 0 0) := bc_ BK1020 0; have hcz24_1 : w21.cell? ⟨gb1020, 1, none⟩ = some (.slice none 0 0) := bc_ BK1020 1; have hcz24_2 : w21.cell? ⟨gb1020, 2, none⟩ = some (.slice none 0 0) := bc_ BK1020 2; have hfz24_0 := blk_frozen BK1020.out 0; have hfz24_1 := blk_frozen BK1020.out 1; have hfz24_2 := blk_frozen BK1020.out 2; obtain ⟨Ao25, co25, eo25⟩ := Kd.R_slice HO1015.out; subst eo25; obtain ⟨Ao26, co26, eo26⟩ := Kd.R_slice HO1018.out; subst eo26; have hcz27_0 : w21.cell? ⟨gb999, 0, none⟩ = some (.slice A0_0 l0_0.length c0_0) := bc_ BK999 0; have hcz27_1 : w21.cell? ⟨gb999, 1, none⟩ = some (.slice A0_1 l0_1.length c0_1) := bc_ BK999 1; have hcz27_2 : w21.cell? ⟨gb999, 2, none⟩ = some (.slice A0_2 l0_2.length c0_2) := bc_ BK999 2; have hfz27_0 := blk_frozen BK999.out 0; have hfz27_1 := blk_frozen BK999.out 1; have hfz27_2 := blk_frozen BK999.out 2) | ((with_reducible refine gate_callee (f := 31) rfl ?_); refine goesL_ (some 26) rfl rfl Try.func31 (by kernel_rfl) rfl #[.agg #[.slice A0_0 l0_0.length c0_0, .slice A0_1 l0_1.length c0_1, .slice A0_2 l0_2.length c0_2]] rfl tm_ ?_; (with_reducible refine (laws_toPair.calls k _ _ l0_0 _ _ l0_1 _ _ l0_2 t1021 t1024 t1027 _ ?side1 ?side2 ?side3 ?side4 ?side5 ?side6 A9.out).mono ?_); (case side1 => exact Kd.C_below HR0_0.out (hB HB)); (case side2 => exact HC0_0.out); (case side3 => exact Kd.C_below HR0_1.out (hB HB)); (case side4 => exact HC0_1.out); (case side5 => exact Kd.C_below HR0_2.out (hB HB)); (case side6 => exact HC0_2.out); rintro e w28 ⟨v1022, v1025, v1028, rfl, ho0, ho1, ho2, hb⟩; refine ⟨_, rfl, ?_⟩; have HO1023 := Aside0.mk (Kd.R_lower (Kd.R_new' (Kd.R_new' (Kd.R_new' (Kd.R_new' ho0 (Kd.R_lt (ra (fm3_ HO1003 BK1020)))) (Kd.R_lt (ra (fm3_ HO1006 BK1020)))) (Kd.R_lt (ra (fm3_ HO1012 BK1020)))) (Kd.R_lt (ra (fm3_ HO1015 BK1020)))) (below_size (hB HB))); have HO1026 := Aside0.mk (Kd.R_lower (Kd.R_new' (Kd.R_new' (Kd.R_new' (Kd.R_new' ho1 (Kd.R_lt (ra (fm3_ HO1003 BK1020)))) (Kd.R_lt (ra (fm3_ HO1006 BK1020)))) (Kd.R_lt (ra (fm3_ HO1012 BK1020)))) (Kd.R_lt (ra (fm3_ HO1015 BK1020)))) (below_size (hB HB))); have HO1029 := Aside0.mk (Kd.R_lower (Kd.R_new' (Kd.R_new' ho2 (Kd.R_lt (ra (fm3_ HO1009 BK1020)))) (Kd.R_lt (ra (fm3_ HO1018 BK1020)))) (below_size (hB HB))); replace HO1003 := Aside0.mk (Kd.R_mono (Kd.R_told (Kd.R_told (Kd.R_old (ra (fm3_ HO1003 BK1020)) hb) (Kd.R_base ho0)) (Kd.R_base ho1)) (fun _ h_ => h_.1)); replace HO1006 := Aside0.mk (Kd.R_mono (Kd.R_told (Kd.R_told (Kd.R_old (ra (fm3_ HO1006 BK1020)) hb) (Kd.R_base ho0)) (Kd.R_base ho1)) (fun _ h_ => h_.1)); replace HO1009 := Aside0.mk (Kd.R_elder' (ra (fm3_ HO1009 BK1020)) (Kd.R_base ho2) hb); replace HO1012 := Aside0.mk (Kd.R_mono (Kd.R_told (Kd.R_told (Kd.R_old (ra (fm3_ HO1012 BK1020)) hb) (Kd.R_base ho0)) (Kd.R_base ho1)) (fun _ h_ => h_.1)); replace HO1015 := Aside0.mk (Kd.R_mono (Kd.R_told (Kd.R_told (Kd.R_old (ra (fm3_ HO1015 BK1020)) hb) (Kd.R_base ho0)) (Kd.R_base ho1)) (fun _ h_ => h_.1)); replace HO1018 := Aside0.mk (Kd.R_elder' (ra (fm3_ HO1018 BK1020)) (Kd.R_base ho2) hb); replace BK999 := Aside0.mk (blk_below (bx BK999) hb); replace BK1020 := Aside0.mk (blk_below (g := gb1020) (o := .cells #[.slice Ao22 t1010.length co22, .slice Ao25 t1013.length co25, .slice Ao26 t1016.length co26] 47 (0, 0)) (by (with_reducible repeat (first | refine blk_drewN ?_ _ | refine blk_drew ?_ | refine blk_alloc ?_ _)); refine blk_put (cs := #[.slice Ao22 t1010.length co22, .slice Ao25 t1013.length co25, .slice none 0 0]) ?_ 2 _ rfl; (with_reducible repeat (first | refine blk_drewN ?_ _ | refine blk_drew ?_ | refine blk_alloc ?_ _)); refine blk_put (cs := #[.slice Ao22 t1010.length co22, .slice none 0 0, .slice none 0 0]) ?_ 1 _ rfl; (with_reducible repeat (first | refine blk_drewN ?_ _ | refine blk_drew ?_ | refine blk_alloc ?_ _)); refine blk_put (cs := #[.slice none 0 0, .slice none 0 0, .slice none 0 0]) ?_ 0 _ rfl; (with_reducible repeat (first | refine blk_drewN ?_ _ | refine blk_drew ?_ | refine blk_alloc ?_ _)); exact BK1020.out) hb); replace HB := bst_ HB hb; clear hb ho0 ho1 ho2) | ((with_reducible refine gate_dst (N := 6) rfl ?_); refine box_event ?hg (N := 6) ?hd (cs := #[.slice none 0 0, .slice none 0 0, .slice none 0 0]) (t := 47) ?hr ?_; (case hd => rfl); (case hg => rfl); (case hr => first | (go_simp; done) | (go_simp; rfl)); intro gb1030 hg w29 hbox hb; have BK1030 := Aside0.mk (hbox); have GW1030 := gw_ hg HB; have GE1030 := gw_ hg HB; have NB999_1030 := nl_ hg BK999; have NB1030_999 := ng_ hg BK999; have NB1020_1030 := nl_ hg BK1020; have NB1030_1020 := ng_ hg BK1020; replace HO1003 := rb_ HO1003 hb; replace HO1006 := rb_ HO1006 hb; replace HO1009 := rb_ HO1009 hb; replace HO1012 := rb_ HO1012 hb; replace HO1015 := rb_ HO1015 hb; replace HO1018 := rb_ HO1018 hb; replace HO1023 := rb_ HO1023 hb; replace HO1026 := rb_ HO1026 hb; replace HO1029 := rb_ HO1029 hb; replace BK999 := bb_ BK999 hb; replace BK1020 := bb_ BK1020 hb; replace HB := bst_ HB hb; clear hb hbox hg; obtain ⟨Ao30, co30, eo30⟩ := Kd.R_slice HO1023.out; subst eo30; have hnb31 := NB1030_999.out; have hnc31 := NB999_1030.out; have hnb32 := NB1030_1020.out; have hnc32 := NB1020_1030.out; have hcz33_0 : w29.cell? ⟨gb1030, 0, none⟩ = some (.slice none 0 0) := bc_ BK1030 0; have hcz33_1 : w29.cell? ⟨gb1030, 1, none⟩ = some (.slice none 0 0) := bc_ BK1030 1; have hcz33_2 : w29.cell? ⟨gb1030, 2, none⟩ = some (.slice none 0 0) := bc_ BK1030 2; have hfz33_0 := blk_frozen BK1030.out 0; have hfz33_1 := blk_frozen BK1030.out 1; have hfz33_2 := blk_frozen BK1030.out 2; obtain ⟨Ao34, co34, eo34⟩ := Kd.R_slice HO1026.out; subst eo34; obtain ⟨Ao35, co35, eo35⟩ := Kd.R_slice HO1029.out; subst eo35) | ((with_reducible refine gate_callee (f := 45) rfl ?_); refine goesL_ (some 29) rfl rfl Try.func45 (by kernel_rfl) rfl #[.agg #[.slice Ao30 t1021.length co30, .slice Ao34 t1024.length co34, .slice Ao35 t1027.length co35]] rfl tm_ ?_; (with_reducible refine (impl_SettlePair.calls k _ _ t1021 _ _ t1024 _ _ t1027 t1031 t1034 t1037 t1040 _ ?side1 ?side2 ?side3 ?side4 ?side5 ?side6 A10.out).mono ?_); (case side1 => exact rr_ (fm3_ HO1023 BK1030)); (case side2 => exact (Kd.R_reads' HO1023.out).2.1); (case side3 => exact rr_ (fm3_ HO1026 BK1030)); (case side4 => exact (Kd.R_reads' HO1026.out).2.1); (case side5 => exact rr_ (fm3_ HO1029 BK1030)); (case side6 => exact (Kd.R_reads' HO1029.out).2.1); rintro e w36 ⟨v1032, v1035, v1038, rfl, ho0, ho1, ho2, hb⟩; refine ⟨_, rfl, ?_⟩; have HO1033 := Aside0.mk (Kd.R_lower (Kd.R_new' (Kd.R_new' (Kd.R_new' (Kd.R_new' (Kd.R_new' (Kd.R_new' ho0 (Kd.R_lt (ra (fm3_ HO1003 BK1030)))) (Kd.R_lt (ra (fm3_ HO1006 BK1030)))) (Kd.R_lt (ra (fm3_ HO1012 BK1030)))) (Kd.R_lt (ra (fm3_ HO1015 BK1030)))) (Kd.R_lt (ra (fm3_ HO1023 BK1030)))) (Kd.R_lt (ra (fm3_ HO1026 BK1030)))) (below_size (hB HB))); have HO1036 := Aside0.mk (Kd.R_lower (Kd.R_new' (Kd.R_new' (Kd.R_new' (Kd.R_new' (Kd.R_new' (Kd.R_new' ho1 (Kd.R_lt (ra (fm3_ HO1003 BK1030)))) (Kd.R_lt (ra (fm3_ HO1006 BK1030)))) (Kd.R_lt (ra (fm3_ HO1012 BK1030)))) (Kd.R_lt (ra (fm3_ HO1015 BK1030)))) (Kd.R_lt (ra (fm3_ HO1023 BK1030)))) (Kd.R_lt (ra (fm3_ HO1026 BK1030)))) (below_size (hB HB))); have HO1039 := Aside0.mk (Kd.R_lower (Kd.R_new' (Kd.R_new' (Kd.R_new' ho2 (Kd.R_lt (ra (fm3_ HO1009 BK1030)))) (Kd.R_lt (ra (fm3_ HO1018 BK1030)))) (Kd.R_lt (ra (fm3_ HO1029 BK1030)))) (below_size (hB HB))); replace HO1003 := Aside0.mk (Kd.R_mono (Kd.R_told (Kd.R_told (Kd.R_old (ra (fm3_ HO1003 BK1030)) hb) (Kd.R_base ho0)) (Kd.R_base ho1)) (fun _ h_ => h_.1)); replace HO1006 := Aside0.mk (Kd.R_mono (Kd.R_told (Kd.R_told (Kd.R_old (ra (fm3_ HO1006 BK1030)) hb) (Kd.R_base ho0)) (Kd.R_base ho1)) (fun _ h_ => h_.1)); replace HO1009 := Aside0.mk (Kd.R_elder' (ra (fm3_ HO1009 BK1030)) (Kd.R_base ho2) hb); replace HO1012 := Aside0.mk (Kd.R_mono (Kd.R_told (Kd.R_told (Kd.R_old (ra (fm3_ HO1012 BK1030)) hb) (Kd.R_base ho0)) (Kd.R_base ho1)) (fun _ h_ => h_.1)); replace HO1015 := Aside0.mk (Kd.R_mono (Kd.R_told (Kd.R_told (Kd.R_old (ra (fm3_ HO1015 BK1030)) hb) (Kd.R_base ho0)) (Kd.R_base ho1)) (fun _ h_ => h_.1)); replace HO1018 := Aside0.mk (Kd.R_elder' (ra (fm3_ HO1018 BK1030)) (Kd.R_base ho2) hb); replace HO1023 := Aside0.mk (Kd.R_mono (Kd.R_told (Kd.R_told (Kd.R_old (ra (fm3_ HO1023 BK1030)) hb) (Kd.R_base ho0)) (Kd.R_base ho1)) (fun _ h_ => h_.1)); replace HO1026 := Aside0.mk (Kd.R_mono (Kd.R_told (Kd.R_told (Kd.R_old (ra (fm3_ HO1026 BK1030)) hb) (Kd.R_base ho0)) (Kd.R_base ho1)) (fun _ h_ => h_.1)); replace HO1029 := Aside0.mk (Kd.R_elder' (ra (fm3_ HO1029 BK1030)) (Kd.R_base ho2) hb); replace BK999 := Aside0.mk (blk_below (bx BK999) hb); replace BK1020 := Aside0.mk (blk_below (bx BK1020) hb); replace BK1030 := Aside0.mk (blk_below (g := gb1030) (o := .cells #[.slice Ao30 t1021.length co30, .slice Ao34 t1024.length co34, .slice Ao35 t1027.length co35] 47 (0, 0)) (by (with_reducible repeat (first | refine blk_drewN ?_ _ | refine blk_drew ?_ | refine blk_alloc ?_ _)); refine blk_put (cs := #[.slice Ao30 t1021.length co30, .slice Ao34 t1024.length co34, .slice none 0 0]) ?_ 2 _ rfl; (with_reducible repeat (first | refine blk_drewN ?_ _ | refine blk_drew ?_ | refine blk_alloc ?_ _)); refine blk_put (cs := #[.slice Ao30 t1021.length co30, .slice none 0 0, .slice none 0 0]) ?_ 1 _ rfl; (with_reducible repeat (first | refine blk_drewN ?_ _ | refine blk_drew ?_ | refine blk_alloc ?_ _)); refine blk_put (cs := #[.slice none 0 0, .slice none 0 0, .slice none 0 0]) ?_ 0 _ rfl; (with_reducible repeat (first | refine blk_drewN ?_ _ | refine blk_drew ?_ | refine blk_alloc ?_ _)); exact BK1030.out) hb); replace HB := bst_ HB hb; clear hb ho0 ho1 ho2) | ((with_reducible refine gate_dst (N := 7) rfl ?_); refine box_event ?hg (N := 7) ?hd (cs := #[.slice none 0 0, .slice none 0 0, .slice none 0 0]) (t := 47) ?hr ?_; (case hd => rfl); (case hg => rfl); (case hr => first | (go_simp; done) | (go_simp; rfl)); intro gb1041 hg w37 hbox hb; have BK1041 := Aside0.mk (hbox); have GW1041 := gw_ hg HB; have GE1041 := gw_ hg HB; have NB999_1041 := nl_ hg BK999; have NB1041_999 := ng_ hg BK999; have NB1020_1041 := nl_ hg BK1020; have NB1041_1020 := ng_ hg BK1020; have NB1030_1041 := nl_ hg BK1030; have NB1041_1030 := ng_ hg BK1030; replace HO1003 := rb_ HO1003 hb; replace HO1006 := rb_ HO1006 hb; replace HO1009 := rb_ HO1009 hb; replace HO1012 := rb_ HO1012 hb; replace HO1015 := rb_ HO1015 hb; replace HO1018 := rb_ HO1018 hb; replace HO1023 := rb_ HO1023 hb; replace HO1026 := rb_ HO1026 hb; replace HO1029 := rb_ HO1029 hb; replace HO1033 := rb_ HO1033 hb; replace HO1036 := rb_ HO1036 hb; replace HO1039 := rb_ HO1039 hb; replace BK999 := bb_ BK999 hb; replace BK1020 := bb_ BK1020 hb; replace BK1030 := bb_ BK1030 hb; replace HB := bst_ HB hb; clear hb hbox hg; obtain ⟨Ao38, co38, eo38⟩ := Kd.R_slice HO1033.out; subst eo38; have hnb39 := NB1041_999.out; have hnc39 := NB999_1041.out; have hnb40 := NB1041_1020.out; have hnc40 := NB1020_1041.out; have hnb41 := NB1041_1030.out; have hnc41 := NB1030_1041.out; have hcz42_0 : w37.cell? ⟨gb1041, 0, none⟩ = some (.slice none 0 0) := bc_ BK1041 0; have hcz42_1 : w37.cell? ⟨gb1041, 1, none⟩ = some (.slice none 0 0) := bc_ BK1041 1; have hcz42_2 : w37.cell? ⟨gb1041, 2, none⟩ = some (.slice none 0 0) := bc_ BK1041 2; have hfz42_0 := blk_frozen BK1041.out 0; have hfz42_1 := blk_frozen BK1041.out 1; have hfz42_2 := blk_frozen BK1041.out 2; obtain ⟨Ao43, co43, eo43⟩ := Kd.R_slice HO1036.out; subst eo43; obtain ⟨Ao44, co44, eo44⟩ := Kd.R_slice HO1039.out; subst eo44))
 (try simp only [Act.put, List.setIfInBounds_toArray, List.set_cons_zero, List.set_cons_succ])
 go_cut [40] (fun v40 wc => ∃ (kq : Nat) (x40_10 : Bool), v40 = .bool x40_10 ∧ Aside0 (laws_FnExactSettlePair.j0 kq t1019 t1040 x40_10 l0_0 l0_1 l0_2 t1010 t1013 t1016 t1021 t1024 t1027 t1031 t1034 t1037 = some r) ∧ Aside0 (kq ≤ k) ∧ Aside0 (Kd.R (Kd.int .i64) 3 wc w.heap.size (fun k_ => no_ (.slice Ao25 t1013.length co25) k_ ∧ no_ (.slice Ao30 t1021.length co30) k_ ∧ no_ (.slice Ao34 t1024.length co34) k_ ∧ no_ (.slice Ao38 t1031.length co38) k_ ∧ no_ (.slice Ao43 t1034.length co43) k_) (.slice Ao22 t1010.length co22) t1010) ∧ Aside0 (Kd.R (Kd.int .i64) 3 wc w.heap.size (fun k_ => no_ (.slice Ao22 t1010.length co22) k_ ∧ no_ (.slice Ao30 t1021.length co30) k_ ∧ no_ (.slice Ao34 t1024.length co34) k_ ∧ no_ (.slice Ao38 t1031.length co38) k_ ∧ no_ (.slice Ao43 t1034.length co43) k_) (.slice Ao25 t1013.length co25) t1013) ∧ Aside0 (Kd.R k127 127 wc w.heap.size (fun k_ => no_ (.slice Ao35 t1027.length co35) k_ ∧ no_ (.slice Ao44 t1037.length co44) k_) (.slice Ao26 t1016.length co26) t1016) ∧ Aside0 (Kd.R (Kd.int .i64) 3 wc w.heap.size (fun k_ => no_ (.slice Ao22 t1010.length co22) k_ ∧ no_ (.slice Ao25 t1013.length co25) k_ ∧ no_ (.slice Ao34 t1024.length co34) k_ ∧ no_ (.slice Ao38 t1031.length co38) k_ ∧ no_ (.slice Ao43 t1034.length co43) k_) (.slice Ao30 t1021.length co30) t1021) ∧ Aside0 (Kd.R (Kd.int .i64) 3 wc w.heap.size (fun k_ => no_ (.slice Ao22 t1010.length co22) k_ ∧ no_ (.slice Ao25 t1013.length co25) k_ ∧ no_ (.slice Ao30 t1021.length co30) k_ ∧ no_ (.slice Ao38 t1031.length co38) k_ ∧ no_ (.slice Ao43 t1034.length co43) k_) (.slice Ao34 t1024.length co34) t1024) ∧ Aside0 (Kd.R k127 127 wc w.heap.size (fun k_ => no_ (.slice Ao26 t1016.length co26) k_ ∧ no_ (.slice Ao44 t1037.length co44) k_) (.slice Ao35 t1027.length co35) t1027) ∧ Aside0 (Kd.R (Kd.int .i64) 3 wc w.heap.size (fun k_ => no_ (.slice Ao22 t1010.length co22) k_ ∧ no_ (.slice Ao25 t1013.length co25) k_ ∧ no_ (.slice Ao30 t1021.length co30) k_ ∧ no_ (.slice Ao34 t1024.length co34) k_ ∧ no_ (.slice Ao43 t1034.length co43) k_) (.slice Ao38 t1031.length co38) t1031) ∧ Aside0 (Kd.R (Kd.int .i64) 3 wc w.heap.size (fun k_ => no_ (.slice Ao22 t1010.length co22) k_ ∧ no_ (.slice Ao25 t1013.length co25) k_ ∧ no_ (.slice Ao30 t1021.length co30) k_ ∧ no_ (.slice Ao34 t1024.length co34) k_ ∧ no_ (.slice Ao38 t1031.length co38) k_) (.slice Ao43 t1034.length co43) t1034) ∧ Aside0 (Kd.R k127 127 wc w.heap.size (fun k_ => no_ (.slice Ao26 t1016.length co26) k_ ∧ no_ (.slice Ao35 t1027.length co35) k_) (.slice Ao44 t1037.length co44) t1037) ∧ Aside0 (wc.heap[gb999]? = some (.cells #[(.slice A0_0 l0_0.length c0_0), (.slice A0_1 l0_1.length c0_1), (.slice A0_2 l0_2.length c0_2)] 41 (0, 0))) ∧ Aside0 (wc.heap[gb1020]? = some (.cells #[(.slice Ao22 t1010.length co22), (.slice Ao25 t1013.length co25), (.slice Ao26 t1016.length co26)] 47 (0, 0))) ∧ Aside0 (wc.heap[gb1030]? = some (.cells #[(.slice Ao30 t1021.length co30), (.slice Ao34 t1024.length co34), (.slice Ao35 t1027.length co35)] 47 (0, 0))) ∧ Aside0 (wc.heap[gb1041]? = some (.cells #[(.slice Ao38 t1031.length co38), (.slice Ao43 t1034.length co43), (.slice Ao44 t1037.length co44)] 47 (0, 0))) ∧ Aside0 (Below w.heap.size w wc))
 case first =>
  have H := HC11.out
  clear HC11
  replace H := Option.bind_eq_some_iff.mp H
  obtain ⟨t1042, A450, H⟩ := H
  replace H : (if t1042 = true then (laws_FnExactSettlePair.j0 k t1019 t1040 (t1040 != t1019) l0_0 l0_1 l0_2 t1010 t1013 t1016 t1021 t1024 t1027 t1031 t1034 t1037) else (laws_FnExactSettlePair.j0 k t1019 t1040 true l0_0 l0_1 l0_2 t1010 t1013 t1016 t1021 t1024 t1027 t1031 t1034 t1037)) = some r := H
  have A45 := Aside0.mk A450
  clear A450
  by_cases c46 : t1042 = true
  ·subst c46
   rw [if_pos rfl] at H
   have H' := Aside0.mk H
   clear H
   have hnb47 := NB1041_999.out
   have hnc47 := NB999_1041.out
   have hnb48 := NB1041_1020.out
   have hnc48 := NB1020_1041.out
   have hnb49 := NB1041_1030.out
   have hnc49 := NB1030_1041.out
   have hcz50_0 : w37.cell? ⟨gb1041, 0, none⟩ = some (.slice none 0 0) := bc_ BK1041 0
   have hcz50_1 : w37.cell? ⟨gb1041, 1, none⟩ = some (.slice none 0 0) := bc_ BK1041 1
   have hcz50_2 : w37.cell? ⟨gb1041, 2, none⟩ = some (.slice none 0 0) := bc_ BK1041 2
   have hfz50_0 := blk_frozen BK1041.out 0
   have hfz50_1 := blk_frozen BK1041.out 1
   have hfz50_2 := blk_frozen BK1041.out 2
   have hnb51 := NB1020_999.out
   have hnc51 := NB999_1020.out
   have hnb52 := NB1020_1030.out
   have hnc52 := NB1030_1020.out
   have hcz53_0 : w37.cell? ⟨gb1020, 0, none⟩ = some (.slice Ao22 t1010.length co22) := bc_ BK1020 0
   have hcz53_1 : w37.cell? ⟨gb1020, 1, none⟩ = some (.slice Ao25 t1013.length co25) := bc_ BK1020 1
   have hcz53_2 : w37.cell? ⟨gb1020, 2, none⟩ = some (.slice Ao26 t1016.length co26) := bc_ BK1020 2
   have hfz53_0 := blk_frozen BK1020.out 0
   have hfz53_1 := blk_frozen BK1020.out 1
   have hfz53_2 := blk_frozen BK1020.out 2
   go_wp2_with (first | ((with_reducible refine gate_callee (f := 34) rfl ?_); refine goesL_ (some 34) rfl rfl Try.func34 (by kernel_rfl) rfl #[.agg #[.slice Ao38 t1031.length co38, .slice Ao43 t1034.length co43, .slice Ao44 t1037.length co44], .agg #[.slice Ao22 t1010.length co22, .slice Ao25 t1013.length co25, .slice Ao26 t1016.length co26]] rfl tm_ ?_; (with_reducible refine (laws_eqPair.calls k _ _ t1031 _ _ t1034 _ _ t1037 _ _ t1010 _ _ t1013 _ _ t1016 true _ ?side1 ?side2 ?side3 ?side4 ?side5 ?side6 ?side7 ?side8 ?side9 ?side10 ?side11 ?side12 A45.out).mono ?_); (case side1 => exact rr_ (fm3_ HO1033 BK1041)); (case side2 => exact (Kd.R_reads' HO1033.out).2.1); (case side3 => exact rr_ (fm3_ HO1036 BK1041)); (case side4 => exact (Kd.R_reads' HO1036.out).2.1); (case side5 => exact rr_ (fm3_ HO1039 BK1041)); (case side6 => exact (Kd.R_reads' HO1039.out).2.1); (case side7 => exact rr_ (fm3_ HO1012 BK1041)); (case side8 => exact (Kd.R_reads' HO1012.out).2.1); (case side9 => exact rr_ (fm3_ HO1015 BK1041)); (case side10 => exact (Kd.R_reads' HO1015.out).2.1); (case side11 => exact rr_ (fm3_ HO1018 BK1041)); (case side12 => exact (Kd.R_reads' HO1018.out).2.1); rintro e w54 ⟨rfl, hb⟩; refine ⟨_, rfl, ?_⟩; replace HO1003 := rb3_ HO1003 BK1041 hb; replace HO1006 := rb3_ HO1006 BK1041 hb; replace HO1009 := rb3_ HO1009 BK1041 hb; replace HO1012 := rb3_ HO1012 BK1041 hb; replace HO1015 := rb3_ HO1015 BK1041 hb; replace HO1018 := rb3_ HO1018 BK1041 hb; replace HO1023 := rb3_ HO1023 BK1041 hb; replace HO1026 := rb3_ HO1026 BK1041 hb; replace HO1029 := rb3_ HO1029 BK1041 hb; replace HO1033 := rb3_ HO1033 BK1041 hb; replace HO1036 := rb3_ HO1036 BK1041 hb; replace HO1039 := rb3_ HO1039 BK1041 hb; replace BK999 := Aside0.mk (blk_below (bx BK999) hb); replace BK1020 := Aside0.mk (blk_below (bx BK1020) hb); replace BK1030 := Aside0.mk (blk_below (bx BK1030) hb); replace BK1041 := Aside0.mk (blk_below (g := gb1041) (o := .cells #[.slice Ao38 t1031.length co38, .slice Ao43 t1034.length co43, .slice Ao44 t1037.length co44] 47 (0, 0)) (by (with_reducible repeat (first | refine blk_drewN ?_ _ | refine blk_drew ?_ | refine blk_alloc ?_ _)); refine blk_put (cs := #[.slice Ao38 t1031.length co38, .slice Ao43 t1034.length co43, .slice none 0 0]) ?_ 2 _ rfl; (with_reducible repeat (first | refine blk_drewN ?_ _ | refine blk_drew ?_ | refine blk_alloc ?_ _)); refine blk_put (cs := #[.slice Ao38 t1031.length co38, .slice none 0 0, .slice none 0 0]) ?_ 1 _ rfl; (with_reducible repeat (first | refine blk_drewN ?_ _ | refine blk_drew ?_ | refine blk_alloc ?_ _)); refine blk_put (cs := #[.slice none 0 0, .slice none 0 0, .slice none 0 0]) ?_ 0 _ rfl; (with_reducible repeat (first | refine blk_drewN ?_ _ | refine blk_drew ?_ | refine blk_alloc ?_ _)); exact BK1041.out) hb); replace HB := bst_ HB hb; clear hb))
   go_meet
   case rel => exact ⟨_, ((t1040 != t1019)), (by first | rfl | (simp; done) | (simp [*]; done)), H', ⟨by first | omega | exact Nat.le_refl _⟩, rm_ HO1012 (fun _ hk => ⟨hk.1.1.1.1.1.1, ⟨hk.1.1.1.2, ⟨hk.1.1.2, ⟨hk.1.2, hk.2⟩⟩⟩⟩), rm_ HO1015 (fun _ hk => ⟨hk.1.1.1.1.1.1, ⟨hk.1.1.1.2, ⟨hk.1.1.2, ⟨hk.1.2, hk.2⟩⟩⟩⟩), rm_ HO1018 (fun _ hk => ⟨hk.1.2, hk.2⟩), rm_ HO1023 (fun _ hk => ⟨hk.1.1.1.2, ⟨hk.1.1.2, ⟨hk.1.1.1.1.1.1, ⟨hk.1.2, hk.2⟩⟩⟩⟩), rm_ HO1026 (fun _ hk => ⟨hk.1.1.1.2, ⟨hk.1.1.2, ⟨hk.1.1.1.1.1.1, ⟨hk.1.2, hk.2⟩⟩⟩⟩), rm_ HO1029 (fun _ hk => ⟨hk.1.2, hk.2⟩), rm_ HO1033 (fun _ hk => ⟨hk.1.1.1.2, ⟨hk.1.1.2, ⟨hk.1.2, ⟨hk.2, hk.1.1.1.1.1.1⟩⟩⟩⟩), rm_ HO1036 (fun _ hk => ⟨hk.1.1.1.2, ⟨hk.1.1.2, ⟨hk.1.2, ⟨hk.2, hk.1.1.1.1.1.1⟩⟩⟩⟩), rm_ HO1039 (fun _ hk => ⟨hk.1.2, hk.2⟩), ⟨by (with_reducible repeat (first | refine blk_drewN ?_ _ | refine blk_drew ?_ | refine blk_alloc ?_ _)); exact BK999.out⟩, ⟨by (with_reducible repeat (first | refine blk_drewN ?_ _ | refine blk_drew ?_ | refine blk_alloc ?_ _)); exact BK1020.out⟩, ⟨by (with_reducible repeat (first | refine blk_drewN ?_ _ | refine blk_drew ?_ | refine blk_alloc ?_ _)); exact BK1030.out⟩, ⟨by (with_reducible repeat (first | refine blk_drewN ?_ _ | refine blk_drew ?_ | refine blk_alloc ?_ _)); exact BK1041.out⟩, ⟨hB HB⟩⟩
  replace c46 := Bool.eq_false_iff.mpr c46
  subst c46
  rw [if_neg (show ¬ (false = true) by decide)] at H
  have H' := Aside0.mk H
  clear H
  have hnb55 := NB1041_999.out
  have hnc55 := NB999_1041.out
  have hnb56 := NB1041_1020.out
  have hnc56 := NB1020_1041.out
  have hnb57 := NB1041_1030.out
  have hnc57 := NB1030_1041.out
  have hcz58_0 : w37.cell? ⟨gb1041, 0, none⟩ = some (.slice none 0 0) := bc_ BK1041 0
  have hcz58_1 : w37.cell? ⟨gb1041, 1, none⟩ = some (.slice none 0 0) := bc_ BK1041 1
  have hcz58_2 : w37.cell? ⟨gb1041, 2, none⟩ = some (.slice none 0 0) := bc_ BK1041 2
  have hfz58_0 := blk_frozen BK1041.out 0
  have hfz58_1 := blk_frozen BK1041.out 1
  have hfz58_2 := blk_frozen BK1041.out 2
  have hnb59 := NB1020_999.out
  have hnc59 := NB999_1020.out
  have hnb60 := NB1020_1030.out
  have hnc60 := NB1030_1020.out
  have hcz61_0 : w37.cell? ⟨gb1020, 0, none⟩ = some (.slice Ao22 t1010.length co22) := bc_ BK1020 0
  have hcz61_1 : w37.cell? ⟨gb1020, 1, none⟩ = some (.slice Ao25 t1013.length co25) := bc_ BK1020 1
  have hcz61_2 : w37.cell? ⟨gb1020, 2, none⟩ = some (.slice Ao26 t1016.length co26) := bc_ BK1020 2
  have hfz61_0 := blk_frozen BK1020.out 0
  have hfz61_1 := blk_frozen BK1020.out 1
  have hfz61_2 := blk_frozen BK1020.out 2
  go_wp2_with (first | ((with_reducible refine gate_callee (f := 34) rfl ?_); refine goesL_ (some 34) rfl rfl Try.func34 (by kernel_rfl) rfl #[.agg #[.slice Ao38 t1031.length co38, .slice Ao43 t1034.length co43, .slice Ao44 t1037.length co44], .agg #[.slice Ao22 t1010.length co22, .slice Ao25 t1013.length co25, .slice Ao26 t1016.length co26]] rfl tm_ ?_; (with_reducible refine (laws_eqPair.calls k _ _ t1031 _ _ t1034 _ _ t1037 _ _ t1010 _ _ t1013 _ _ t1016 false _ ?side1 ?side2 ?side3 ?side4 ?side5 ?side6 ?side7 ?side8 ?side9 ?side10 ?side11 ?side12 A45.out).mono ?_); (case side1 => exact rr_ (fm3_ HO1033 BK1041)); (case side2 => exact (Kd.R_reads' HO1033.out).2.1); (case side3 => exact rr_ (fm3_ HO1036 BK1041)); (case side4 => exact (Kd.R_reads' HO1036.out).2.1); (case side5 => exact rr_ (fm3_ HO1039 BK1041)); (case side6 => exact (Kd.R_reads' HO1039.out).2.1); (case side7 => exact rr_ (fm3_ HO1012 BK1041)); (case side8 => exact (Kd.R_reads' HO1012.out).2.1); (case side9 => exact rr_ (fm3_ HO1015 BK1041)); (case side10 => exact (Kd.R_reads' HO1015.out).2.1); (case side11 => exact rr_ (fm3_ HO1018 BK1041)); (case side12 => exact (Kd.R_reads' HO1018.out).2.1); rintro e w62 ⟨rfl, hb⟩; refine ⟨_, rfl, ?_⟩; replace HO1003 := rb3_ HO1003 BK1041 hb; replace HO1006 := rb3_ HO1006 BK1041 hb; replace HO1009 := rb3_ HO1009 BK1041 hb; replace HO1012 := rb3_ HO1012 BK1041 hb; replace HO1015 := rb3_ HO1015 BK1041 hb; replace HO1018 := rb3_ HO1018 BK1041 hb; replace HO1023 := rb3_ HO1023 BK1041 hb; replace HO1026 := rb3_ HO1026 BK1041 hb; replace HO1029 := rb3_ HO1029 BK1041 hb; replace HO1033 := rb3_ HO1033 BK1041 hb; replace HO1036 := rb3_ HO1036 BK1041 hb; replace HO1039 := rb3_ HO1039 BK1041 hb; replace BK999 := Aside0.mk (blk_below (bx BK999) hb); replace BK1020 := Aside0.mk (blk_below (bx BK1020) hb); replace BK1030 := Aside0.mk (blk_below (bx BK1030) hb); replace BK1041 := Aside0.mk (blk_below (g := gb1041) (o := .cells #[.slice Ao38 t1031.length co38, .slice Ao43 t1034.length co43, .slice Ao44 t1037.length co44] 47 (0, 0)) (by (with_reducible repeat (first | refine blk_drewN ?_ _ | refine blk_drew ?_ | refine blk_alloc ?_ _)); refine blk_put (cs := #[.slice Ao38 t1031.length co38, .slice Ao43 t1034.length co43, .slice none 0 0]) ?_ 2 _ rfl; (with_reducible repeat (first | refine blk_drewN ?_ _ | refine blk_drew ?_ | refine blk_alloc ?_ _)); refine blk_put (cs := #[.slice Ao38 t1031.length co38, .slice none 0 0, .slice none 0 0]) ?_ 1 _ rfl; (with_reducible repeat (first | refine blk_drewN ?_ _ | refine blk_drew ?_ | refine blk_alloc ?_ _)); refine blk_put (cs := #[.slice none 0 0, .slice none 0 0, .slice none 0 0]) ?_ 0 _ rfl; (with_reducible repeat (first | refine blk_drewN ?_ _ | refine blk_drew ?_ | refine blk_alloc ?_ _)); exact BK1041.out) hb); replace HB := bst_ HB hb; clear hb))
  go_meet
  case rel => exact ⟨_, (true), (by first | rfl | (simp; done) | (simp [*]; done)), H', ⟨by first | omega | exact Nat.le_refl _⟩, rm_ HO1012 (fun _ hk => ⟨hk.1.1.1.1.1.1, ⟨hk.1.1.1.2, ⟨hk.1.1.2, ⟨hk.1.2, hk.2⟩⟩⟩⟩), rm_ HO1015 (fun _ hk => ⟨hk.1.1.1.1.1.1, ⟨hk.1.1.1.2, ⟨hk.1.1.2, ⟨hk.1.2, hk.2⟩⟩⟩⟩), rm_ HO1018 (fun _ hk => ⟨hk.1.2, hk.2⟩), rm_ HO1023 (fun _ hk => ⟨hk.1.1.1.2, ⟨hk.1.1.2, ⟨hk.1.1.1.1.1.1, ⟨hk.1.2, hk.2⟩⟩⟩⟩), rm_ HO1026 (fun _ hk => ⟨hk.1.1.1.2, ⟨hk.1.1.2, ⟨hk.1.1.1.1.1.1, ⟨hk.1.2, hk.2⟩⟩⟩⟩), rm_ HO1029 (fun _ hk => ⟨hk.1.2, hk.2⟩), rm_ HO1033 (fun _ hk => ⟨hk.1.1.1.2, ⟨hk.1.1.2, ⟨hk.1.2, ⟨hk.2, hk.1.1.1.1.1.1⟩⟩⟩⟩), rm_ HO1036 (fun _ hk => ⟨hk.1.1.1.2, ⟨hk.1.1.2, ⟨hk.1.2, ⟨hk.2, hk.1.1.1.1.1.1⟩⟩⟩⟩), rm_ HO1039 (fun _ hk => ⟨hk.1.2, hk.2⟩), ⟨by (with_reducible repeat (first | refine blk_drewN ?_ _ | refine blk_drew ?_ | refine blk_alloc ?_ _)); exact BK999.out⟩, ⟨by (with_reducible repeat (first | refine blk_drewN ?_ _ | refine blk_drew ?_ | refine blk_alloc ?_ _)); exact BK1020.out⟩, ⟨by (with_reducible repeat (first | refine blk_drewN ?_ _ | refine blk_drew ?_ | refine blk_alloc ?_ _)); exact BK1030.out⟩, ⟨by (with_reducible repeat (first | refine blk_drewN ?_ _ | refine blk_drew ?_ | refine blk_alloc ?_ _)); exact BK1041.out⟩, ⟨hB HB⟩⟩
 case rest =>
  clear HC11
  try clear c3
  try clear c3b0
  try clear hcz13_0
  try clear hcz13_1
  try clear hcz13_2
  try clear hcz15_0
  try clear hcz15_1
  try clear hcz15_2
  try clear hcz24_0
  try clear hcz24_1
  try clear hcz24_2
  try clear hcz27_0
  try clear hcz27_1
  try clear hcz27_2
  try clear hcz33_0
  try clear hcz33_1
  try clear hcz33_2
  try clear hcz42_0
  try clear hcz42_1
  try clear hcz42_2
  try clear hfz13_0
  try clear hfz13_1
  try clear hfz13_2
  try clear hfz15_0
  try clear hfz15_1
  try clear hfz15_2
  try clear hfz24_0
  try clear hfz24_1
  try clear hfz24_2
  try clear hfz27_0
  try clear hfz27_1
  try clear hfz27_2
  try clear hfz33_0
  try clear hfz33_1
  try clear hfz33_2
  try clear hfz42_0
  try clear hfz42_1
  try clear hfz42_2
  obtain ⟨kq, x40_10, rfl, HA, HJ10, HO_1021000, HO_1021001, HO_1021002, HO_1031000, HO_1031001, HO_1031002, HO_1042000, HO_1042001, HO_1042002, BK999, BK1020, BK1030, BK1041, HB⟩ := hcut
  cases kq with
  | zero => exact absurd HA.out (by simp [laws_FnExactSettlePair.j0])
  | succ kj10 =>
   have H := HA.out
   clear HA
   simp only [laws_FnExactSettlePair.j0] at H
   by_cases c63 : x40_10 = true
   ·subst c63
    rw [if_pos rfl] at H
    obtain rfl := Option.some.inj H
    go_wp2
    go_ret
    exact ⟨by first | rfl | (simp [errW_none, errW_some] <;> rfl) | (simp [*, errW_none, errW_some] <;> rfl), by repeat (first | (with_reducible first | exact HB.out | apply below_alloc | apply pw_below_drewN | apply below_drew1 | refine below_set ?_ GE999.out | refine below_set ?_ GE1020.out | refine below_set ?_ GE1030.out | refine below_set ?_ GE1041.out) | exact HB.out)⟩
   replace c63 := Bool.eq_false_iff.mpr c63
   subst c63
   rw [if_neg (show ¬ (false = true) by decide)] at H
   replace H := Option.bind_eq_some_iff.mp H
   obtain ⟨⟨t1043, t1046, t1049⟩, A640, H⟩ := H
   replace H : ((laws_eqPair.f kj10 t1021 t1024 t1027 t1043 t1046 t1049).bind fun t1052 => (if t1052 = true then ((laws_markPair.f kj10 t1021 t1024 t1027 1).bind fun bt1053 => (if bt1053.1 < 0 then (laws_FnExactSettlePair.j1 kj10 t1019 true l0_0 l0_1 l0_2 t1010 t1013 t1016 t1031 t1034 t1037) else ((laws_eqPair.f kj10 t1031 t1034 t1037 t1010 t1013 t1016).bind fun t1057 => (if t1057 = true then (laws_FnExactSettlePair.j1 kj10 t1019 (t1040 != t1019) l0_0 l0_1 l0_2 t1010 t1013 t1016 t1031 t1034 t1037) else (laws_FnExactSettlePair.j1 kj10 t1019 true l0_0 l0_1 l0_2 t1010 t1013 t1016 t1031 t1034 t1037))))) else (some false))) = some r := H
   have A64 := Aside0.mk A640
   clear A640
   replace H := Option.bind_eq_some_iff.mp H
   obtain ⟨t1052, A650, H⟩ := H
   replace H : (if t1052 = true then ((laws_markPair.f kj10 t1021 t1024 t1027 1).bind fun bt1053 => (if bt1053.1 < 0 then (laws_FnExactSettlePair.j1 kj10 t1019 true l0_0 l0_1 l0_2 t1010 t1013 t1016 t1031 t1034 t1037) else ((laws_eqPair.f kj10 t1031 t1034 t1037 t1010 t1013 t1016).bind fun t1057 => (if t1057 = true then (laws_FnExactSettlePair.j1 kj10 t1019 (t1040 != t1019) l0_0 l0_1 l0_2 t1010 t1013 t1016 t1031 t1034 t1037) else (laws_FnExactSettlePair.j1 kj10 t1019 true l0_0 l0_1 l0_2 t1010 t1013 t1016 t1031 t1034 t1037))))) else (some false)) = some r := H
   have A65 := Aside0.mk A650
   clear A650
   by_cases c66 : t1052 = true
   rotate_left
   ·replace c66 := Bool.eq_false_iff.mpr c66
    subst c66
    rw [if_neg (show ¬ (false = true) by decide)] at H
    obtain rfl := Option.some.inj H
    try go_wp2
    replace HO_1021000 := rd_ HO_1021000
    replace HO_1021001 := rd_ HO_1021001
    replace HO_1021002 := rd_ HO_1021002
    replace HO_1031000 := rd_ HO_1031000
    replace HO_1031001 := rd_ HO_1031001
    replace HO_1031002 := rd_ HO_1031002
    replace HO_1042000 := rd_ HO_1042000
    replace HO_1042001 := rd_ HO_1042001
    replace HO_1042002 := rd_ HO_1042002
    replace BK999 := bd_ BK999
    replace BK1020 := bd_ BK1020
    replace BK1030 := bd_ BK1030
    replace BK1041 := bd_ BK1041
    replace HB := Aside0.mk (below_drew1 HB.out)
    refine start_ (n := 5) (S := fun w' => w'.cell? ⟨gb1030, 0, none⟩ = some (.slice Ao30 t1021.length co30) ∧ w'.cell? ⟨gb1030, 1, none⟩ = some (.slice Ao34 t1024.length co34) ∧ w'.cell? ⟨gb1030, 2, none⟩ = some (.slice Ao35 t1027.length co35) ∧ w'.cell? ⟨gb999, 0, none⟩ = some (.slice A0_0 l0_0.length c0_0) ∧ w'.cell? ⟨gb999, 1, none⟩ = some (.slice A0_1 l0_1.length c0_1) ∧ w'.cell? ⟨gb999, 2, none⟩ = some (.slice A0_2 l0_2.length c0_2)) (ds := []) (bs 5 0) (by kernel_rfl) rfl rfl ⟨bc_ BK1030 0, bc_ BK1030 1, bc_ BK1030 2, bc_ BK999 0, bc_ BK999 1, bc_ BK999 2⟩ (fun hHeld => ?_)
    generalize wc.drew = w189 at HO_1021000 HO_1021001 HO_1021002 HO_1031000 HO_1031001 HO_1031002 HO_1042000 HO_1042001 HO_1042002 BK999 BK1020 BK1030 BK1041 HB hHeld ⊢
    refine take_ (i := 0) (N := some 41) (v := ?_) (a' := ?_) (bs 5 1) rfl rfl (by kernel_rfl) (fun _ _ _ h => h) (Or.inl ⟨by rfl, ?_⟩) hHeld ?_ ?_
    rotate_left
    ·rintro w' ⟨s0, s1, s2, s3, s4, s5⟩
     go_simp
     with_reducible rfl
    rotate_left
    ·simp only [Act.put, List.setIfInBounds_toArray, List.set_cons_zero, List.set_cons_succ, i64_w, i32_w]
     rfl
    refine take_ (i := 1) (N := some 42) (v := ?_) (a' := ?_) (bs 5 3) rfl rfl (by kernel_rfl) (fun _ _ _ h => h) (Or.inl ⟨by rfl, ?_⟩) hHeld ?_ ?_
    rotate_left
    ·rintro w' ⟨s0, s1, s2, s3, s4, s5⟩
     go_simp
     with_reducible rfl
    rotate_left
    ·simp only [Act.put, List.setIfInBounds_toArray, List.set_cons_zero, List.set_cons_succ, i64_w, i32_w]
     rfl
    refine one_ (i := 2) (N := some 43) (bs 5 7) rfl rfl (by kernel_rfl) (by decide) (fun K hK => ?_)
    refine goes_ Try.func31 (by kernel_rfl) rfl #[.agg #[.slice A0_0 l0_0.length c0_0, .slice A0_1 l0_1.length c0_1, .slice A0_2 l0_2.length c0_2]] (by rfl) rfl rfl tm_ ?_
    with_reducible refine (laws_toPair.calls kj10 _ _ l0_0 _ _ l0_1 _ _ l0_2 t1043 t1046 t1049 _ ?side1 ?side2 ?side3 ?side4 ?side5 ?side6 A64.out).mono ?_
    (case side1 => exact ca (Kd.C_below HR0_0.out HB.out))
    (case side2 => exact HC0_0.out)
    (case side3 => exact ca (Kd.C_below HR0_1.out HB.out))
    (case side4 => exact HC0_1.out)
    (case side5 => exact ca (Kd.C_below HR0_2.out HB.out))
    (case side6 => exact HC0_2.out)
    rintro e w190 ⟨v1044, v1047, v1050, rfl, ho0, ho1, ho2, hb⟩
    refine ⟨_, rfl, ?_⟩
    have HO1045 := Aside0.mk (Kd.R_lower (Kd.R_new' (Kd.R_new' (Kd.R_new' (Kd.R_new' (Kd.R_new' (Kd.R_new' ho0 (rl_ HO_1021000)) (rl_ HO_1021001)) (rl_ HO_1031000)) (rl_ HO_1031001)) (rl_ HO_1042000)) (rl_ HO_1042001)) (below_size (hB HB)))
    have HO1048 := Aside0.mk (Kd.R_lower (Kd.R_new' (Kd.R_new' (Kd.R_new' (Kd.R_new' (Kd.R_new' (Kd.R_new' ho1 (rl_ HO_1021000)) (rl_ HO_1021001)) (rl_ HO_1031000)) (rl_ HO_1031001)) (rl_ HO_1042000)) (rl_ HO_1042001)) (below_size (hB HB)))
    have HO1051 := Aside0.mk (Kd.R_lower (Kd.R_new' (Kd.R_new' (Kd.R_new' ho2 (rl_ HO_1021002)) (rl_ HO_1031002)) (rl_ HO_1042002)) (below_size (hB HB)))
    replace HO_1021000 := rt2_ HO_1021000 hb ho0 ho1
    replace HO_1021001 := rt2_ HO_1021001 hb ho0 ho1
    replace HO_1021002 := re_ HO_1021002 ho2 hb
    replace HO_1031000 := rt2_ HO_1031000 hb ho0 ho1
    replace HO_1031001 := rt2_ HO_1031001 hb ho0 ho1
    replace HO_1031002 := re_ HO_1031002 ho2 hb
    replace HO_1042000 := rt2_ HO_1042000 hb ho0 ho1
    replace HO_1042001 := rt2_ HO_1042001 hb ho0 ho1
    replace HO_1042002 := re_ HO_1042002 ho2 hb
    replace BK999 := bb_ BK999 hb
    replace BK1020 := bb_ BK1020 hb
    replace BK1030 := bb_ BK1030 hb
    replace BK1041 := bb_ BK1041 hb
    replace HB := bst_ HB hb
    clear hb ho0 ho1 ho2
    obtain ⟨Ao191, co191, eo191⟩ := Kd.R_slice HO1045.out
    (first | subst eo191 | (injection eo191 with f1_ f2_ f3_; have f4_ := f1_.symm; have f5_ := f3_.symm; clear f1_ f2_ f3_; subst f4_; subst f5_))
    obtain ⟨Ao192, co192, eo192⟩ := Kd.R_slice HO1048.out
    (first | subst eo192 | (injection eo192 with f1_ f2_ f3_; have f4_ := f1_.symm; have f5_ := f3_.symm; clear f1_ f2_ f3_; subst f4_; subst f5_))
    obtain ⟨Ao193, co193, eo193⟩ := Kd.R_slice HO1051.out
    (first | subst eo193 | (injection eo193 with f1_ f2_ f3_; have f4_ := f1_.symm; have f5_ := f3_.symm; clear f1_ f2_ f3_; subst f4_; subst f5_))
    refine hK.out _ _ ⟨bc_ BK1030 0, bc_ BK1030 1, bc_ BK1030 2, bc_ BK999 0, bc_ BK999 1, bc_ BK999 2⟩ (fun hHeld => ?_)
    clear hK K
    refine nm_ 43 ?_
    refine one_ (i := 3) (N := some 44) (bs 5 15) rfl rfl (by kernel_rfl) (by decide) (fun K hK => ?_)
    refine goes_ Try.func34 (by kernel_rfl) rfl #[.agg #[.slice Ao30 t1021.length co30, .slice Ao34 t1024.length co34, .slice Ao35 t1027.length co35], .agg #[.slice Ao191 t1043.length co191, .slice Ao192 t1046.length co192, .slice Ao193 t1049.length co193]] (by rfl) rfl rfl tm_ ?_
    with_reducible refine (laws_eqPair.calls kj10 _ _ t1021 _ _ t1024 _ _ t1027 _ _ t1043 _ _ t1046 _ _ t1049 false _ ?side1 ?side2 ?side3 ?side4 ?side5 ?side6 ?side7 ?side8 ?side9 ?side10 ?side11 ?side12 A65.out).mono ?_
    (case side1 => exact ca (Kd.R_reads' HO_1031000.out).2.2)
    (case side2 => exact (Kd.R_reads' HO_1031000.out).2.1)
    (case side3 => exact ca (Kd.R_reads' HO_1031001.out).2.2)
    (case side4 => exact (Kd.R_reads' HO_1031001.out).2.1)
    (case side5 => exact ca (Kd.R_reads' HO_1031002.out).2.2)
    (case side6 => exact (Kd.R_reads' HO_1031002.out).2.1)
    (case side7 => exact ca (Kd.R_reads' HO1045.out).2.2)
    (case side8 => exact (Kd.R_reads' HO1045.out).2.1)
    (case side9 => exact ca (Kd.R_reads' HO1048.out).2.2)
    (case side10 => exact (Kd.R_reads' HO1048.out).2.1)
    (case side11 => exact ca (Kd.R_reads' HO1051.out).2.2)
    (case side12 => exact (Kd.R_reads' HO1051.out).2.1)
    rintro e w194 ⟨rfl, hb⟩
    refine ⟨_, rfl, ?_⟩
    replace HO_1021000 := rb_ HO_1021000 hb
    replace HO_1021001 := rb_ HO_1021001 hb
    replace HO_1021002 := rb_ HO_1021002 hb
    replace HO_1031000 := rb_ HO_1031000 hb
    replace HO_1031001 := rb_ HO_1031001 hb
    replace HO_1031002 := rb_ HO_1031002 hb
    replace HO_1042000 := rb_ HO_1042000 hb
    replace HO_1042001 := rb_ HO_1042001 hb
    replace HO_1042002 := rb_ HO_1042002 hb
    replace HO1045 := rb_ HO1045 hb
    replace HO1048 := rb_ HO1048 hb
    replace HO1051 := rb_ HO1051 hb
    replace BK999 := bb_ BK999 hb
    replace BK1020 := bb_ BK1020 hb
    replace BK1030 := bb_ BK1030 hb
    replace BK1041 := bb_ BK1041 hb
    replace HB := bst_ HB hb
    clear hb
    refine hK.out _ _ ⟨bc_ BK1030 0, bc_ BK1030 1, bc_ BK1030 2, bc_ BK999 0, bc_ BK999 1, bc_ BK999 2⟩ (fun hHeld => ?_)
    clear hK K
    refine nm_ 44 ?_
    refine pure_ (i := 4) (N := some 45) (v := ?_) (a' := ?_) (bs 5 31) rfl rfl (by kernel_rfl) (fun _ _ _ h => h) (Or.inl ⟨by rfl, ?_⟩) ?_ ?_
    rotate_left
    ·intro w'
     go_simp
     with_reducible rfl
    rotate_left
    ·simp only [Act.put, List.setIfInBounds_toArray, List.set_cons_zero, List.set_cons_succ, i64_w, i32_w]
     rfl
    refine done_ (by kernel_rfl) ?_
    try go_wp2
    go_ret
    exact ⟨by first | rfl | (simp [errW_none, errW_some] <;> rfl) | (simp [*, errW_none, errW_some] <;> rfl), by repeat (first | (with_reducible first | exact HB.out | apply below_alloc | apply pw_below_drewN | apply below_drew1 | refine below_set ?_ GE999.out | refine below_set ?_ GE1020.out | refine below_set ?_ GE1030.out | refine below_set ?_ GE1041.out) | exact HB.out)⟩
   subst c66
   rw [if_pos rfl] at H
   replace H := Option.bind_eq_some_iff.mp H
   obtain ⟨⟨t1053, t1054, t1055, t1056⟩, A670, H⟩ := H
   replace H : (if t1053 < 0 then (laws_FnExactSettlePair.j1 kj10 t1019 true l0_0 l0_1 l0_2 t1010 t1013 t1016 t1031 t1034 t1037) else ((laws_eqPair.f kj10 t1031 t1034 t1037 t1010 t1013 t1016).bind fun t1057 => (if t1057 = true then (laws_FnExactSettlePair.j1 kj10 t1019 (t1040 != t1019) l0_0 l0_1 l0_2 t1010 t1013 t1016 t1031 t1034 t1037) else (laws_FnExactSettlePair.j1 kj10 t1019 true l0_0 l0_1 l0_2 t1010 t1013 t1016 t1031 t1034 t1037)))) = some r := H
   have A67 := Aside0.mk A670
   clear A670
   have HC68 := Aside0.mk H
   clear H
   try go_wp2
   replace HO_1021000 := rd_ HO_1021000
   replace HO_1021001 := rd_ HO_1021001
   replace HO_1021002 := rd_ HO_1021002
   replace HO_1031000 := rd_ HO_1031000
   replace HO_1031001 := rd_ HO_1031001
   replace HO_1031002 := rd_ HO_1031002
   replace HO_1042000 := rd_ HO_1042000
   replace HO_1042001 := rd_ HO_1042001
   replace HO_1042002 := rd_ HO_1042002
   replace BK999 := bd_ BK999
   replace BK1020 := bd_ BK1020
   replace BK1030 := bd_ BK1030
   replace BK1041 := bd_ BK1041
   replace HB := Aside0.mk (below_drew1 HB.out)
   refine start_ (n := 5) (S := fun w' => w'.cell? ⟨gb1030, 0, none⟩ = some (.slice Ao30 t1021.length co30) ∧ w'.cell? ⟨gb1030, 1, none⟩ = some (.slice Ao34 t1024.length co34) ∧ w'.cell? ⟨gb1030, 2, none⟩ = some (.slice Ao35 t1027.length co35) ∧ w'.cell? ⟨gb999, 0, none⟩ = some (.slice A0_0 l0_0.length c0_0) ∧ w'.cell? ⟨gb999, 1, none⟩ = some (.slice A0_1 l0_1.length c0_1) ∧ w'.cell? ⟨gb999, 2, none⟩ = some (.slice A0_2 l0_2.length c0_2)) (ds := []) (bs 5 0) (by kernel_rfl) rfl rfl ⟨bc_ BK1030 0, bc_ BK1030 1, bc_ BK1030 2, bc_ BK999 0, bc_ BK999 1, bc_ BK999 2⟩ (fun hHeld => ?_)
   generalize wc.drew = w69 at HO_1021000 HO_1021001 HO_1021002 HO_1031000 HO_1031001 HO_1031002 HO_1042000 HO_1042001 HO_1042002 BK999 BK1020 BK1030 BK1041 HB hHeld ⊢
   refine take_ (i := 0) (N := some 41) (v := ?_) (a' := ?_) (bs 5 1) rfl rfl (by kernel_rfl) (fun _ _ _ h => h) (Or.inl ⟨by rfl, ?_⟩) hHeld ?_ ?_
   rotate_left
   ·rintro w' ⟨s0, s1, s2, s3, s4, s5⟩
    go_simp
    with_reducible rfl
   rotate_left
   ·simp only [Act.put, List.setIfInBounds_toArray, List.set_cons_zero, List.set_cons_succ, i64_w, i32_w]
    rfl
   refine take_ (i := 1) (N := some 42) (v := ?_) (a' := ?_) (bs 5 3) rfl rfl (by kernel_rfl) (fun _ _ _ h => h) (Or.inl ⟨by rfl, ?_⟩) hHeld ?_ ?_
   rotate_left
   ·rintro w' ⟨s0, s1, s2, s3, s4, s5⟩
    go_simp
    with_reducible rfl
   rotate_left
   ·simp only [Act.put, List.setIfInBounds_toArray, List.set_cons_zero, List.set_cons_succ, i64_w, i32_w]
    rfl
   refine one_ (i := 2) (N := some 43) (bs 5 7) rfl rfl (by kernel_rfl) (by decide) (fun K hK => ?_)
   refine goes_ Try.func31 (by kernel_rfl) rfl #[.agg #[.slice A0_0 l0_0.length c0_0, .slice A0_1 l0_1.length c0_1, .slice A0_2 l0_2.length c0_2]] (by rfl) rfl rfl tm_ ?_
   with_reducible refine (laws_toPair.calls kj10 _ _ l0_0 _ _ l0_1 _ _ l0_2 t1043 t1046 t1049 _ ?side1 ?side2 ?side3 ?side4 ?side5 ?side6 A64.out).mono ?_
   (case side1 => exact ca (Kd.C_below HR0_0.out HB.out))
   (case side2 => exact HC0_0.out)
   (case side3 => exact ca (Kd.C_below HR0_1.out HB.out))
   (case side4 => exact HC0_1.out)
   (case side5 => exact ca (Kd.C_below HR0_2.out HB.out))
   (case side6 => exact HC0_2.out)
   rintro e w70 ⟨v1044, v1047, v1050, rfl, ho0, ho1, ho2, hb⟩
   refine ⟨_, rfl, ?_⟩
   have HO1045 := Aside0.mk (Kd.R_lower (Kd.R_new' (Kd.R_new' (Kd.R_new' (Kd.R_new' (Kd.R_new' (Kd.R_new' ho0 (rl_ HO_1021000)) (rl_ HO_1021001)) (rl_ HO_1031000)) (rl_ HO_1031001)) (rl_ HO_1042000)) (rl_ HO_1042001)) (below_size (hB HB)))
   have HO1048 := Aside0.mk (Kd.R_lower (Kd.R_new' (Kd.R_new' (Kd.R_new' (Kd.R_new' (Kd.R_new' (Kd.R_new' ho1 (rl_ HO_1021000)) (rl_ HO_1021001)) (rl_ HO_1031000)) (rl_ HO_1031001)) (rl_ HO_1042000)) (rl_ HO_1042001)) (below_size (hB HB)))
   have HO1051 := Aside0.mk (Kd.R_lower (Kd.R_new' (Kd.R_new' (Kd.R_new' ho2 (rl_ HO_1021002)) (rl_ HO_1031002)) (rl_ HO_1042002)) (below_size (hB HB)))
   replace HO_1021000 := rt2_ HO_1021000 hb ho0 ho1
   replace HO_1021001 := rt2_ HO_1021001 hb ho0 ho1
   replace HO_1021002 := re_ HO_1021002 ho2 hb
   replace HO_1031000 := rt2_ HO_1031000 hb ho0 ho1
   replace HO_1031001 := rt2_ HO_1031001 hb ho0 ho1
   replace HO_1031002 := re_ HO_1031002 ho2 hb
   replace HO_1042000 := rt2_ HO_1042000 hb ho0 ho1
   replace HO_1042001 := rt2_ HO_1042001 hb ho0 ho1
   replace HO_1042002 := re_ HO_1042002 ho2 hb
   replace BK999 := bb_ BK999 hb
   replace BK1020 := bb_ BK1020 hb
   replace BK1030 := bb_ BK1030 hb
   replace BK1041 := bb_ BK1041 hb
   replace HB := bst_ HB hb
   clear hb ho0 ho1 ho2
   obtain ⟨Ao71, co71, eo71⟩ := Kd.R_slice HO1045.out
   (first | subst eo71 | (injection eo71 with f1_ f2_ f3_; have f4_ := f1_.symm; have f5_ := f3_.symm; clear f1_ f2_ f3_; subst f4_; subst f5_))
   obtain ⟨Ao72, co72, eo72⟩ := Kd.R_slice HO1048.out
   (first | subst eo72 | (injection eo72 with f1_ f2_ f3_; have f4_ := f1_.symm; have f5_ := f3_.symm; clear f1_ f2_ f3_; subst f4_; subst f5_))
   obtain ⟨Ao73, co73, eo73⟩ := Kd.R_slice HO1051.out
   (first | subst eo73 | (injection eo73 with f1_ f2_ f3_; have f4_ := f1_.symm; have f5_ := f3_.symm; clear f1_ f2_ f3_; subst f4_; subst f5_))
   refine hK.out _ _ ⟨bc_ BK1030 0, bc_ BK1030 1, bc_ BK1030 2, bc_ BK999 0, bc_ BK999 1, bc_ BK999 2⟩ (fun hHeld => ?_)
   clear hK K
   refine nm_ 43 ?_
   refine one_ (i := 3) (N := some 44) (bs 5 15) rfl rfl (by kernel_rfl) (by decide) (fun K hK => ?_)
   refine goes_ Try.func34 (by kernel_rfl) rfl #[.agg #[.slice Ao30 t1021.length co30, .slice Ao34 t1024.length co34, .slice Ao35 t1027.length co35], .agg #[.slice Ao71 t1043.length co71, .slice Ao72 t1046.length co72, .slice Ao73 t1049.length co73]] (by rfl) rfl rfl tm_ ?_
   with_reducible refine (laws_eqPair.calls kj10 _ _ t1021 _ _ t1024 _ _ t1027 _ _ t1043 _ _ t1046 _ _ t1049 true _ ?side1 ?side2 ?side3 ?side4 ?side5 ?side6 ?side7 ?side8 ?side9 ?side10 ?side11 ?side12 A65.out).mono ?_
   (case side1 => exact ca (Kd.R_reads' HO_1031000.out).2.2)
   (case side2 => exact (Kd.R_reads' HO_1031000.out).2.1)
   (case side3 => exact ca (Kd.R_reads' HO_1031001.out).2.2)
   (case side4 => exact (Kd.R_reads' HO_1031001.out).2.1)
   (case side5 => exact ca (Kd.R_reads' HO_1031002.out).2.2)
   (case side6 => exact (Kd.R_reads' HO_1031002.out).2.1)
   (case side7 => exact ca (Kd.R_reads' HO1045.out).2.2)
   (case side8 => exact (Kd.R_reads' HO1045.out).2.1)
   (case side9 => exact ca (Kd.R_reads' HO1048.out).2.2)
   (case side10 => exact (Kd.R_reads' HO1048.out).2.1)
   (case side11 => exact ca (Kd.R_reads' HO1051.out).2.2)
   (case side12 => exact (Kd.R_reads' HO1051.out).2.1)
   rintro e w74 ⟨rfl, hb⟩
   refine ⟨_, rfl, ?_⟩
   replace HO_1021000 := rb_ HO_1021000 hb
   replace HO_1021001 := rb_ HO_1021001 hb
   replace HO_1021002 := rb_ HO_1021002 hb
   replace HO_1031000 := rb_ HO_1031000 hb
   replace HO_1031001 := rb_ HO_1031001 hb
   replace HO_1031002 := rb_ HO_1031002 hb
   replace HO_1042000 := rb_ HO_1042000 hb
   replace HO_1042001 := rb_ HO_1042001 hb
   replace HO_1042002 := rb_ HO_1042002 hb
   replace HO1045 := rb_ HO1045 hb
   replace HO1048 := rb_ HO1048 hb
   replace HO1051 := rb_ HO1051 hb
   replace BK999 := bb_ BK999 hb
   replace BK1020 := bb_ BK1020 hb
   replace BK1030 := bb_ BK1030 hb
   replace BK1041 := bb_ BK1041 hb
   replace HB := bst_ HB hb
   clear hb
   refine hK.out _ _ ⟨bc_ BK1030 0, bc_ BK1030 1, bc_ BK1030 2, bc_ BK999 0, bc_ BK999 1, bc_ BK999 2⟩ (fun hHeld => ?_)
   clear hK K
   refine nm_ 44 ?_
   refine pure_ (i := 4) (N := some 45) (v := ?_) (a' := ?_) (bs 5 31) rfl rfl (by kernel_rfl) (fun _ _ _ h => h) (Or.inl ⟨by rfl, ?_⟩) ?_ ?_
   rotate_left
   ·intro w'
    go_simp
    with_reducible rfl
   rotate_left
   ·simp only [Act.put, List.setIfInBounds_toArray, List.set_cons_zero, List.set_cons_succ, i64_w, i32_w]
    rfl
   refine done_ (by kernel_rfl) ?_
   have hnb75 := NB1030_999.out
   have hnc75 := NB999_1030.out
   have hnb76 := NB1030_1020.out
   have hnc76 := NB1020_1030.out
   have hnb77 := NB1030_1041.out
   have hnc77 := NB1041_1030.out
   have hcz78_0 : w74.cell? ⟨gb1030, 0, none⟩ = some (.slice Ao30 t1021.length co30) := bc_ BK1030 0
   have hcz78_1 : w74.cell? ⟨gb1030, 1, none⟩ = some (.slice Ao34 t1024.length co34) := bc_ BK1030 1
   have hcz78_2 : w74.cell? ⟨gb1030, 2, none⟩ = some (.slice Ao35 t1027.length co35) := bc_ BK1030 2
   have hfz78_0 := blk_frozen BK1030.out 0
   have hfz78_1 := blk_frozen BK1030.out 1
   have hfz78_2 := blk_frozen BK1030.out 2
   go_upto_region 14 with (first | ((with_reducible refine gate_callee (f := 35) rfl ?_); refine goesL_ (some 48) rfl rfl Try.func35 (by kernel_rfl) rfl #[.agg #[.slice Ao30 t1021.length co30, .slice Ao34 t1024.length co34, .slice Ao35 t1027.length co35], .int .i64 1] rfl tm_ ?_; (with_reducible refine (laws_markPair.calls kj10 (fun k_ => some k_ = (.slice Ao30 t1021.length co30 : Value).ownBlock) (.slice Ao30 t1021.length co30) t1021 (fun k_ => some k_ = (.slice Ao34 t1024.length co34 : Value).ownBlock) (.slice Ao34 t1024.length co34) t1024 (fun k_ => some k_ = (.slice Ao35 t1027.length co35 : Value).ownBlock) (.slice Ao35 t1027.length co35) t1027 1 t1053 t1054 t1055 t1056 w _ ?side1 ?side2 ?side3 ?side4 ?side5 ?side6 A67.out).mono ?_); (case side1 => repeat (first | (with_reducible first | exact HB.out | apply below_alloc | apply pw_below_drewN | apply below_drew1 | refine below_set ?_ GE999.out | refine below_set ?_ GE1020.out | refine below_set ?_ GE1030.out | refine below_set ?_ GE1041.out) | exact HB.out)); (case side2 => exact Kd.R_tight rfl HO_1031000.out); (case side3 => exact fun k_ e_ => (HO_1031000.out.1 k_ e_.symm).1.1.2.2.1); (case side4 => exact Kd.R_tight rfl HO_1031001.out); (case side5 => exact fun k_ e_ => (HO_1031001.out.1 k_ e_.symm).1.1.2.2.1); (case side6 => exact Kd.R_tight rfl HO_1031002.out); rintro e w79 ⟨rfl, hy0, hy1, hy2, hb, hkp⟩; refine ⟨_, rfl, ?_⟩; replace HO_1021000 := Aside0.mk (Kd.R_mono (ok' := fun k_ => no_ (.slice Ao25 t1013.length co25) k_ ∧ no_ (.slice Ao30 t1021.length co30) k_ ∧ no_ (.slice Ao34 t1024.length co34) k_ ∧ no_ (.slice Ao38 t1031.length co38) k_ ∧ no_ (.slice Ao43 t1034.length co43) k_ ∧ no_ (.slice Ao71 t1043.length co71) k_ ∧ no_ (.slice Ao72 t1046.length co72) k_) (Kd.R_keptB ((Kd.R_apart' HO_1021000.out (Kd.R_typed HO_1031002.out) (by decide))) hkp (fun k_ hk_ hs_ => Or.elim hs_ (fun e_ => (hk_.1.1.1.2.1) e_) (fun e_ => Or.elim e_ (fun e_ => (hk_.1.1.1.2.2.1) e_) (fun e_ => (hk_.2) e_)))) (fun k_ hk_ => ⟨hk_.1.1.1.1.1, hk_.1.1.1.1.2.1, hk_.1.1.1.1.2.2.1, hk_.1.1.1.1.2.2.2.1, hk_.1.1.1.1.2.2.2.2, hk_.1.1.1.2, hk_.1.1.2⟩)); replace HO_1021001 := Aside0.mk (Kd.R_mono (ok' := fun k_ => no_ (.slice Ao22 t1010.length co22) k_ ∧ no_ (.slice Ao30 t1021.length co30) k_ ∧ no_ (.slice Ao34 t1024.length co34) k_ ∧ no_ (.slice Ao38 t1031.length co38) k_ ∧ no_ (.slice Ao43 t1034.length co43) k_ ∧ no_ (.slice Ao71 t1043.length co71) k_ ∧ no_ (.slice Ao72 t1046.length co72) k_) (Kd.R_keptB ((Kd.R_apart' HO_1021001.out (Kd.R_typed HO_1031002.out) (by decide))) hkp (fun k_ hk_ hs_ => Or.elim hs_ (fun e_ => (hk_.1.1.1.2.1) e_) (fun e_ => Or.elim e_ (fun e_ => (hk_.1.1.1.2.2.1) e_) (fun e_ => (hk_.2) e_)))) (fun k_ hk_ => ⟨hk_.1.1.1.1.1, hk_.1.1.1.1.2.1, hk_.1.1.1.1.2.2.1, hk_.1.1.1.1.2.2.2.1, hk_.1.1.1.1.2.2.2.2, hk_.1.1.1.2, hk_.1.1.2⟩)); replace HO_1021002 := Aside0.mk (Kd.R_mono (ok' := fun k_ => no_ (.slice Ao35 t1027.length co35) k_ ∧ no_ (.slice Ao44 t1037.length co44) k_ ∧ no_ (.slice Ao73 t1049.length co73) k_) (Kd.R_keptB ((Kd.R_apart' (Kd.R_apart' HO_1021002.out (Kd.R_typed HO_1031000.out) (by decide)) (Kd.R_typed HO_1031001.out) (by decide))) hkp (fun k_ hk_ hs_ => Or.elim hs_ (fun e_ => (hk_.1.2) e_) (fun e_ => Or.elim e_ (fun e_ => (hk_.2) e_) (fun e_ => (hk_.1.1.1.1) e_)))) (fun k_ hk_ => ⟨hk_.1.1.1.1.1, hk_.1.1.1.1.2, hk_.1.1.1.2⟩)); replace HO_1042000 := Aside0.mk (Kd.R_mono (ok' := fun k_ => no_ (.slice Ao22 t1010.length co22) k_ ∧ no_ (.slice Ao25 t1013.length co25) k_ ∧ no_ (.slice Ao30 t1021.length co30) k_ ∧ no_ (.slice Ao34 t1024.length co34) k_ ∧ no_ (.slice Ao43 t1034.length co43) k_ ∧ no_ (.slice Ao71 t1043.length co71) k_ ∧ no_ (.slice Ao72 t1046.length co72) k_) (Kd.R_keptB ((Kd.R_apart' HO_1042000.out (Kd.R_typed HO_1031002.out) (by decide))) hkp (fun k_ hk_ hs_ => Or.elim hs_ (fun e_ => (hk_.1.1.1.2.2.1) e_) (fun e_ => Or.elim e_ (fun e_ => (hk_.1.1.1.2.2.2.1) e_) (fun e_ => (hk_.2) e_)))) (fun k_ hk_ => ⟨hk_.1.1.1.1.1, hk_.1.1.1.1.2.1, hk_.1.1.1.1.2.2.1, hk_.1.1.1.1.2.2.2.1, hk_.1.1.1.1.2.2.2.2, hk_.1.1.1.2, hk_.1.1.2⟩)); replace HO_1042001 := Aside0.mk (Kd.R_mono (ok' := fun k_ => no_ (.slice Ao22 t1010.length co22) k_ ∧ no_ (.slice Ao25 t1013.length co25) k_ ∧ no_ (.slice Ao30 t1021.length co30) k_ ∧ no_ (.slice Ao34 t1024.length co34) k_ ∧ no_ (.slice Ao38 t1031.length co38) k_ ∧ no_ (.slice Ao71 t1043.length co71) k_ ∧ no_ (.slice Ao72 t1046.length co72) k_) (Kd.R_keptB ((Kd.R_apart' HO_1042001.out (Kd.R_typed HO_1031002.out) (by decide))) hkp (fun k_ hk_ hs_ => Or.elim hs_ (fun e_ => (hk_.1.1.1.2.2.1) e_) (fun e_ => Or.elim e_ (fun e_ => (hk_.1.1.1.2.2.2.1) e_) (fun e_ => (hk_.2) e_)))) (fun k_ hk_ => ⟨hk_.1.1.1.1.1, hk_.1.1.1.1.2.1, hk_.1.1.1.1.2.2.1, hk_.1.1.1.1.2.2.2.1, hk_.1.1.1.1.2.2.2.2, hk_.1.1.1.2, hk_.1.1.2⟩)); replace HO_1042002 := Aside0.mk (Kd.R_mono (ok' := fun k_ => no_ (.slice Ao26 t1016.length co26) k_ ∧ no_ (.slice Ao35 t1027.length co35) k_ ∧ no_ (.slice Ao73 t1049.length co73) k_) (Kd.R_keptB ((Kd.R_apart' (Kd.R_apart' HO_1042002.out (Kd.R_typed HO_1031000.out) (by decide)) (Kd.R_typed HO_1031001.out) (by decide))) hkp (fun k_ hk_ hs_ => Or.elim hs_ (fun e_ => (hk_.1.2) e_) (fun e_ => Or.elim e_ (fun e_ => (hk_.2) e_) (fun e_ => (hk_.1.1.1.2) e_)))) (fun k_ hk_ => ⟨hk_.1.1.1.1.1, hk_.1.1.1.1.2, hk_.1.1.1.2⟩)); replace BK999 := Aside0.mk (blk_kept (ba BK999.out) hkp (fun hs_ => Or.elim hs_ (kne_ HO_1031000 BK999) (fun e_ => Or.elim e_ (kne_ HO_1031001 BK999) (kne_ HO_1031002 BK999)))); replace BK1020 := Aside0.mk (blk_kept (ba BK1020.out) hkp (fun hs_ => Or.elim hs_ (kne_ HO_1031000 BK1020) (fun e_ => Or.elim e_ (kne_ HO_1031001 BK1020) (kne_ HO_1031002 BK1020)))); replace BK1030 := Aside0.mk (blk_kept (ba BK1030.out) hkp (fun hs_ => Or.elim hs_ (kne_ HO_1031000 BK1030) (fun e_ => Or.elim e_ (kne_ HO_1031001 BK1030) (kne_ HO_1031002 BK1030)))); replace BK1041 := Aside0.mk (blk_kept (ba BK1041.out) hkp (fun hs_ => Or.elim hs_ (kne_ HO_1031000 BK1041) (fun e_ => Or.elim e_ (kne_ HO_1031001 BK1041) (kne_ HO_1031002 BK1041)))); replace HO1045 := Aside0.mk (Kd.R_mono (ok' := fun k_ => no_ (.slice Ao22 t1010.length co22) k_ ∧ no_ (.slice Ao25 t1013.length co25) k_ ∧ no_ (.slice Ao30 t1021.length co30) k_ ∧ no_ (.slice Ao34 t1024.length co34) k_ ∧ no_ (.slice Ao38 t1031.length co38) k_ ∧ no_ (.slice Ao43 t1034.length co43) k_ ∧ no_ (.slice Ao72 t1046.length co72) k_) (Kd.R_keptB ((Kd.R_apart' HO1045.out (Kd.R_typed HO_1031002.out) (by decide))) hkp (fun k_ hk_ hs_ => Or.elim hs_ (fun e_ => (hk_.1.1.1.1.2) e_) (fun e_ => Or.elim e_ (fun e_ => (hk_.1.1.1.2) e_) (fun e_ => (hk_.2) e_)))) (fun k_ hk_ => ⟨hk_.1.1.1.1.1.1.1.2, hk_.1.1.1.1.1.1.2, hk_.1.1.1.1.1.2, hk_.1.1.1.1.2, hk_.1.1.1.2, hk_.1.1.2, hk_.1.1.1.1.1.1.1.1⟩)); replace HO1048 := Aside0.mk (Kd.R_mono (ok' := fun k_ => no_ (.slice Ao22 t1010.length co22) k_ ∧ no_ (.slice Ao25 t1013.length co25) k_ ∧ no_ (.slice Ao30 t1021.length co30) k_ ∧ no_ (.slice Ao34 t1024.length co34) k_ ∧ no_ (.slice Ao38 t1031.length co38) k_ ∧ no_ (.slice Ao43 t1034.length co43) k_ ∧ no_ (.slice Ao71 t1043.length co71) k_) (Kd.R_keptB ((Kd.R_apart' HO1048.out (Kd.R_typed HO_1031002.out) (by decide))) hkp (fun k_ hk_ hs_ => Or.elim hs_ (fun e_ => (hk_.1.1.1.1.2) e_) (fun e_ => Or.elim e_ (fun e_ => (hk_.1.1.1.2) e_) (fun e_ => (hk_.2) e_)))) (fun k_ hk_ => ⟨hk_.1.1.1.1.1.1.1.2, hk_.1.1.1.1.1.1.2, hk_.1.1.1.1.1.2, hk_.1.1.1.1.2, hk_.1.1.1.2, hk_.1.1.2, hk_.1.1.1.1.1.1.1.1⟩)); replace HO_1031002 := Aside0.mk (Kd.R_reok rfl hy2 (fun k_ e_ => HO_1031002.out.1 k_ e_)); replace HO1051 := Aside0.mk (Kd.R_mono (ok' := fun k_ => no_ (.slice Ao26 t1016.length co26) k_ ∧ no_ (.slice Ao35 t1027.length co35) k_ ∧ no_ (.slice Ao44 t1037.length co44) k_) (Kd.R_keptB ((Kd.R_apart' (Kd.R_apart' HO1051.out (Kd.R_typed HO_1031000.out) (by decide)) (Kd.R_typed HO_1031001.out) (by decide))) hkp (fun k_ hk_ hs_ => Or.elim hs_ (fun e_ => (hk_.1.2) e_) (fun e_ => Or.elim e_ (fun e_ => (hk_.2) e_) (fun e_ => (hk_.1.1.1.2) e_)))) (fun k_ hk_ => ⟨hk_.1.1.1.1.1.2, hk_.1.1.1.1.2, hk_.1.1.1.2⟩)); replace HO_1031000 := Aside0.mk (Kd.R_reok rfl hy0 (fun k_ e_ => HO_1031000.out.1 k_ e_)); replace HO_1031001 := Aside0.mk (Kd.R_reok rfl hy1 (fun k_ e_ => HO_1031001.out.1 k_ e_)); replace HB := Aside0.mk (hb); clear hb))
   (try simp only [Act.put, List.setIfInBounds_toArray, List.set_cons_zero, List.set_cons_succ])
   go_cut [61] (fun v61 wc => ∃ (kq : Nat) (x61_67 : Bool), v61 = .bool x61_67 ∧ Aside0 (laws_FnExactSettlePair.j1 kq t1019 x61_67 l0_0 l0_1 l0_2 t1010 t1013 t1016 t1031 t1034 t1037 = some r) ∧ Aside0 (kq ≤ kj10) ∧ Aside0 (Kd.R (Kd.int .i64) 3 wc w.heap.size (fun k_ => no_ (.slice Ao25 t1013.length co25) k_ ∧ no_ (.slice Ao30 t1021.length co30) k_ ∧ no_ (.slice Ao34 t1024.length co34) k_ ∧ no_ (.slice Ao38 t1031.length co38) k_ ∧ no_ (.slice Ao43 t1034.length co43) k_) (.slice Ao22 t1010.length co22) t1010) ∧ Aside0 (Kd.R (Kd.int .i64) 3 wc w.heap.size (fun k_ => no_ (.slice Ao22 t1010.length co22) k_ ∧ no_ (.slice Ao30 t1021.length co30) k_ ∧ no_ (.slice Ao34 t1024.length co34) k_ ∧ no_ (.slice Ao38 t1031.length co38) k_ ∧ no_ (.slice Ao43 t1034.length co43) k_) (.slice Ao25 t1013.length co25) t1013) ∧ Aside0 (Kd.R k127 127 wc w.heap.size (fun k_ => no_ (.slice Ao35 t1027.length co35) k_ ∧ no_ (.slice Ao44 t1037.length co44) k_) (.slice Ao26 t1016.length co26) t1016) ∧ Aside0 (Kd.R (Kd.int .i64) 3 wc w.heap.size (fun k_ => no_ (.slice Ao22 t1010.length co22) k_ ∧ no_ (.slice Ao25 t1013.length co25) k_ ∧ no_ (.slice Ao34 t1024.length co34) k_ ∧ no_ (.slice Ao38 t1031.length co38) k_ ∧ no_ (.slice Ao43 t1034.length co43) k_) (.slice Ao30 t1021.length co30) t1054) ∧ Aside0 (Kd.R (Kd.int .i64) 3 wc w.heap.size (fun k_ => no_ (.slice Ao22 t1010.length co22) k_ ∧ no_ (.slice Ao25 t1013.length co25) k_ ∧ no_ (.slice Ao30 t1021.length co30) k_ ∧ no_ (.slice Ao38 t1031.length co38) k_ ∧ no_ (.slice Ao43 t1034.length co43) k_) (.slice Ao34 t1024.length co34) t1055) ∧ Aside0 (Kd.R k127 127 wc w.heap.size (fun k_ => no_ (.slice Ao26 t1016.length co26) k_ ∧ no_ (.slice Ao44 t1037.length co44) k_) (.slice Ao35 t1027.length co35) t1056) ∧ Aside0 (Kd.R (Kd.int .i64) 3 wc w.heap.size (fun k_ => no_ (.slice Ao22 t1010.length co22) k_ ∧ no_ (.slice Ao25 t1013.length co25) k_ ∧ no_ (.slice Ao30 t1021.length co30) k_ ∧ no_ (.slice Ao34 t1024.length co34) k_ ∧ no_ (.slice Ao43 t1034.length co43) k_) (.slice Ao38 t1031.length co38) t1031) ∧ Aside0 (Kd.R (Kd.int .i64) 3 wc w.heap.size (fun k_ => no_ (.slice Ao22 t1010.length co22) k_ ∧ no_ (.slice Ao25 t1013.length co25) k_ ∧ no_ (.slice Ao30 t1021.length co30) k_ ∧ no_ (.slice Ao34 t1024.length co34) k_ ∧ no_ (.slice Ao38 t1031.length co38) k_) (.slice Ao43 t1034.length co43) t1034) ∧ Aside0 (Kd.R k127 127 wc w.heap.size (fun k_ => no_ (.slice Ao26 t1016.length co26) k_ ∧ no_ (.slice Ao35 t1027.length co35) k_) (.slice Ao44 t1037.length co44) t1037) ∧ Aside0 (wc.heap[gb999]? = some (.cells #[(.slice A0_0 l0_0.length c0_0), (.slice A0_1 l0_1.length c0_1), (.slice A0_2 l0_2.length c0_2)] 41 (0, 0))) ∧ Aside0 (wc.heap[gb1020]? = some (.cells #[(.slice Ao22 t1010.length co22), (.slice Ao25 t1013.length co25), (.slice Ao26 t1016.length co26)] 47 (0, 0))) ∧ Aside0 (wc.heap[gb1030]? = some (.cells #[(.slice Ao30 t1021.length co30), (.slice Ao34 t1024.length co34), (.slice Ao35 t1027.length co35)] 47 (0, 0))) ∧ Aside0 (wc.heap[gb1041]? = some (.cells #[(.slice Ao38 t1031.length co38), (.slice Ao43 t1034.length co43), (.slice Ao44 t1037.length co44)] 47 (0, 0))) ∧ Aside0 (Below w.heap.size w wc))
   case first =>
    have H := HC68.out
    clear HC68
    by_cases c80 : t1053 < 0
    ·rw [if_pos c80] at H
     have c80b0 : decide (t1053 < 0) = true := decide_eq_true c80
     clear c80
     (first | rw [c80b0] | (simp only [i64_w, i32_w]; rw [c80b0]) | skip)
     have H' := Aside0.mk H
     clear H
     go_wp2
     go_meet
     case rel => exact ⟨_, (true), (by first | rfl | (simp; done) | (simp [*]; done)), H', ⟨by have := HJ10.out; first | omega | exact Nat.le_refl _⟩, rm_ HO_1021000 (fun _ hk => ⟨hk.1, ⟨hk.2.1, ⟨hk.2.2.1, ⟨hk.2.2.2.1, hk.2.2.2.2.1⟩⟩⟩⟩), rm_ HO_1021001 (fun _ hk => ⟨hk.1, ⟨hk.2.1, ⟨hk.2.2.1, ⟨hk.2.2.2.1, hk.2.2.2.2.1⟩⟩⟩⟩), rm_ HO_1021002 (fun _ hk => ⟨hk.1, hk.2.1⟩), rm_ HO_1031000 (fun _ hk => hk.1.1), rm_ HO_1031001 (fun _ hk => hk.1.1), rm_ HO_1031002 (fun _ hk => hk.1), rm_ HO_1042000 (fun _ hk => ⟨hk.1, ⟨hk.2.1, ⟨hk.2.2.1, ⟨hk.2.2.2.1, hk.2.2.2.2.1⟩⟩⟩⟩), rm_ HO_1042001 (fun _ hk => ⟨hk.1, ⟨hk.2.1, ⟨hk.2.2.1, ⟨hk.2.2.2.1, hk.2.2.2.2.1⟩⟩⟩⟩), rm_ HO_1042002 (fun _ hk => ⟨hk.1, hk.2.1⟩), ⟨by (with_reducible repeat (first | refine blk_drewN ?_ _ | refine blk_drew ?_ | refine blk_alloc ?_ _)); exact BK999.out⟩, ⟨by (with_reducible repeat (first | refine blk_drewN ?_ _ | refine blk_drew ?_ | refine blk_alloc ?_ _)); exact BK1020.out⟩, ⟨by (with_reducible repeat (first | refine blk_drewN ?_ _ | refine blk_drew ?_ | refine blk_alloc ?_ _)); exact BK1030.out⟩, ⟨by (with_reducible repeat (first | refine blk_drewN ?_ _ | refine blk_drew ?_ | refine blk_alloc ?_ _)); exact BK1041.out⟩, ⟨hB HB⟩⟩
    rw [if_neg c80] at H
    have c80b0 : decide (t1053 < 0) = false := decide_eq_false c80
    clear c80
    (first | rw [c80b0] | (simp only [i64_w, i32_w]; rw [c80b0]) | skip)
    replace H := Option.bind_eq_some_iff.mp H
    obtain ⟨t1057, A810, H⟩ := H
    replace H : (if t1057 = true then (laws_FnExactSettlePair.j1 kj10 t1019 (t1040 != t1019) l0_0 l0_1 l0_2 t1010 t1013 t1016 t1031 t1034 t1037) else (laws_FnExactSettlePair.j1 kj10 t1019 true l0_0 l0_1 l0_2 t1010 t1013 t1016 t1031 t1034 t1037)) = some r := H
    have A81 := Aside0.mk A810
    clear A810
    by_cases c82 : t1057 = true
    ·subst c82
     rw [if_pos rfl] at H
     have H' := Aside0.mk H
     clear H
     have hnb83 := NB1041_999.out
     have hnc83 := NB999_1041.out
     have hnb84 := NB1041_1020.out
     have hnc84 := NB1020_1041.out
     have hnb85 := NB1041_1030.out
     have hnc85 := NB1030_1041.out
     have hcz86_0 : w79.cell? ⟨gb1041, 0, none⟩ = some (.slice Ao38 t1031.length co38) := bc_ BK1041 0
     have hcz86_1 : w79.cell? ⟨gb1041, 1, none⟩ = some (.slice Ao43 t1034.length co43) := bc_ BK1041 1
     have hcz86_2 : w79.cell? ⟨gb1041, 2, none⟩ = some (.slice Ao44 t1037.length co44) := bc_ BK1041 2
     have hfz86_0 := blk_frozen BK1041.out 0
     have hfz86_1 := blk_frozen BK1041.out 1
     have hfz86_2 := blk_frozen BK1041.out 2
     have hnb87 := NB1020_999.out
     have hnc87 := NB999_1020.out
     have hnb88 := NB1020_1030.out
     have hnc88 := NB1030_1020.out
     have hcz89_0 : w79.cell? ⟨gb1020, 0, none⟩ = some (.slice Ao22 t1010.length co22) := bc_ BK1020 0
     have hcz89_1 : w79.cell? ⟨gb1020, 1, none⟩ = some (.slice Ao25 t1013.length co25) := bc_ BK1020 1
     have hcz89_2 : w79.cell? ⟨gb1020, 2, none⟩ = some (.slice Ao26 t1016.length co26) := bc_ BK1020 2
     have hfz89_0 := blk_frozen BK1020.out 0
     have hfz89_1 := blk_frozen BK1020.out 1
     have hfz89_2 := blk_frozen BK1020.out 2
     go_wp2_with (first | (go_at_call 34; (with_reducible refine (laws_eqPair.calls kj10 _ _ t1031 _ _ t1034 _ _ t1037 _ _ t1010 _ _ t1013 _ _ t1016 true _ ?side1 ?side2 ?side3 ?side4 ?side5 ?side6 ?side7 ?side8 ?side9 ?side10 ?side11 ?side12 A81.out).mono ?_); (case side1 => exact ca (Kd.R_reads' HO_1042000.out).2.2); (case side2 => exact (Kd.R_reads' HO_1042000.out).2.1); (case side3 => exact ca (Kd.R_reads' HO_1042001.out).2.2); (case side4 => exact (Kd.R_reads' HO_1042001.out).2.1); (case side5 => exact ca (Kd.R_reads' HO_1042002.out).2.2); (case side6 => exact (Kd.R_reads' HO_1042002.out).2.1); (case side7 => exact ca (Kd.R_reads' HO_1021000.out).2.2); (case side8 => exact (Kd.R_reads' HO_1021000.out).2.1); (case side9 => exact ca (Kd.R_reads' HO_1021001.out).2.2); (case side10 => exact (Kd.R_reads' HO_1021001.out).2.1); (case side11 => exact ca (Kd.R_reads' HO_1021002.out).2.2); (case side12 => exact (Kd.R_reads' HO_1021002.out).2.1); rintro e w90 ⟨rfl, hb⟩; replace HO_1021000 := rb_ HO_1021000 hb; replace HO_1021001 := rb_ HO_1021001 hb; replace HO_1021002 := rb_ HO_1021002 hb; replace HO_1031000 := rb_ HO_1031000 hb; replace HO_1031001 := rb_ HO_1031001 hb; replace HO_1031002 := rb_ HO_1031002 hb; replace HO_1042000 := rb_ HO_1042000 hb; replace HO_1042001 := rb_ HO_1042001 hb; replace HO_1042002 := rb_ HO_1042002 hb; replace HO1045 := rb_ HO1045 hb; replace HO1048 := rb_ HO1048 hb; replace HO1051 := rb_ HO1051 hb; replace BK999 := bb_ BK999 hb; replace BK1020 := bb_ BK1020 hb; replace BK1030 := bb_ BK1030 hb; replace BK1041 := bb_ BK1041 hb; replace HB := bst_ HB hb; clear hb))
     go_meet
     case rel => exact ⟨_, ((t1040 != t1019)), (by first | rfl | (simp; done) | (simp [*]; done)), H', ⟨by have := HJ10.out; first | omega | exact Nat.le_refl _⟩, rm_ HO_1021000 (fun _ hk => ⟨hk.1, ⟨hk.2.1, ⟨hk.2.2.1, ⟨hk.2.2.2.1, hk.2.2.2.2.1⟩⟩⟩⟩), rm_ HO_1021001 (fun _ hk => ⟨hk.1, ⟨hk.2.1, ⟨hk.2.2.1, ⟨hk.2.2.2.1, hk.2.2.2.2.1⟩⟩⟩⟩), rm_ HO_1021002 (fun _ hk => ⟨hk.1, hk.2.1⟩), rm_ HO_1031000 (fun _ hk => hk.1.1), rm_ HO_1031001 (fun _ hk => hk.1.1), rm_ HO_1031002 (fun _ hk => hk.1), rm_ HO_1042000 (fun _ hk => ⟨hk.1, ⟨hk.2.1, ⟨hk.2.2.1, ⟨hk.2.2.2.1, hk.2.2.2.2.1⟩⟩⟩⟩), rm_ HO_1042001 (fun _ hk => ⟨hk.1, ⟨hk.2.1, ⟨hk.2.2.1, ⟨hk.2.2.2.1, hk.2.2.2.2.1⟩⟩⟩⟩), rm_ HO_1042002 (fun _ hk => ⟨hk.1, hk.2.1⟩), ⟨by (with_reducible repeat (first | refine blk_drewN ?_ _ | refine blk_drew ?_ | refine blk_alloc ?_ _)); exact BK999.out⟩, ⟨by (with_reducible repeat (first | refine blk_drewN ?_ _ | refine blk_drew ?_ | refine blk_alloc ?_ _)); exact BK1020.out⟩, ⟨by (with_reducible repeat (first | refine blk_drewN ?_ _ | refine blk_drew ?_ | refine blk_alloc ?_ _)); exact BK1030.out⟩, ⟨by (with_reducible repeat (first | refine blk_drewN ?_ _ | refine blk_drew ?_ | refine blk_alloc ?_ _)); exact BK1041.out⟩, ⟨hB HB⟩⟩
    replace c82 := Bool.eq_false_iff.mpr c82
    subst c82
    rw [if_neg (show ¬ (false = true) by decide)] at H
    have H' := Aside0.mk H
    clear H
    have hnb91 := NB1041_999.out
    have hnc91 := NB999_1041.out
    have hnb92 := NB1041_1020.out
    have hnc92 := NB1020_1041.out
    have hnb93 := NB1041_1030.out
    have hnc93 := NB1030_1041.out
    have hcz94_0 : w79.cell? ⟨gb1041, 0, none⟩ = some (.slice Ao38 t1031.length co38) := bc_ BK1041 0
    have hcz94_1 : w79.cell? ⟨gb1041, 1, none⟩ = some (.slice Ao43 t1034.length co43) := bc_ BK1041 1
    have hcz94_2 : w79.cell? ⟨gb1041, 2, none⟩ = some (.slice Ao44 t1037.length co44) := bc_ BK1041 2
    have hfz94_0 := blk_frozen BK1041.out 0
    have hfz94_1 := blk_frozen BK1041.out 1
    have hfz94_2 := blk_frozen BK1041.out 2
    have hnb95 := NB1020_999.out
    have hnc95 := NB999_1020.out
    have hnb96 := NB1020_1030.out
    have hnc96 := NB1030_1020.out
    have hcz97_0 : w79.cell? ⟨gb1020, 0, none⟩ = some (.slice Ao22 t1010.length co22) := bc_ BK1020 0
    have hcz97_1 : w79.cell? ⟨gb1020, 1, none⟩ = some (.slice Ao25 t1013.length co25) := bc_ BK1020 1
    have hcz97_2 : w79.cell? ⟨gb1020, 2, none⟩ = some (.slice Ao26 t1016.length co26) := bc_ BK1020 2
    have hfz97_0 := blk_frozen BK1020.out 0
    have hfz97_1 := blk_frozen BK1020.out 1
    have hfz97_2 := blk_frozen BK1020.out 2
    go_wp2_with (first | (go_at_call 34; (with_reducible refine (laws_eqPair.calls kj10 _ _ t1031 _ _ t1034 _ _ t1037 _ _ t1010 _ _ t1013 _ _ t1016 false _ ?side1 ?side2 ?side3 ?side4 ?side5 ?side6 ?side7 ?side8 ?side9 ?side10 ?side11 ?side12 A81.out).mono ?_); (case side1 => exact ca (Kd.R_reads' HO_1042000.out).2.2); (case side2 => exact (Kd.R_reads' HO_1042000.out).2.1); (case side3 => exact ca (Kd.R_reads' HO_1042001.out).2.2); (case side4 => exact (Kd.R_reads' HO_1042001.out).2.1); (case side5 => exact ca (Kd.R_reads' HO_1042002.out).2.2); (case side6 => exact (Kd.R_reads' HO_1042002.out).2.1); (case side7 => exact ca (Kd.R_reads' HO_1021000.out).2.2); (case side8 => exact (Kd.R_reads' HO_1021000.out).2.1); (case side9 => exact ca (Kd.R_reads' HO_1021001.out).2.2); (case side10 => exact (Kd.R_reads' HO_1021001.out).2.1); (case side11 => exact ca (Kd.R_reads' HO_1021002.out).2.2); (case side12 => exact (Kd.R_reads' HO_1021002.out).2.1); rintro e w98 ⟨rfl, hb⟩; replace HO_1021000 := rb_ HO_1021000 hb; replace HO_1021001 := rb_ HO_1021001 hb; replace HO_1021002 := rb_ HO_1021002 hb; replace HO_1031000 := rb_ HO_1031000 hb; replace HO_1031001 := rb_ HO_1031001 hb; replace HO_1031002 := rb_ HO_1031002 hb; replace HO_1042000 := rb_ HO_1042000 hb; replace HO_1042001 := rb_ HO_1042001 hb; replace HO_1042002 := rb_ HO_1042002 hb; replace HO1045 := rb_ HO1045 hb; replace HO1048 := rb_ HO1048 hb; replace HO1051 := rb_ HO1051 hb; replace BK999 := bb_ BK999 hb; replace BK1020 := bb_ BK1020 hb; replace BK1030 := bb_ BK1030 hb; replace BK1041 := bb_ BK1041 hb; replace HB := bst_ HB hb; clear hb))
    go_meet
    case rel => exact ⟨_, (true), (by first | rfl | (simp; done) | (simp [*]; done)), H', ⟨by have := HJ10.out; first | omega | exact Nat.le_refl _⟩, rm_ HO_1021000 (fun _ hk => ⟨hk.1, ⟨hk.2.1, ⟨hk.2.2.1, ⟨hk.2.2.2.1, hk.2.2.2.2.1⟩⟩⟩⟩), rm_ HO_1021001 (fun _ hk => ⟨hk.1, ⟨hk.2.1, ⟨hk.2.2.1, ⟨hk.2.2.2.1, hk.2.2.2.2.1⟩⟩⟩⟩), rm_ HO_1021002 (fun _ hk => ⟨hk.1, hk.2.1⟩), rm_ HO_1031000 (fun _ hk => hk.1.1), rm_ HO_1031001 (fun _ hk => hk.1.1), rm_ HO_1031002 (fun _ hk => hk.1), rm_ HO_1042000 (fun _ hk => ⟨hk.1, ⟨hk.2.1, ⟨hk.2.2.1, ⟨hk.2.2.2.1, hk.2.2.2.2.1⟩⟩⟩⟩), rm_ HO_1042001 (fun _ hk => ⟨hk.1, ⟨hk.2.1, ⟨hk.2.2.1, ⟨hk.2.2.2.1, hk.2.2.2.2.1⟩⟩⟩⟩), rm_ HO_1042002 (fun _ hk => ⟨hk.1, hk.2.1⟩), ⟨by (with_reducible repeat (first | refine blk_drewN ?_ _ | refine blk_drew ?_ | refine blk_alloc ?_ _)); exact BK999.out⟩, ⟨by (with_reducible repeat (first | refine blk_drewN ?_ _ | refine blk_drew ?_ | refine blk_alloc ?_ _)); exact BK1020.out⟩, ⟨by (with_reducible repeat (first | refine blk_drewN ?_ _ | refine blk_drew ?_ | refine blk_alloc ?_ _)); exact BK1030.out⟩, ⟨by (with_reducible repeat (first | refine blk_drewN ?_ _ | refine blk_drew ?_ | refine blk_alloc ?_ _)); exact BK1041.out⟩, ⟨hB HB⟩⟩
   case rest =>
    clear HC68
    try clear c3
    try clear c3b0
    try clear c63
    try clear c66
    try clear hcz13_0
    try clear hcz13_1
    try clear hcz13_2
    try clear hcz15_0
    try clear hcz15_1
    try clear hcz15_2
    try clear hcz24_0
    try clear hcz24_1
    try clear hcz24_2
    try clear hcz27_0
    try clear hcz27_1
    try clear hcz27_2
    try clear hcz33_0
    try clear hcz33_1
    try clear hcz33_2
    try clear hcz42_0
    try clear hcz42_1
    try clear hcz42_2
    try clear hcz78_0
    try clear hcz78_1
    try clear hcz78_2
    try clear hfz13_0
    try clear hfz13_1
    try clear hfz13_2
    try clear hfz15_0
    try clear hfz15_1
    try clear hfz15_2
    try clear hfz24_0
    try clear hfz24_1
    try clear hfz24_2
    try clear hfz27_0
    try clear hfz27_1
    try clear hfz27_2
    try clear hfz33_0
    try clear hfz33_1
    try clear hfz33_2
    try clear hfz42_0
    try clear hfz42_1
    try clear hfz42_2
    try clear hfz78_0
    try clear hfz78_1
    try clear hfz78_2
    obtain ⟨kq, x61_67, rfl, HA, HJ67, HO_1021000, HO_1021001, HO_1021002, HO_1031000, HO_1031001, HO_1031002, HO_1042000, HO_1042001, HO_1042002, BK999, BK1020, BK1030, BK1041, HB⟩ := hcut
    have hl1031000_67 := (Kd.R_reads' HO_1031000.out).1
    rw [hl1031000_67] at HO_1031000
    (try simp only [hl1031000_67])
    (try simp only [hl1031000_67] at BK999)
    (try simp only [hl1031000_67] at BK1020)
    (try simp only [hl1031000_67] at BK1030)
    (try simp only [hl1031000_67] at BK1041)
    (try simp only [hl1031000_67] at HO_1021000)
    (try simp only [hl1031000_67] at HO_1021001)
    (try simp only [hl1031000_67] at HO_1021002)
    (try simp only [hl1031000_67] at HO_1031001)
    (try simp only [hl1031000_67] at HO_1031002)
    (try simp only [hl1031000_67] at HO_1042000)
    (try simp only [hl1031000_67] at HO_1042001)
    (try simp only [hl1031000_67] at HO_1042002)
    have hl1031001_67 := (Kd.R_reads' HO_1031001.out).1
    rw [hl1031001_67] at HO_1031001
    (try simp only [hl1031001_67])
    (try simp only [hl1031001_67] at BK999)
    (try simp only [hl1031001_67] at BK1020)
    (try simp only [hl1031001_67] at BK1030)
    (try simp only [hl1031001_67] at BK1041)
    (try simp only [hl1031001_67] at HO_1021000)
    (try simp only [hl1031001_67] at HO_1021001)
    (try simp only [hl1031001_67] at HO_1021002)
    (try simp only [hl1031001_67] at HO_1031000)
    (try simp only [hl1031001_67] at HO_1031002)
    (try simp only [hl1031001_67] at HO_1042000)
    (try simp only [hl1031001_67] at HO_1042001)
    (try simp only [hl1031001_67] at HO_1042002)
    have hl1031002_67 := (Kd.R_reads' HO_1031002.out).1
    rw [hl1031002_67] at HO_1031002
    (try simp only [hl1031002_67])
    (try simp only [hl1031002_67] at BK999)
    (try simp only [hl1031002_67] at BK1020)
    (try simp only [hl1031002_67] at BK1030)
    (try simp only [hl1031002_67] at BK1041)
    (try simp only [hl1031002_67] at HO_1021000)
    (try simp only [hl1031002_67] at HO_1021001)
    (try simp only [hl1031002_67] at HO_1021002)
    (try simp only [hl1031002_67] at HO_1031000)
    (try simp only [hl1031002_67] at HO_1031001)
    (try simp only [hl1031002_67] at HO_1042000)
    (try simp only [hl1031002_67] at HO_1042001)
    (try simp only [hl1031002_67] at HO_1042002)
    cases kq with
    | zero => exact absurd HA.out (by simp [laws_FnExactSettlePair.j1])
    | succ kj67 =>
     have H := HA.out
     clear HA
     simp only [laws_FnExactSettlePair.j1] at H
     by_cases c99 : x61_67 = true
     ·subst c99
      rw [if_pos rfl] at H
      obtain rfl := Option.some.inj H
      go_wp2
      go_ret
      exact ⟨by first | rfl | (simp [errW_none, errW_some] <;> rfl) | (simp [*, errW_none, errW_some] <;> rfl), by repeat (first | (with_reducible first | exact HB.out | apply below_alloc | apply pw_below_drewN | apply below_drew1 | refine below_set ?_ GE999.out | refine below_set ?_ GE1020.out | refine below_set ?_ GE1030.out | refine below_set ?_ GE1041.out) | exact HB.out)⟩
     replace c99 := Bool.eq_false_iff.mpr c99
     subst c99
     rw [if_neg (show ¬ (false = true) by decide)] at H
     replace H := Option.bind_eq_some_iff.mp H
     obtain ⟨⟨t1058, t1059, t1060, t1061⟩, A1000, H⟩ := H
     replace H : ((laws_heldPair.f kj67 t1059 t1060 t1061 1).bind fun t1062 => (if t1062 < 0 then (some false) else (if t1062 = t1058 then ((laws_toPair.f kj67 l0_0 l0_1 l0_2).bind fun bt1063 => ((impl_SettlePair.f kj67 bt1063.1 bt1063.2.1 bt1063.2.2).bind fun bt1072 => ((laws_eqPair.f kj67 bt1072.1 bt1072.2.1 bt1072.2.2.1 t1010 t1013 t1016).bind fun t1083 => (if t1083 = true then (laws_FnExactSettlePair.j2 kj67 t1058 (bt1072.2.2.2 != t1019) t1059 t1060 t1061) else (laws_FnExactSettlePair.j2 kj67 t1058 true t1059 t1060 t1061))))) else (some false)))) = some r := H
     have A100 := Aside0.mk A1000
     clear A1000
     replace H := Option.bind_eq_some_iff.mp H
     obtain ⟨t1062, A1010, H⟩ := H
     replace H : (if t1062 < 0 then (some false) else (if t1062 = t1058 then ((laws_toPair.f kj67 l0_0 l0_1 l0_2).bind fun bt1063 => ((impl_SettlePair.f kj67 bt1063.1 bt1063.2.1 bt1063.2.2).bind fun bt1072 => ((laws_eqPair.f kj67 bt1072.1 bt1072.2.1 bt1072.2.2.1 t1010 t1013 t1016).bind fun t1083 => (if t1083 = true then (laws_FnExactSettlePair.j2 kj67 t1058 (bt1072.2.2.2 != t1019) t1059 t1060 t1061) else (laws_FnExactSettlePair.j2 kj67 t1058 true t1059 t1060 t1061))))) else (some false))) = some r := H
     have A101 := Aside0.mk A1010
     clear A1010
     by_cases c102 : t1062 < 0
     ·rw [if_pos c102] at H
      have c102b0 : decide (t1062 < 0) = true := decide_eq_true c102
      clear c102
      obtain rfl := Option.some.inj H
      have hnb103 := NB1041_999.out
      have hnc103 := NB999_1041.out
      have hnb104 := NB1041_1020.out
      have hnc104 := NB1020_1041.out
      have hnb105 := NB1041_1030.out
      have hnc105 := NB1030_1041.out
      have hcz106_0 : wc.cell? ⟨gb1041, 0, none⟩ = some (.slice Ao38 t1031.length co38) := bc_ BK1041 0
      have hcz106_1 : wc.cell? ⟨gb1041, 1, none⟩ = some (.slice Ao43 t1034.length co43) := bc_ BK1041 1
      have hcz106_2 : wc.cell? ⟨gb1041, 2, none⟩ = some (.slice Ao44 t1037.length co44) := bc_ BK1041 2
      have hfz106_0 := blk_frozen BK1041.out 0
      have hfz106_1 := blk_frozen BK1041.out 1
      have hfz106_2 := blk_frozen BK1041.out 2
      go_wp2_with (first | ((with_reducible refine gate_callee (f := 35) rfl ?_); refine goesL_ (some 64) rfl rfl Try.func35 (by kernel_rfl) rfl #[.agg #[.slice Ao38 t1031.length co38, .slice Ao43 t1034.length co43, .slice Ao44 t1037.length co44], .int .i64 1] rfl tm_ ?_; (with_reducible refine (laws_markPair.calls kj67 (fun k_ => some k_ = (.slice Ao38 t1031.length co38 : Value).ownBlock) (.slice Ao38 t1031.length co38) t1031 (fun k_ => some k_ = (.slice Ao43 t1034.length co43 : Value).ownBlock) (.slice Ao43 t1034.length co43) t1034 (fun k_ => some k_ = (.slice Ao44 t1037.length co44 : Value).ownBlock) (.slice Ao44 t1037.length co44) t1037 1 t1058 t1059 t1060 t1061 w _ ?side1 ?side2 ?side3 ?side4 ?side5 ?side6 A100.out).mono ?_); (case side1 => repeat (first | (with_reducible first | exact HB.out | apply below_alloc | apply pw_below_drewN | apply below_drew1 | refine below_set ?_ GE999.out | refine below_set ?_ GE1020.out | refine below_set ?_ GE1030.out | refine below_set ?_ GE1041.out) | exact HB.out)); (case side2 => exact Kd.R_tight rfl HO_1042000.out); (case side3 => exact fun k_ e_ => (HO_1042000.out.1 k_ e_.symm).2.2.2.2); (case side4 => exact Kd.R_tight rfl HO_1042001.out); (case side5 => exact fun k_ e_ => (HO_1042001.out.1 k_ e_.symm).2.2.2.2); (case side6 => exact Kd.R_tight rfl HO_1042002.out); rintro e w107 ⟨rfl, hy0, hy1, hy2, hb, hkp⟩; refine ⟨_, rfl, ?_⟩; replace HO_1021000 := Aside0.mk (Kd.R_mono (ok' := fun k_ => no_ (.slice Ao25 t1013.length co25) k_ ∧ no_ (.slice Ao30 t1054.length co30) k_ ∧ no_ (.slice Ao34 t1055.length co34) k_ ∧ no_ (.slice Ao38 t1031.length co38) k_ ∧ no_ (.slice Ao43 t1034.length co43) k_) (Kd.R_keptB ((Kd.R_apart' HO_1021000.out (Kd.R_typed HO_1042002.out) (by decide))) hkp (fun k_ hk_ hs_ => Or.elim hs_ (fun e_ => (hk_.1.2.2.2.1) e_) (fun e_ => Or.elim e_ (fun e_ => (hk_.1.2.2.2.2) e_) (fun e_ => (hk_.2) e_)))) (fun k_ hk_ => ⟨hk_.1.1.1, hk_.1.1.2.1, hk_.1.1.2.2.1, hk_.1.1.2.2.2.1, hk_.1.1.2.2.2.2⟩)); replace HO_1021001 := Aside0.mk (Kd.R_mono (ok' := fun k_ => no_ (.slice Ao22 t1010.length co22) k_ ∧ no_ (.slice Ao30 t1054.length co30) k_ ∧ no_ (.slice Ao34 t1055.length co34) k_ ∧ no_ (.slice Ao38 t1031.length co38) k_ ∧ no_ (.slice Ao43 t1034.length co43) k_) (Kd.R_keptB ((Kd.R_apart' HO_1021001.out (Kd.R_typed HO_1042002.out) (by decide))) hkp (fun k_ hk_ hs_ => Or.elim hs_ (fun e_ => (hk_.1.2.2.2.1) e_) (fun e_ => Or.elim e_ (fun e_ => (hk_.1.2.2.2.2) e_) (fun e_ => (hk_.2) e_)))) (fun k_ hk_ => ⟨hk_.1.1.1, hk_.1.1.2.1, hk_.1.1.2.2.1, hk_.1.1.2.2.2.1, hk_.1.1.2.2.2.2⟩)); replace HO_1021002 := Aside0.mk (Kd.R_mono (ok' := fun k_ => no_ (.slice Ao35 t1056.length co35) k_ ∧ no_ (.slice Ao44 t1037.length co44) k_) (Kd.R_keptB ((Kd.R_apart' (Kd.R_apart' HO_1021002.out (Kd.R_typed HO_1042000.out) (by decide)) (Kd.R_typed HO_1042001.out) (by decide))) hkp (fun k_ hk_ hs_ => Or.elim hs_ (fun e_ => (hk_.1.2) e_) (fun e_ => Or.elim e_ (fun e_ => (hk_.2) e_) (fun e_ => (hk_.1.1.2) e_)))) (fun k_ hk_ => ⟨hk_.1.1.1.1, hk_.1.1.1.2⟩)); replace HO_1031000 := Aside0.mk (Kd.R_mono (ok' := fun k_ => no_ (.slice Ao22 t1010.length co22) k_ ∧ no_ (.slice Ao25 t1013.length co25) k_ ∧ no_ (.slice Ao34 t1055.length co34) k_ ∧ no_ (.slice Ao38 t1031.length co38) k_ ∧ no_ (.slice Ao43 t1034.length co43) k_) (Kd.R_keptB ((Kd.R_apart' HO_1031000.out (Kd.R_typed HO_1042002.out) (by decide))) hkp (fun k_ hk_ hs_ => Or.elim hs_ (fun e_ => (hk_.1.2.2.2.1) e_) (fun e_ => Or.elim e_ (fun e_ => (hk_.1.2.2.2.2) e_) (fun e_ => (hk_.2) e_)))) (fun k_ hk_ => ⟨hk_.1.1.1, hk_.1.1.2.1, hk_.1.1.2.2.1, hk_.1.1.2.2.2.1, hk_.1.1.2.2.2.2⟩)); replace HO_1031001 := Aside0.mk (Kd.R_mono (ok' := fun k_ => no_ (.slice Ao22 t1010.length co22) k_ ∧ no_ (.slice Ao25 t1013.length co25) k_ ∧ no_ (.slice Ao30 t1054.length co30) k_ ∧ no_ (.slice Ao38 t1031.length co38) k_ ∧ no_ (.slice Ao43 t1034.length co43) k_) (Kd.R_keptB ((Kd.R_apart' HO_1031001.out (Kd.R_typed HO_1042002.out) (by decide))) hkp (fun k_ hk_ hs_ => Or.elim hs_ (fun e_ => (hk_.1.2.2.2.1) e_) (fun e_ => Or.elim e_ (fun e_ => (hk_.1.2.2.2.2) e_) (fun e_ => (hk_.2) e_)))) (fun k_ hk_ => ⟨hk_.1.1.1, hk_.1.1.2.1, hk_.1.1.2.2.1, hk_.1.1.2.2.2.1, hk_.1.1.2.2.2.2⟩)); replace HO_1031002 := Aside0.mk (Kd.R_mono (ok' := fun k_ => no_ (.slice Ao26 t1016.length co26) k_ ∧ no_ (.slice Ao44 t1037.length co44) k_) (Kd.R_keptB ((Kd.R_apart' (Kd.R_apart' HO_1031002.out (Kd.R_typed HO_1042000.out) (by decide)) (Kd.R_typed HO_1042001.out) (by decide))) hkp (fun k_ hk_ hs_ => Or.elim hs_ (fun e_ => (hk_.1.2) e_) (fun e_ => Or.elim e_ (fun e_ => (hk_.2) e_) (fun e_ => (hk_.1.1.2) e_)))) (fun k_ hk_ => ⟨hk_.1.1.1.1, hk_.1.1.1.2⟩)); replace BK999 := Aside0.mk (blk_kept (ba BK999.out) hkp (fun hs_ => Or.elim hs_ (kne_ HO_1042000 BK999) (fun e_ => Or.elim e_ (kne_ HO_1042001 BK999) (kne_ HO_1042002 BK999)))); replace BK1020 := Aside0.mk (blk_kept (ba BK1020.out) hkp (fun hs_ => Or.elim hs_ (kne_ HO_1042000 BK1020) (fun e_ => Or.elim e_ (kne_ HO_1042001 BK1020) (kne_ HO_1042002 BK1020)))); replace BK1030 := Aside0.mk (blk_kept (ba BK1030.out) hkp (fun hs_ => Or.elim hs_ (kne_ HO_1042000 BK1030) (fun e_ => Or.elim e_ (kne_ HO_1042001 BK1030) (kne_ HO_1042002 BK1030)))); replace BK1041 := Aside0.mk (blk_kept (ba BK1041.out) hkp (fun hs_ => Or.elim hs_ (kne_ HO_1042000 BK1041) (fun e_ => Or.elim e_ (kne_ HO_1042001 BK1041) (kne_ HO_1042002 BK1041)))); replace HO_1042000 := Aside0.mk (Kd.R_reok rfl hy0 (fun k_ e_ => HO_1042000.out.1 k_ e_)); replace HO_1042001 := Aside0.mk (Kd.R_reok rfl hy1 (fun k_ e_ => HO_1042001.out.1 k_ e_)); replace HO_1042002 := Aside0.mk (Kd.R_reok rfl hy2 (fun k_ e_ => HO_1042002.out.1 k_ e_)); replace HB := Aside0.mk (hb); clear hb; have hcz108_0 : w107.cell? ⟨gb1041, 0, none⟩ = some (.slice Ao38 t1031.length co38) := bc_ BK1041 0; have hcz108_1 : w107.cell? ⟨gb1041, 1, none⟩ = some (.slice Ao43 t1034.length co43) := bc_ BK1041 1; have hcz108_2 : w107.cell? ⟨gb1041, 2, none⟩ = some (.slice Ao44 t1037.length co44) := bc_ BK1041 2; have hfz108_0 := blk_frozen BK1041.out 0; have hfz108_1 := blk_frozen BK1041.out 1; have hfz108_2 := blk_frozen BK1041.out 2) | ((with_reducible refine gate_callee (f := 36) rfl ?_); refine goesL_ (some 67) rfl rfl Try.func36 (by kernel_rfl) rfl #[.agg #[.slice Ao38 t1059.length co38, .slice Ao43 t1060.length co43, .slice Ao44 t1061.length co44], .int .i64 1] rfl (by (try simp only [List.map_toArray, List.map_cons, List.map_nil]); first | done | (rw [show t1059.length = t1031.length from (Kd.R_reads' HO_1042000.out).1.symm, show t1060.length = t1034.length from (Kd.R_reads' HO_1042001.out).1.symm, show t1061.length = t1037.length from (Kd.R_reads' HO_1042002.out).1.symm] <;> rfl) | rfl | (simp only [List.length_drop, List.length_take]; rfl)) ?_; (with_reducible refine (laws_heldPair.calls kj67 _ _ t1059 _ _ t1060 _ _ t1061 1 t1062 _ ?side1 ?side2 ?side3 ?side4 ?side5 ?side6 A101.out).mono ?_); (case side1 => exact ca (Kd.R_reads' HO_1042000.out).2.2); (case side2 => rw [show t1059.length = t1031.length from (Kd.R_reads' HO_1042000.out).1.symm]; exact (Kd.R_reads' HO_1042000.out).2.1); (case side3 => exact ca (Kd.R_reads' HO_1042001.out).2.2); (case side4 => rw [show t1060.length = t1034.length from (Kd.R_reads' HO_1042001.out).1.symm]; exact (Kd.R_reads' HO_1042001.out).2.1); (case side5 => exact ca (Kd.R_reads' HO_1042002.out).2.2); (case side6 => rw [show t1061.length = t1037.length from (Kd.R_reads' HO_1042002.out).1.symm]; exact (Kd.R_reads' HO_1042002.out).2.1); rintro e w109 ⟨rfl, hb⟩; refine ⟨_, rfl, ?_⟩; replace HO_1021000 := rb_ HO_1021000 hb; replace HO_1021001 := rb_ HO_1021001 hb; replace HO_1021002 := rb_ HO_1021002 hb; replace HO_1031000 := rb_ HO_1031000 hb; replace HO_1031001 := rb_ HO_1031001 hb; replace HO_1031002 := rb_ HO_1031002 hb; replace HO_1042000 := rb_ HO_1042000 hb; replace HO_1042001 := rb_ HO_1042001 hb; replace HO_1042002 := rb_ HO_1042002 hb; replace BK999 := bb_ BK999 hb; replace BK1020 := bb_ BK1020 hb; replace BK1030 := bb_ BK1030 hb; replace BK1041 := bb_ BK1041 hb; replace HB := bst_ HB hb; clear hb))
      go_ret
      exact ⟨by first | rfl | (simp [errW_none, errW_some] <;> rfl) | (simp [*, errW_none, errW_some] <;> rfl), by repeat (first | (with_reducible first | exact HB.out | apply below_alloc | apply pw_below_drewN | apply below_drew1 | refine below_set ?_ GE999.out | refine below_set ?_ GE1020.out | refine below_set ?_ GE1030.out | refine below_set ?_ GE1041.out) | exact HB.out)⟩
     rw [if_neg c102] at H
     have c102b0 : decide (t1062 < 0) = false := decide_eq_false c102
     clear c102
     by_cases c110 : t1062 = t1058
     rotate_left
     ·rw [if_neg c110] at H
      have c110b0 : (t1062 == t1058) = false := beq_eq_false_iff_ne.mpr c110
      have c110b1 : (t1062 != t1058) = true := bne_iff_ne.mpr c110
      obtain rfl := Option.some.inj H
      have hnb182 := NB1041_999.out
      have hnc182 := NB999_1041.out
      have hnb183 := NB1041_1020.out
      have hnc183 := NB1020_1041.out
      have hnb184 := NB1041_1030.out
      have hnc184 := NB1030_1041.out
      have hcz185_0 : wc.cell? ⟨gb1041, 0, none⟩ = some (.slice Ao38 t1031.length co38) := bc_ BK1041 0
      have hcz185_1 : wc.cell? ⟨gb1041, 1, none⟩ = some (.slice Ao43 t1034.length co43) := bc_ BK1041 1
      have hcz185_2 : wc.cell? ⟨gb1041, 2, none⟩ = some (.slice Ao44 t1037.length co44) := bc_ BK1041 2
      have hfz185_0 := blk_frozen BK1041.out 0
      have hfz185_1 := blk_frozen BK1041.out 1
      have hfz185_2 := blk_frozen BK1041.out 2
      go_wp2_with (first | ((with_reducible refine gate_callee (f := 35) rfl ?_); refine goesL_ (some 64) rfl rfl Try.func35 (by kernel_rfl) rfl #[.agg #[.slice Ao38 t1031.length co38, .slice Ao43 t1034.length co43, .slice Ao44 t1037.length co44], .int .i64 1] rfl tm_ ?_; (with_reducible refine (laws_markPair.calls kj67 (fun k_ => some k_ = (.slice Ao38 t1031.length co38 : Value).ownBlock) (.slice Ao38 t1031.length co38) t1031 (fun k_ => some k_ = (.slice Ao43 t1034.length co43 : Value).ownBlock) (.slice Ao43 t1034.length co43) t1034 (fun k_ => some k_ = (.slice Ao44 t1037.length co44 : Value).ownBlock) (.slice Ao44 t1037.length co44) t1037 1 t1058 t1059 t1060 t1061 w _ ?side1 ?side2 ?side3 ?side4 ?side5 ?side6 A100.out).mono ?_); (case side1 => repeat (first | (with_reducible first | exact HB.out | apply below_alloc | apply pw_below_drewN | apply below_drew1 | refine below_set ?_ GE999.out | refine below_set ?_ GE1020.out | refine below_set ?_ GE1030.out | refine below_set ?_ GE1041.out) | exact HB.out)); (case side2 => exact Kd.R_tight rfl HO_1042000.out); (case side3 => exact fun k_ e_ => (HO_1042000.out.1 k_ e_.symm).2.2.2.2); (case side4 => exact Kd.R_tight rfl HO_1042001.out); (case side5 => exact fun k_ e_ => (HO_1042001.out.1 k_ e_.symm).2.2.2.2); (case side6 => exact Kd.R_tight rfl HO_1042002.out); rintro e w186 ⟨rfl, hy0, hy1, hy2, hb, hkp⟩; refine ⟨_, rfl, ?_⟩; replace HO_1021000 := Aside0.mk (Kd.R_mono (ok' := fun k_ => no_ (.slice Ao25 t1013.length co25) k_ ∧ no_ (.slice Ao30 t1054.length co30) k_ ∧ no_ (.slice Ao34 t1055.length co34) k_ ∧ no_ (.slice Ao38 t1031.length co38) k_ ∧ no_ (.slice Ao43 t1034.length co43) k_) (Kd.R_keptB ((Kd.R_apart' HO_1021000.out (Kd.R_typed HO_1042002.out) (by decide))) hkp (fun k_ hk_ hs_ => Or.elim hs_ (fun e_ => (hk_.1.2.2.2.1) e_) (fun e_ => Or.elim e_ (fun e_ => (hk_.1.2.2.2.2) e_) (fun e_ => (hk_.2) e_)))) (fun k_ hk_ => ⟨hk_.1.1.1, hk_.1.1.2.1, hk_.1.1.2.2.1, hk_.1.1.2.2.2.1, hk_.1.1.2.2.2.2⟩)); replace HO_1021001 := Aside0.mk (Kd.R_mono (ok' := fun k_ => no_ (.slice Ao22 t1010.length co22) k_ ∧ no_ (.slice Ao30 t1054.length co30) k_ ∧ no_ (.slice Ao34 t1055.length co34) k_ ∧ no_ (.slice Ao38 t1031.length co38) k_ ∧ no_ (.slice Ao43 t1034.length co43) k_) (Kd.R_keptB ((Kd.R_apart' HO_1021001.out (Kd.R_typed HO_1042002.out) (by decide))) hkp (fun k_ hk_ hs_ => Or.elim hs_ (fun e_ => (hk_.1.2.2.2.1) e_) (fun e_ => Or.elim e_ (fun e_ => (hk_.1.2.2.2.2) e_) (fun e_ => (hk_.2) e_)))) (fun k_ hk_ => ⟨hk_.1.1.1, hk_.1.1.2.1, hk_.1.1.2.2.1, hk_.1.1.2.2.2.1, hk_.1.1.2.2.2.2⟩)); replace HO_1021002 := Aside0.mk (Kd.R_mono (ok' := fun k_ => no_ (.slice Ao35 t1056.length co35) k_ ∧ no_ (.slice Ao44 t1037.length co44) k_) (Kd.R_keptB ((Kd.R_apart' (Kd.R_apart' HO_1021002.out (Kd.R_typed HO_1042000.out) (by decide)) (Kd.R_typed HO_1042001.out) (by decide))) hkp (fun k_ hk_ hs_ => Or.elim hs_ (fun e_ => (hk_.1.2) e_) (fun e_ => Or.elim e_ (fun e_ => (hk_.2) e_) (fun e_ => (hk_.1.1.2) e_)))) (fun k_ hk_ => ⟨hk_.1.1.1.1, hk_.1.1.1.2⟩)); replace HO_1031000 := Aside0.mk (Kd.R_mono (ok' := fun k_ => no_ (.slice Ao22 t1010.length co22) k_ ∧ no_ (.slice Ao25 t1013.length co25) k_ ∧ no_ (.slice Ao34 t1055.length co34) k_ ∧ no_ (.slice Ao38 t1031.length co38) k_ ∧ no_ (.slice Ao43 t1034.length co43) k_) (Kd.R_keptB ((Kd.R_apart' HO_1031000.out (Kd.R_typed HO_1042002.out) (by decide))) hkp (fun k_ hk_ hs_ => Or.elim hs_ (fun e_ => (hk_.1.2.2.2.1) e_) (fun e_ => Or.elim e_ (fun e_ => (hk_.1.2.2.2.2) e_) (fun e_ => (hk_.2) e_)))) (fun k_ hk_ => ⟨hk_.1.1.1, hk_.1.1.2.1, hk_.1.1.2.2.1, hk_.1.1.2.2.2.1, hk_.1.1.2.2.2.2⟩)); replace HO_1031001 := Aside0.mk (Kd.R_mono (ok' := fun k_ => no_ (.slice Ao22 t1010.length co22) k_ ∧ no_ (.slice Ao25 t1013.length co25) k_ ∧ no_ (.slice Ao30 t1054.length co30) k_ ∧ no_ (.slice Ao38 t1031.length co38) k_ ∧ no_ (.slice Ao43 t1034.length co43) k_) (Kd.R_keptB ((Kd.R_apart' HO_1031001.out (Kd.R_typed HO_1042002.out) (by decide))) hkp (fun k_ hk_ hs_ => Or.elim hs_ (fun e_ => (hk_.1.2.2.2.1) e_) (fun e_ => Or.elim e_ (fun e_ => (hk_.1.2.2.2.2) e_) (fun e_ => (hk_.2) e_)))) (fun k_ hk_ => ⟨hk_.1.1.1, hk_.1.1.2.1, hk_.1.1.2.2.1, hk_.1.1.2.2.2.1, hk_.1.1.2.2.2.2⟩)); replace HO_1031002 := Aside0.mk (Kd.R_mono (ok' := fun k_ => no_ (.slice Ao26 t1016.length co26) k_ ∧ no_ (.slice Ao44 t1037.length co44) k_) (Kd.R_keptB ((Kd.R_apart' (Kd.R_apart' HO_1031002.out (Kd.R_typed HO_1042000.out) (by decide)) (Kd.R_typed HO_1042001.out) (by decide))) hkp (fun k_ hk_ hs_ => Or.elim hs_ (fun e_ => (hk_.1.2) e_) (fun e_ => Or.elim e_ (fun e_ => (hk_.2) e_) (fun e_ => (hk_.1.1.2) e_)))) (fun k_ hk_ => ⟨hk_.1.1.1.1, hk_.1.1.1.2⟩)); replace BK999 := Aside0.mk (blk_kept (ba BK999.out) hkp (fun hs_ => Or.elim hs_ (kne_ HO_1042000 BK999) (fun e_ => Or.elim e_ (kne_ HO_1042001 BK999) (kne_ HO_1042002 BK999)))); replace BK1020 := Aside0.mk (blk_kept (ba BK1020.out) hkp (fun hs_ => Or.elim hs_ (kne_ HO_1042000 BK1020) (fun e_ => Or.elim e_ (kne_ HO_1042001 BK1020) (kne_ HO_1042002 BK1020)))); replace BK1030 := Aside0.mk (blk_kept (ba BK1030.out) hkp (fun hs_ => Or.elim hs_ (kne_ HO_1042000 BK1030) (fun e_ => Or.elim e_ (kne_ HO_1042001 BK1030) (kne_ HO_1042002 BK1030)))); replace BK1041 := Aside0.mk (blk_kept (ba BK1041.out) hkp (fun hs_ => Or.elim hs_ (kne_ HO_1042000 BK1041) (fun e_ => Or.elim e_ (kne_ HO_1042001 BK1041) (kne_ HO_1042002 BK1041)))); replace HO_1042000 := Aside0.mk (Kd.R_reok rfl hy0 (fun k_ e_ => HO_1042000.out.1 k_ e_)); replace HO_1042001 := Aside0.mk (Kd.R_reok rfl hy1 (fun k_ e_ => HO_1042001.out.1 k_ e_)); replace HO_1042002 := Aside0.mk (Kd.R_reok rfl hy2 (fun k_ e_ => HO_1042002.out.1 k_ e_)); replace HB := Aside0.mk (hb); clear hb; have hcz187_0 : w186.cell? ⟨gb1041, 0, none⟩ = some (.slice Ao38 t1031.length co38) := bc_ BK1041 0; have hcz187_1 : w186.cell? ⟨gb1041, 1, none⟩ = some (.slice Ao43 t1034.length co43) := bc_ BK1041 1; have hcz187_2 : w186.cell? ⟨gb1041, 2, none⟩ = some (.slice Ao44 t1037.length co44) := bc_ BK1041 2; have hfz187_0 := blk_frozen BK1041.out 0; have hfz187_1 := blk_frozen BK1041.out 1; have hfz187_2 := blk_frozen BK1041.out 2) | ((with_reducible refine gate_callee (f := 36) rfl ?_); refine goesL_ (some 67) rfl rfl Try.func36 (by kernel_rfl) rfl #[.agg #[.slice Ao38 t1059.length co38, .slice Ao43 t1060.length co43, .slice Ao44 t1061.length co44], .int .i64 1] rfl (by (try simp only [List.map_toArray, List.map_cons, List.map_nil]); first | done | (rw [show t1059.length = t1031.length from (Kd.R_reads' HO_1042000.out).1.symm, show t1060.length = t1034.length from (Kd.R_reads' HO_1042001.out).1.symm, show t1061.length = t1037.length from (Kd.R_reads' HO_1042002.out).1.symm] <;> rfl) | rfl | (simp only [List.length_drop, List.length_take]; rfl)) ?_; (with_reducible refine (laws_heldPair.calls kj67 _ _ t1059 _ _ t1060 _ _ t1061 1 t1062 _ ?side1 ?side2 ?side3 ?side4 ?side5 ?side6 A101.out).mono ?_); (case side1 => exact ca (Kd.R_reads' HO_1042000.out).2.2); (case side2 => rw [show t1059.length = t1031.length from (Kd.R_reads' HO_1042000.out).1.symm]; exact (Kd.R_reads' HO_1042000.out).2.1); (case side3 => exact ca (Kd.R_reads' HO_1042001.out).2.2); (case side4 => rw [show t1060.length = t1034.length from (Kd.R_reads' HO_1042001.out).1.symm]; exact (Kd.R_reads' HO_1042001.out).2.1); (case side5 => exact ca (Kd.R_reads' HO_1042002.out).2.2); (case side6 => rw [show t1061.length = t1037.length from (Kd.R_reads' HO_1042002.out).1.symm]; exact (Kd.R_reads' HO_1042002.out).2.1); rintro e w188 ⟨rfl, hb⟩; refine ⟨_, rfl, ?_⟩; replace HO_1021000 := rb_ HO_1021000 hb; replace HO_1021001 := rb_ HO_1021001 hb; replace HO_1021002 := rb_ HO_1021002 hb; replace HO_1031000 := rb_ HO_1031000 hb; replace HO_1031001 := rb_ HO_1031001 hb; replace HO_1031002 := rb_ HO_1031002 hb; replace HO_1042000 := rb_ HO_1042000 hb; replace HO_1042001 := rb_ HO_1042001 hb; replace HO_1042002 := rb_ HO_1042002 hb; replace BK999 := bb_ BK999 hb; replace BK1020 := bb_ BK1020 hb; replace BK1030 := bb_ BK1030 hb; replace BK1041 := bb_ BK1041 hb; replace HB := bst_ HB hb; clear hb))
      go_ret
      exact ⟨by first | rfl | (simp [errW_none, errW_some] <;> rfl) | (simp [*, errW_none, errW_some] <;> rfl), by repeat (first | (with_reducible first | exact HB.out | apply below_alloc | apply pw_below_drewN | apply below_drew1 | refine below_set ?_ GE999.out | refine below_set ?_ GE1020.out | refine below_set ?_ GE1030.out | refine below_set ?_ GE1041.out) | exact HB.out)⟩
     rw [if_pos c110] at H
     have c110b0 : (t1062 == t1058) = true := beq_iff_eq.mpr c110
     have c110b1 : (t1062 != t1058) = false := bne_eq_false_iff_eq.mpr c110
     clear c110
     replace H := Option.bind_eq_some_iff.mp H
     obtain ⟨⟨t1063, t1066, t1069⟩, A1110, H⟩ := H
     replace H : ((impl_SettlePair.f kj67 t1063 t1066 t1069).bind fun bt1072 => ((laws_eqPair.f kj67 bt1072.1 bt1072.2.1 bt1072.2.2.1 t1010 t1013 t1016).bind fun t1083 => (if t1083 = true then (laws_FnExactSettlePair.j2 kj67 t1058 (bt1072.2.2.2 != t1019) t1059 t1060 t1061) else (laws_FnExactSettlePair.j2 kj67 t1058 true t1059 t1060 t1061)))) = some r := H
     have A111 := Aside0.mk A1110
     clear A1110
     replace H := Option.bind_eq_some_iff.mp H
     obtain ⟨⟨t1072, t1075, t1078, t1081⟩, A1120, H⟩ := H
     replace H : ((laws_eqPair.f kj67 t1072 t1075 t1078 t1010 t1013 t1016).bind fun t1083 => (if t1083 = true then (laws_FnExactSettlePair.j2 kj67 t1058 (t1081 != t1019) t1059 t1060 t1061) else (laws_FnExactSettlePair.j2 kj67 t1058 true t1059 t1060 t1061))) = some r := H
     have A112 := Aside0.mk A1120
     clear A1120
     have HC113 := Aside0.mk H
     clear H
     have hnb114 := NB1041_999.out
     have hnc114 := NB999_1041.out
     have hnb115 := NB1041_1020.out
     have hnc115 := NB1020_1041.out
     have hnb116 := NB1041_1030.out
     have hnc116 := NB1030_1041.out
     have hcz117_0 : wc.cell? ⟨gb1041, 0, none⟩ = some (.slice Ao38 t1031.length co38) := bc_ BK1041 0
     have hcz117_1 : wc.cell? ⟨gb1041, 1, none⟩ = some (.slice Ao43 t1034.length co43) := bc_ BK1041 1
     have hcz117_2 : wc.cell? ⟨gb1041, 2, none⟩ = some (.slice Ao44 t1037.length co44) := bc_ BK1041 2
     have hfz117_0 := blk_frozen BK1041.out 0
     have hfz117_1 := blk_frozen BK1041.out 1
     have hfz117_2 := blk_frozen BK1041.out 2
     go_upto_region 25 with (first | ((with_reducible refine gate_callee (f := 35) rfl ?_); refine goesL_ (some 64) rfl rfl Try.func35 (by kernel_rfl) rfl #[.agg #[.slice Ao38 t1031.length co38, .slice Ao43 t1034.length co43, .slice Ao44 t1037.length co44], .int .i64 1] rfl tm_ ?_; (with_reducible refine (laws_markPair.calls kj67 (fun k_ => some k_ = (.slice Ao38 t1031.length co38 : Value).ownBlock) (.slice Ao38 t1031.length co38) t1031 (fun k_ => some k_ = (.slice Ao43 t1034.length co43 : Value).ownBlock) (.slice Ao43 t1034.length co43) t1034 (fun k_ => some k_ = (.slice Ao44 t1037.length co44 : Value).ownBlock) (.slice Ao44 t1037.length co44) t1037 1 t1058 t1059 t1060 t1061 w _ ?side1 ?side2 ?side3 ?side4 ?side5 ?side6 A100.out).mono ?_); (case side1 => repeat (first | (with_reducible first | exact HB.out | apply below_alloc | apply pw_below_drewN | apply below_drew1 | refine below_set ?_ GE999.out | refine below_set ?_ GE1020.out | refine below_set ?_ GE1030.out | refine below_set ?_ GE1041.out) | exact HB.out)); (case side2 => exact Kd.R_tight rfl HO_1042000.out); (case side3 => exact fun k_ e_ => (HO_1042000.out.1 k_ e_.symm).2.2.2.2); (case side4 => exact Kd.R_tight rfl HO_1042001.out); (case side5 => exact fun k_ e_ => (HO_1042001.out.1 k_ e_.symm).2.2.2.2); (case side6 => exact Kd.R_tight rfl HO_1042002.out); rintro e w118 ⟨rfl, hy0, hy1, hy2, hb, hkp⟩; refine ⟨_, rfl, ?_⟩; replace HO_1021000 := Aside0.mk (Kd.R_mono (ok' := fun k_ => no_ (.slice Ao25 t1013.length co25) k_ ∧ no_ (.slice Ao30 t1054.length co30) k_ ∧ no_ (.slice Ao34 t1055.length co34) k_ ∧ no_ (.slice Ao38 t1031.length co38) k_ ∧ no_ (.slice Ao43 t1034.length co43) k_) (Kd.R_keptB ((Kd.R_apart' HO_1021000.out (Kd.R_typed HO_1042002.out) (by decide))) hkp (fun k_ hk_ hs_ => Or.elim hs_ (fun e_ => (hk_.1.2.2.2.1) e_) (fun e_ => Or.elim e_ (fun e_ => (hk_.1.2.2.2.2) e_) (fun e_ => (hk_.2) e_)))) (fun k_ hk_ => ⟨hk_.1.1.1, hk_.1.1.2.1, hk_.1.1.2.2.1, hk_.1.1.2.2.2.1, hk_.1.1.2.2.2.2⟩)); replace HO_1021001 := Aside0.mk (Kd.R_mono (ok' := fun k_ => no_ (.slice Ao22 t1010.length co22) k_ ∧ no_ (.slice Ao30 t1054.length co30) k_ ∧ no_ (.slice Ao34 t1055.length co34) k_ ∧ no_ (.slice Ao38 t1031.length co38) k_ ∧ no_ (.slice Ao43 t1034.length co43) k_) (Kd.R_keptB ((Kd.R_apart' HO_1021001.out (Kd.R_typed HO_1042002.out) (by decide))) hkp (fun k_ hk_ hs_ => Or.elim hs_ (fun e_ => (hk_.1.2.2.2.1) e_) (fun e_ => Or.elim e_ (fun e_ => (hk_.1.2.2.2.2) e_) (fun e_ => (hk_.2) e_)))) (fun k_ hk_ => ⟨hk_.1.1.1, hk_.1.1.2.1, hk_.1.1.2.2.1, hk_.1.1.2.2.2.1, hk_.1.1.2.2.2.2⟩)); replace HO_1021002 := Aside0.mk (Kd.R_mono (ok' := fun k_ => no_ (.slice Ao35 t1056.length co35) k_ ∧ no_ (.slice Ao44 t1037.length co44) k_) (Kd.R_keptB ((Kd.R_apart' (Kd.R_apart' HO_1021002.out (Kd.R_typed HO_1042000.out) (by decide)) (Kd.R_typed HO_1042001.out) (by decide))) hkp (fun k_ hk_ hs_ => Or.elim hs_ (fun e_ => (hk_.1.2) e_) (fun e_ => Or.elim e_ (fun e_ => (hk_.2) e_) (fun e_ => (hk_.1.1.2) e_)))) (fun k_ hk_ => ⟨hk_.1.1.1.1, hk_.1.1.1.2⟩)); replace HO_1031000 := Aside0.mk (Kd.R_mono (ok' := fun k_ => no_ (.slice Ao22 t1010.length co22) k_ ∧ no_ (.slice Ao25 t1013.length co25) k_ ∧ no_ (.slice Ao34 t1055.length co34) k_ ∧ no_ (.slice Ao38 t1031.length co38) k_ ∧ no_ (.slice Ao43 t1034.length co43) k_) (Kd.R_keptB ((Kd.R_apart' HO_1031000.out (Kd.R_typed HO_1042002.out) (by decide))) hkp (fun k_ hk_ hs_ => Or.elim hs_ (fun e_ => (hk_.1.2.2.2.1) e_) (fun e_ => Or.elim e_ (fun e_ => (hk_.1.2.2.2.2) e_) (fun e_ => (hk_.2) e_)))) (fun k_ hk_ => ⟨hk_.1.1.1, hk_.1.1.2.1, hk_.1.1.2.2.1, hk_.1.1.2.2.2.1, hk_.1.1.2.2.2.2⟩)); replace HO_1031001 := Aside0.mk (Kd.R_mono (ok' := fun k_ => no_ (.slice Ao22 t1010.length co22) k_ ∧ no_ (.slice Ao25 t1013.length co25) k_ ∧ no_ (.slice Ao30 t1054.length co30) k_ ∧ no_ (.slice Ao38 t1031.length co38) k_ ∧ no_ (.slice Ao43 t1034.length co43) k_) (Kd.R_keptB ((Kd.R_apart' HO_1031001.out (Kd.R_typed HO_1042002.out) (by decide))) hkp (fun k_ hk_ hs_ => Or.elim hs_ (fun e_ => (hk_.1.2.2.2.1) e_) (fun e_ => Or.elim e_ (fun e_ => (hk_.1.2.2.2.2) e_) (fun e_ => (hk_.2) e_)))) (fun k_ hk_ => ⟨hk_.1.1.1, hk_.1.1.2.1, hk_.1.1.2.2.1, hk_.1.1.2.2.2.1, hk_.1.1.2.2.2.2⟩)); replace HO_1031002 := Aside0.mk (Kd.R_mono (ok' := fun k_ => no_ (.slice Ao26 t1016.length co26) k_ ∧ no_ (.slice Ao44 t1037.length co44) k_) (Kd.R_keptB ((Kd.R_apart' (Kd.R_apart' HO_1031002.out (Kd.R_typed HO_1042000.out) (by decide)) (Kd.R_typed HO_1042001.out) (by decide))) hkp (fun k_ hk_ hs_ => Or.elim hs_ (fun e_ => (hk_.1.2) e_) (fun e_ => Or.elim e_ (fun e_ => (hk_.2) e_) (fun e_ => (hk_.1.1.2) e_)))) (fun k_ hk_ => ⟨hk_.1.1.1.1, hk_.1.1.1.2⟩)); replace BK999 := Aside0.mk (blk_kept (ba BK999.out) hkp (fun hs_ => Or.elim hs_ (kne_ HO_1042000 BK999) (fun e_ => Or.elim e_ (kne_ HO_1042001 BK999) (kne_ HO_1042002 BK999)))); replace BK1020 := Aside0.mk (blk_kept (ba BK1020.out) hkp (fun hs_ => Or.elim hs_ (kne_ HO_1042000 BK1020) (fun e_ => Or.elim e_ (kne_ HO_1042001 BK1020) (kne_ HO_1042002 BK1020)))); replace BK1030 := Aside0.mk (blk_kept (ba BK1030.out) hkp (fun hs_ => Or.elim hs_ (kne_ HO_1042000 BK1030) (fun e_ => Or.elim e_ (kne_ HO_1042001 BK1030) (kne_ HO_1042002 BK1030)))); replace BK1041 := Aside0.mk (blk_kept (ba BK1041.out) hkp (fun hs_ => Or.elim hs_ (kne_ HO_1042000 BK1041) (fun e_ => Or.elim e_ (kne_ HO_1042001 BK1041) (kne_ HO_1042002 BK1041)))); replace HO_1042000 := Aside0.mk (Kd.R_reok rfl hy0 (fun k_ e_ => HO_1042000.out.1 k_ e_)); replace HO_1042001 := Aside0.mk (Kd.R_reok rfl hy1 (fun k_ e_ => HO_1042001.out.1 k_ e_)); replace HO_1042002 := Aside0.mk (Kd.R_reok rfl hy2 (fun k_ e_ => HO_1042002.out.1 k_ e_)); replace HB := Aside0.mk (hb); clear hb; have hcz119_0 : w118.cell? ⟨gb1041, 0, none⟩ = some (.slice Ao38 t1031.length co38) := bc_ BK1041 0; have hcz119_1 : w118.cell? ⟨gb1041, 1, none⟩ = some (.slice Ao43 t1034.length co43) := bc_ BK1041 1; have hcz119_2 : w118.cell? ⟨gb1041, 2, none⟩ = some (.slice Ao44 t1037.length co44) := bc_ BK1041 2; have hfz119_0 := blk_frozen BK1041.out 0; have hfz119_1 := blk_frozen BK1041.out 1; have hfz119_2 := blk_frozen BK1041.out 2) | ((with_reducible refine gate_callee (f := 36) rfl ?_); refine goesL_ (some 67) rfl rfl Try.func36 (by kernel_rfl) rfl #[.agg #[.slice Ao38 t1059.length co38, .slice Ao43 t1060.length co43, .slice Ao44 t1061.length co44], .int .i64 1] rfl (by (try simp only [List.map_toArray, List.map_cons, List.map_nil]); first | done | (rw [show t1059.length = t1031.length from (Kd.R_reads' HO_1042000.out).1.symm, show t1060.length = t1034.length from (Kd.R_reads' HO_1042001.out).1.symm, show t1061.length = t1037.length from (Kd.R_reads' HO_1042002.out).1.symm] <;> rfl) | rfl | (simp only [List.length_drop, List.length_take]; rfl)) ?_; (with_reducible refine (laws_heldPair.calls kj67 _ _ t1059 _ _ t1060 _ _ t1061 1 t1062 _ ?side1 ?side2 ?side3 ?side4 ?side5 ?side6 A101.out).mono ?_); (case side1 => exact ca (Kd.R_reads' HO_1042000.out).2.2); (case side2 => rw [show t1059.length = t1031.length from (Kd.R_reads' HO_1042000.out).1.symm]; exact (Kd.R_reads' HO_1042000.out).2.1); (case side3 => exact ca (Kd.R_reads' HO_1042001.out).2.2); (case side4 => rw [show t1060.length = t1034.length from (Kd.R_reads' HO_1042001.out).1.symm]; exact (Kd.R_reads' HO_1042001.out).2.1); (case side5 => exact ca (Kd.R_reads' HO_1042002.out).2.2); (case side6 => rw [show t1061.length = t1037.length from (Kd.R_reads' HO_1042002.out).1.symm]; exact (Kd.R_reads' HO_1042002.out).2.1); rintro e w120 ⟨rfl, hb⟩; refine ⟨_, rfl, ?_⟩; replace HO_1021000 := rb_ HO_1021000 hb; replace HO_1021001 := rb_ HO_1021001 hb; replace HO_1021002 := rb_ HO_1021002 hb; replace HO_1031000 := rb_ HO_1031000 hb; replace HO_1031001 := rb_ HO_1031001 hb; replace HO_1031002 := rb_ HO_1031002 hb; replace HO_1042000 := rb_ HO_1042000 hb; replace HO_1042001 := rb_ HO_1042001 hb; replace HO_1042002 := rb_ HO_1042002 hb; replace BK999 := bb_ BK999 hb; replace BK1020 := bb_ BK1020 hb; replace BK1030 := bb_ BK1030 hb; replace BK1041 := bb_ BK1041 hb; replace HB := bst_ HB hb; clear hb; have hnb121 := NB999_1020.out; have hnc121 := NB1020_999.out; have hnb122 := NB999_1030.out; have hnc122 := NB1030_999.out; have hcz123_0 : w120.cell? ⟨gb999, 0, none⟩ = some (.slice A0_0 l0_0.length c0_0) := bc_ BK999 0; have hcz123_1 : w120.cell? ⟨gb999, 1, none⟩ = some (.slice A0_1 l0_1.length c0_1) := bc_ BK999 1; have hcz123_2 : w120.cell? ⟨gb999, 2, none⟩ = some (.slice A0_2 l0_2.length c0_2) := bc_ BK999 2; have hfz123_0 := blk_frozen BK999.out 0; have hfz123_1 := blk_frozen BK999.out 1; have hfz123_2 := blk_frozen BK999.out 2) | ((with_reducible refine gate_callee (f := 31) rfl ?_); refine goesL_ (some 75) rfl rfl Try.func31 (by kernel_rfl) rfl #[.agg #[.slice A0_0 l0_0.length c0_0, .slice A0_1 l0_1.length c0_1, .slice A0_2 l0_2.length c0_2]] rfl tm_ ?_; (with_reducible refine (laws_toPair.calls kj67 _ _ l0_0 _ _ l0_1 _ _ l0_2 t1063 t1066 t1069 _ ?side1 ?side2 ?side3 ?side4 ?side5 ?side6 A111.out).mono ?_); (case side1 => exact ca (Kd.C_below HR0_0.out HB.out)); (case side2 => exact HC0_0.out); (case side3 => exact ca (Kd.C_below HR0_1.out HB.out)); (case side4 => exact HC0_1.out); (case side5 => exact ca (Kd.C_below HR0_2.out HB.out)); (case side6 => exact HC0_2.out); rintro e w124 ⟨v1064, v1067, v1070, rfl, ho0, ho1, ho2, hb⟩; refine ⟨_, rfl, ?_⟩; have HO1065 := Aside0.mk (Kd.R_lower (Kd.R_new' (Kd.R_new' (Kd.R_new' (Kd.R_new' (Kd.R_new' (Kd.R_new' ho0 (rl_ HO_1021000)) (rl_ HO_1021001)) (rl_ HO_1031000)) (rl_ HO_1031001)) (rl_ HO_1042000)) (rl_ HO_1042001)) (below_size (hB HB))); have HO1068 := Aside0.mk (Kd.R_lower (Kd.R_new' (Kd.R_new' (Kd.R_new' (Kd.R_new' (Kd.R_new' (Kd.R_new' ho1 (rl_ HO_1021000)) (rl_ HO_1021001)) (rl_ HO_1031000)) (rl_ HO_1031001)) (rl_ HO_1042000)) (rl_ HO_1042001)) (below_size (hB HB))); have HO1071 := Aside0.mk (Kd.R_lower (Kd.R_new' (Kd.R_new' (Kd.R_new' ho2 (rl_ HO_1021002)) (rl_ HO_1031002)) (rl_ HO_1042002)) (below_size (hB HB))); replace HO_1021000 := rt2_ HO_1021000 hb ho0 ho1; replace HO_1021001 := rt2_ HO_1021001 hb ho0 ho1; replace HO_1021002 := re_ HO_1021002 ho2 hb; replace HO_1031000 := rt2_ HO_1031000 hb ho0 ho1; replace HO_1031001 := rt2_ HO_1031001 hb ho0 ho1; replace HO_1031002 := re_ HO_1031002 ho2 hb; replace HO_1042000 := rt2_ HO_1042000 hb ho0 ho1; replace HO_1042001 := rt2_ HO_1042001 hb ho0 ho1; replace HO_1042002 := re_ HO_1042002 ho2 hb; replace BK999 := bb_ BK999 hb; replace BK1020 := bb_ BK1020 hb; replace BK1030 := bb_ BK1030 hb; replace BK1041 := bb_ BK1041 hb; replace HB := bst_ HB hb; clear hb ho0 ho1 ho2; obtain ⟨Ao125, co125, eo125⟩ := Kd.R_slice HO1065.out; subst eo125; obtain ⟨Ao126, co126, eo126⟩ := Kd.R_slice HO1068.out; subst eo126; obtain ⟨Ao127, co127, eo127⟩ := Kd.R_slice HO1071.out; subst eo127) | ((with_reducible refine gate_callee (f := 45) rfl ?_); refine goesL_ (some 76) rfl rfl Try.func45 (by kernel_rfl) rfl #[.agg #[.slice Ao125 t1063.length co125, .slice Ao126 t1066.length co126, .slice Ao127 t1069.length co127]] rfl tm_ ?_; (with_reducible refine (impl_SettlePair.calls kj67 _ _ t1063 _ _ t1066 _ _ t1069 t1072 t1075 t1078 t1081 _ ?side1 ?side2 ?side3 ?side4 ?side5 ?side6 A112.out).mono ?_); (case side1 => exact ca (Kd.R_reads' HO1065.out).2.2); (case side2 => exact (Kd.R_reads' HO1065.out).2.1); (case side3 => exact ca (Kd.R_reads' HO1068.out).2.2); (case side4 => exact (Kd.R_reads' HO1068.out).2.1); (case side5 => exact ca (Kd.R_reads' HO1071.out).2.2); (case side6 => exact (Kd.R_reads' HO1071.out).2.1); rintro e w128 ⟨v1073, v1076, v1079, rfl, ho0, ho1, ho2, hb⟩; refine ⟨_, rfl, ?_⟩; have HO1074 := Aside0.mk (Kd.R_lower (Kd.R_new' (Kd.R_new' (Kd.R_new' (Kd.R_new' (Kd.R_new' (Kd.R_new' (Kd.R_new' (Kd.R_new' ho0 (rl_ HO_1021000)) (rl_ HO_1021001)) (rl_ HO_1031000)) (rl_ HO_1031001)) (rl_ HO_1042000)) (rl_ HO_1042001)) (rl_ HO1065)) (rl_ HO1068)) (below_size (hB HB))); have HO1077 := Aside0.mk (Kd.R_lower (Kd.R_new' (Kd.R_new' (Kd.R_new' (Kd.R_new' (Kd.R_new' (Kd.R_new' (Kd.R_new' (Kd.R_new' ho1 (rl_ HO_1021000)) (rl_ HO_1021001)) (rl_ HO_1031000)) (rl_ HO_1031001)) (rl_ HO_1042000)) (rl_ HO_1042001)) (rl_ HO1065)) (rl_ HO1068)) (below_size (hB HB))); have HO1080 := Aside0.mk (Kd.R_lower (Kd.R_new' (Kd.R_new' (Kd.R_new' (Kd.R_new' ho2 (rl_ HO_1021002)) (rl_ HO_1031002)) (rl_ HO_1042002)) (rl_ HO1071)) (below_size (hB HB))); replace HO_1021000 := rt2_ HO_1021000 hb ho0 ho1; replace HO_1021001 := rt2_ HO_1021001 hb ho0 ho1; replace HO_1021002 := re_ HO_1021002 ho2 hb; replace HO_1031000 := rt2_ HO_1031000 hb ho0 ho1; replace HO_1031001 := rt2_ HO_1031001 hb ho0 ho1; replace HO_1031002 := re_ HO_1031002 ho2 hb; replace HO_1042000 := rt2_ HO_1042000 hb ho0 ho1; replace HO_1042001 := rt2_ HO_1042001 hb ho0 ho1; replace HO_1042002 := re_ HO_1042002 ho2 hb; replace HO1065 := rt2_ HO1065 hb ho0 ho1; replace HO1068 := rt2_ HO1068 hb ho0 ho1; replace HO1071 := re_ HO1071 ho2 hb; replace BK999 := bb_ BK999 hb; replace BK1020 := bb_ BK1020 hb; replace BK1030 := bb_ BK1030 hb; replace BK1041 := bb_ BK1041 hb; replace HB := bst_ HB hb; clear hb ho0 ho1 ho2) | ((with_reducible refine gate_dst (N := 12) rfl ?_); refine box_event ?hg (N := 12) ?hd (cs := #[.slice none 0 0, .slice none 0 0, .slice none 0 0]) (t := 47) ?hr ?_; (case hd => rfl); (case hg => rfl); (case hr => first | (go_simp; done) | (go_simp; rfl)); intro gb1082 hg w129 hbox hb; have BK1082 := Aside0.mk (hbox); have GW1082 := gw_ hg HB; have GE1082 := gw_ hg HB; have NB999_1082 := nl_ hg BK999; have NB1082_999 := ng_ hg BK999; have NB1020_1082 := nl_ hg BK1020; have NB1082_1020 := ng_ hg BK1020; have NB1030_1082 := nl_ hg BK1030; have NB1082_1030 := ng_ hg BK1030; have NB1041_1082 := nl_ hg BK1041; have NB1082_1041 := ng_ hg BK1041; replace HO_1021000 := rb_ HO_1021000 hb; replace HO_1021001 := rb_ HO_1021001 hb; replace HO_1021002 := rb_ HO_1021002 hb; replace HO_1031000 := rb_ HO_1031000 hb; replace HO_1031001 := rb_ HO_1031001 hb; replace HO_1031002 := rb_ HO_1031002 hb; replace HO_1042000 := rb_ HO_1042000 hb; replace HO_1042001 := rb_ HO_1042001 hb; replace HO_1042002 := rb_ HO_1042002 hb; replace HO1065 := rb_ HO1065 hb; replace HO1068 := rb_ HO1068 hb; replace HO1071 := rb_ HO1071 hb; replace HO1074 := rb_ HO1074 hb; replace HO1077 := rb_ HO1077 hb; replace HO1080 := rb_ HO1080 hb; replace BK999 := bb_ BK999 hb; replace BK1020 := bb_ BK1020 hb; replace BK1030 := bb_ BK1030 hb; replace BK1041 := bb_ BK1041 hb; replace HB := bst_ HB hb; clear hb hbox hg; obtain ⟨Ao130, co130, eo130⟩ := Kd.R_slice HO1074.out; subst eo130; have hnb131 := NB1082_999.out; have hnc131 := NB999_1082.out; have hnb132 := NB1082_1020.out; have hnc132 := NB1020_1082.out; have hnb133 := NB1082_1030.out; have hnc133 := NB1030_1082.out; have hnb134 := NB1082_1041.out; have hnc134 := NB1041_1082.out; have hcz135_0 : w129.cell? ⟨gb1082, 0, none⟩ = some (.slice none 0 0) := bc_ BK1082 0; have hcz135_1 : w129.cell? ⟨gb1082, 1, none⟩ = some (.slice none 0 0) := bc_ BK1082 1; have hcz135_2 : w129.cell? ⟨gb1082, 2, none⟩ = some (.slice none 0 0) := bc_ BK1082 2; have hfz135_0 := blk_frozen BK1082.out 0; have hfz135_1 := blk_frozen BK1082.out 1; have hfz135_2 := blk_frozen BK1082.out 2; obtain ⟨Ao136, co136, eo136⟩ := Kd.R_slice HO1077.out; subst eo136; obtain ⟨Ao137, co137, eo137⟩ := Kd.R_slice HO1080.out; subst eo137))
     (try simp only [Act.put, List.setIfInBounds_toArray, List.set_cons_zero, List.set_cons_succ])
     go_cut [87] (fun v87 wc => ∃ (kq : Nat) (x87_112 : Bool), v87 = .bool x87_112 ∧ Aside0 (laws_FnExactSettlePair.j2 kq t1058 x87_112 t1059 t1060 t1061 = some r) ∧ Aside0 (kq ≤ kj67) ∧ Aside0 (Kd.R (Kd.int .i64) 3 wc w.heap.size (fun k_ => no_ (.slice Ao25 t1013.length co25) k_ ∧ no_ (.slice Ao30 t1054.length co30) k_ ∧ no_ (.slice Ao34 t1055.length co34) k_ ∧ no_ (.slice Ao38 t1031.length co38) k_ ∧ no_ (.slice Ao43 t1034.length co43) k_ ∧ no_ (.slice Ao130 t1072.length co130) k_ ∧ no_ (.slice Ao136 t1075.length co136) k_) (.slice Ao22 t1010.length co22) t1010) ∧ Aside0 (Kd.R (Kd.int .i64) 3 wc w.heap.size (fun k_ => no_ (.slice Ao22 t1010.length co22) k_ ∧ no_ (.slice Ao30 t1054.length co30) k_ ∧ no_ (.slice Ao34 t1055.length co34) k_ ∧ no_ (.slice Ao38 t1031.length co38) k_ ∧ no_ (.slice Ao43 t1034.length co43) k_ ∧ no_ (.slice Ao130 t1072.length co130) k_ ∧ no_ (.slice Ao136 t1075.length co136) k_) (.slice Ao25 t1013.length co25) t1013) ∧ Aside0 (Kd.R k127 127 wc w.heap.size (fun k_ => no_ (.slice Ao35 t1056.length co35) k_ ∧ no_ (.slice Ao44 t1037.length co44) k_ ∧ no_ (.slice Ao137 t1078.length co137) k_) (.slice Ao26 t1016.length co26) t1016) ∧ Aside0 (Kd.R (Kd.int .i64) 3 wc w.heap.size (fun k_ => no_ (.slice Ao22 t1010.length co22) k_ ∧ no_ (.slice Ao25 t1013.length co25) k_ ∧ no_ (.slice Ao34 t1055.length co34) k_ ∧ no_ (.slice Ao38 t1031.length co38) k_ ∧ no_ (.slice Ao43 t1034.length co43) k_ ∧ no_ (.slice Ao130 t1072.length co130) k_ ∧ no_ (.slice Ao136 t1075.length co136) k_) (.slice Ao30 t1054.length co30) t1054) ∧ Aside0 (Kd.R (Kd.int .i64) 3 wc w.heap.size (fun k_ => no_ (.slice Ao22 t1010.length co22) k_ ∧ no_ (.slice Ao25 t1013.length co25) k_ ∧ no_ (.slice Ao30 t1054.length co30) k_ ∧ no_ (.slice Ao38 t1031.length co38) k_ ∧ no_ (.slice Ao43 t1034.length co43) k_ ∧ no_ (.slice Ao130 t1072.length co130) k_ ∧ no_ (.slice Ao136 t1075.length co136) k_) (.slice Ao34 t1055.length co34) t1055) ∧ Aside0 (Kd.R k127 127 wc w.heap.size (fun k_ => no_ (.slice Ao26 t1016.length co26) k_ ∧ no_ (.slice Ao44 t1037.length co44) k_ ∧ no_ (.slice Ao137 t1078.length co137) k_) (.slice Ao35 t1056.length co35) t1056) ∧ Aside0 (Kd.R (Kd.int .i64) 3 wc w.heap.size (fun k_ => no_ (.slice Ao22 t1010.length co22) k_ ∧ no_ (.slice Ao25 t1013.length co25) k_ ∧ no_ (.slice Ao30 t1054.length co30) k_ ∧ no_ (.slice Ao34 t1055.length co34) k_ ∧ no_ (.slice Ao43 t1034.length co43) k_ ∧ no_ (.slice Ao130 t1072.length co130) k_ ∧ no_ (.slice Ao136 t1075.length co136) k_) (.slice Ao38 t1031.length co38) t1059) ∧ Aside0 (Kd.R (Kd.int .i64) 3 wc w.heap.size (fun k_ => no_ (.slice Ao22 t1010.length co22) k_ ∧ no_ (.slice Ao25 t1013.length co25) k_ ∧ no_ (.slice Ao30 t1054.length co30) k_ ∧ no_ (.slice Ao34 t1055.length co34) k_ ∧ no_ (.slice Ao38 t1031.length co38) k_ ∧ no_ (.slice Ao130 t1072.length co130) k_ ∧ no_ (.slice Ao136 t1075.length co136) k_) (.slice Ao43 t1034.length co43) t1060) ∧ Aside0 (Kd.R k127 127 wc w.heap.size (fun k_ => no_ (.slice Ao26 t1016.length co26) k_ ∧ no_ (.slice Ao35 t1056.length co35) k_ ∧ no_ (.slice Ao137 t1078.length co137) k_) (.slice Ao44 t1037.length co44) t1061) ∧ Aside0 (Kd.R (Kd.int .i64) 3 wc w.heap.size (fun k_ => no_ (.slice Ao22 t1010.length co22) k_ ∧ no_ (.slice Ao25 t1013.length co25) k_ ∧ no_ (.slice Ao30 t1054.length co30) k_ ∧ no_ (.slice Ao34 t1055.length co34) k_ ∧ no_ (.slice Ao38 t1031.length co38) k_ ∧ no_ (.slice Ao43 t1034.length co43) k_ ∧ no_ (.slice Ao136 t1075.length co136) k_) (.slice Ao130 t1072.length co130) t1072) ∧ Aside0 (Kd.R (Kd.int .i64) 3 wc w.heap.size (fun k_ => no_ (.slice Ao22 t1010.length co22) k_ ∧ no_ (.slice Ao25 t1013.length co25) k_ ∧ no_ (.slice Ao30 t1054.length co30) k_ ∧ no_ (.slice Ao34 t1055.length co34) k_ ∧ no_ (.slice Ao38 t1031.length co38) k_ ∧ no_ (.slice Ao43 t1034.length co43) k_ ∧ no_ (.slice Ao130 t1072.length co130) k_) (.slice Ao136 t1075.length co136) t1075) ∧ Aside0 (Kd.R k127 127 wc w.heap.size (fun k_ => no_ (.slice Ao26 t1016.length co26) k_ ∧ no_ (.slice Ao35 t1056.length co35) k_ ∧ no_ (.slice Ao44 t1037.length co44) k_) (.slice Ao137 t1078.length co137) t1078) ∧ Aside0 (wc.heap[gb999]? = some (.cells #[(.slice A0_0 l0_0.length c0_0), (.slice A0_1 l0_1.length c0_1), (.slice A0_2 l0_2.length c0_2)] 41 (0, 0))) ∧ Aside0 (wc.heap[gb1020]? = some (.cells #[(.slice Ao22 t1010.length co22), (.slice Ao25 t1013.length co25), (.slice Ao26 t1016.length co26)] 47 (0, 0))) ∧ Aside0 (wc.heap[gb1030]? = some (.cells #[(.slice Ao30 t1054.length co30), (.slice Ao34 t1055.length co34), (.slice Ao35 t1056.length co35)] 47 (0, 0))) ∧ Aside0 (wc.heap[gb1041]? = some (.cells #[(.slice Ao38 t1031.length co38), (.slice Ao43 t1034.length co43), (.slice Ao44 t1037.length co44)] 47 (0, 0))) ∧ Aside0 (wc.heap[gb1082]? = some (.cells #[(.slice Ao130 t1072.length co130), (.slice Ao136 t1075.length co136), (.slice Ao137 t1078.length co137)] 47 (0, 0))) ∧ Aside0 (Below w.heap.size w wc))
     case first =>
      have H := HC113.out
      clear HC113
      replace H := Option.bind_eq_some_iff.mp H
      obtain ⟨t1083, A1380, H⟩ := H
      replace H : (if t1083 = true then (laws_FnExactSettlePair.j2 kj67 t1058 (t1081 != t1019) t1059 t1060 t1061) else (laws_FnExactSettlePair.j2 kj67 t1058 true t1059 t1060 t1061)) = some r := H
      have A138 := Aside0.mk A1380
      clear A1380
      by_cases c139 : t1083 = true
      ·subst c139
       rw [if_pos rfl] at H
       have H' := Aside0.mk H
       clear H
       have hnb140 := NB1082_999.out
       have hnc140 := NB999_1082.out
       have hnb141 := NB1082_1020.out
       have hnc141 := NB1020_1082.out
       have hnb142 := NB1082_1030.out
       have hnc142 := NB1030_1082.out
       have hnb143 := NB1082_1041.out
       have hnc143 := NB1041_1082.out
       have hcz144_0 : w129.cell? ⟨gb1082, 0, none⟩ = some (.slice none 0 0) := bc_ BK1082 0
       have hcz144_1 : w129.cell? ⟨gb1082, 1, none⟩ = some (.slice none 0 0) := bc_ BK1082 1
       have hcz144_2 : w129.cell? ⟨gb1082, 2, none⟩ = some (.slice none 0 0) := bc_ BK1082 2
       have hfz144_0 := blk_frozen BK1082.out 0
       have hfz144_1 := blk_frozen BK1082.out 1
       have hfz144_2 := blk_frozen BK1082.out 2
       have hnb145 := NB1020_999.out
       have hnc145 := NB999_1020.out
       have hnb146 := NB1020_1030.out
       have hnc146 := NB1030_1020.out
       have hnb147 := NB1020_1041.out
       have hnc147 := NB1041_1020.out
       have hcz148_0 : w129.cell? ⟨gb1020, 0, none⟩ = some (.slice Ao22 t1010.length co22) := bc_ BK1020 0
       have hcz148_1 : w129.cell? ⟨gb1020, 1, none⟩ = some (.slice Ao25 t1013.length co25) := bc_ BK1020 1
       have hcz148_2 : w129.cell? ⟨gb1020, 2, none⟩ = some (.slice Ao26 t1016.length co26) := bc_ BK1020 2
       have hfz148_0 := blk_frozen BK1020.out 0
       have hfz148_1 := blk_frozen BK1020.out 1
       have hfz148_2 := blk_frozen BK1020.out 2
       go_wp2_with (first | ((with_reducible refine gate_callee (f := 34) rfl ?_); refine goesL_ (some 81) rfl rfl Try.func34 (by kernel_rfl) rfl #[.agg #[.slice Ao130 t1072.length co130, .slice Ao136 t1075.length co136, .slice Ao137 t1078.length co137], .agg #[.slice Ao22 t1010.length co22, .slice Ao25 t1013.length co25, .slice Ao26 t1016.length co26]] rfl tm_ ?_; (with_reducible refine (laws_eqPair.calls kj67 _ _ t1072 _ _ t1075 _ _ t1078 _ _ t1010 _ _ t1013 _ _ t1016 true _ ?side1 ?side2 ?side3 ?side4 ?side5 ?side6 ?side7 ?side8 ?side9 ?side10 ?side11 ?side12 A138.out).mono ?_); (case side1 => exact rr_ (fm3_ HO1074 BK1082)); (case side2 => exact (Kd.R_reads' HO1074.out).2.1); (case side3 => exact rr_ (fm3_ HO1077 BK1082)); (case side4 => exact (Kd.R_reads' HO1077.out).2.1); (case side5 => exact rr_ (fm3_ HO1080 BK1082)); (case side6 => exact (Kd.R_reads' HO1080.out).2.1); (case side7 => exact rr_ (fm3_ HO_1021000 BK1082)); (case side8 => exact (Kd.R_reads' HO_1021000.out).2.1); (case side9 => exact rr_ (fm3_ HO_1021001 BK1082)); (case side10 => exact (Kd.R_reads' HO_1021001.out).2.1); (case side11 => exact rr_ (fm3_ HO_1021002 BK1082)); (case side12 => exact (Kd.R_reads' HO_1021002.out).2.1); rintro e w149 ⟨rfl, hb⟩; refine ⟨_, rfl, ?_⟩; replace HO_1021000 := rb3_ HO_1021000 BK1082 hb; replace HO_1021001 := rb3_ HO_1021001 BK1082 hb; replace HO_1021002 := rb3_ HO_1021002 BK1082 hb; replace HO_1031000 := rb3_ HO_1031000 BK1082 hb; replace HO_1031001 := rb3_ HO_1031001 BK1082 hb; replace HO_1031002 := rb3_ HO_1031002 BK1082 hb; replace HO_1042000 := rb3_ HO_1042000 BK1082 hb; replace HO_1042001 := rb3_ HO_1042001 BK1082 hb; replace HO_1042002 := rb3_ HO_1042002 BK1082 hb; replace HO1065 := rb3_ HO1065 BK1082 hb; replace HO1068 := rb3_ HO1068 BK1082 hb; replace HO1071 := rb3_ HO1071 BK1082 hb; replace HO1074 := rb3_ HO1074 BK1082 hb; replace HO1077 := rb3_ HO1077 BK1082 hb; replace HO1080 := rb3_ HO1080 BK1082 hb; replace BK999 := Aside0.mk (blk_below (bx BK999) hb); replace BK1020 := Aside0.mk (blk_below (bx BK1020) hb); replace BK1030 := Aside0.mk (blk_below (bx BK1030) hb); replace BK1041 := Aside0.mk (blk_below (bx BK1041) hb); replace BK1082 := Aside0.mk (blk_below (g := gb1082) (o := .cells #[.slice Ao130 t1072.length co130, .slice Ao136 t1075.length co136, .slice Ao137 t1078.length co137] 47 (0, 0)) (by (with_reducible repeat (first | refine blk_drewN ?_ _ | refine blk_drew ?_ | refine blk_alloc ?_ _)); refine blk_put (cs := #[.slice Ao130 t1072.length co130, .slice Ao136 t1075.length co136, .slice none 0 0]) ?_ 2 _ rfl; (with_reducible repeat (first | refine blk_drewN ?_ _ | refine blk_drew ?_ | refine blk_alloc ?_ _)); refine blk_put (cs := #[.slice Ao130 t1072.length co130, .slice none 0 0, .slice none 0 0]) ?_ 1 _ rfl; (with_reducible repeat (first | refine blk_drewN ?_ _ | refine blk_drew ?_ | refine blk_alloc ?_ _)); refine blk_put (cs := #[.slice none 0 0, .slice none 0 0, .slice none 0 0]) ?_ 0 _ rfl; (with_reducible repeat (first | refine blk_drewN ?_ _ | refine blk_drew ?_ | refine blk_alloc ?_ _)); exact BK1082.out) hb); replace HB := bst_ HB hb; clear hb))
       go_meet
       case rel => exact ⟨_, ((t1081 != t1019)), (by first | rfl | (simp; done) | (simp [*]; done)), H', ⟨by have := HJ10.out; have := HJ67.out; first | omega | exact Nat.le_refl _⟩, ⟨by (try simp only [hl1031000_67]); (try simp only [hl1031001_67]); (try simp only [hl1031002_67]); (with_reducible repeat (first | apply Kd.R_alloc | apply Kd.R_drewN | apply Kd.R_drew)); exact Kd.R_mono HO_1021000.out (fun _ hk => ⟨hk.1.1.1.1.1, ⟨hk.1.1.1.1.2.1, ⟨hk.1.1.1.1.2.2.1, ⟨hk.1.1.1.1.2.2.2.1, ⟨hk.1.1.1.1.2.2.2.2, ⟨hk.1.2, hk.2⟩⟩⟩⟩⟩⟩)⟩, ⟨by (try simp only [hl1031000_67]); (try simp only [hl1031001_67]); (try simp only [hl1031002_67]); (with_reducible repeat (first | apply Kd.R_alloc | apply Kd.R_drewN | apply Kd.R_drew)); exact Kd.R_mono HO_1021001.out (fun _ hk => ⟨hk.1.1.1.1.1, ⟨hk.1.1.1.1.2.1, ⟨hk.1.1.1.1.2.2.1, ⟨hk.1.1.1.1.2.2.2.1, ⟨hk.1.1.1.1.2.2.2.2, ⟨hk.1.2, hk.2⟩⟩⟩⟩⟩⟩)⟩, ⟨by (try simp only [hl1031000_67]); (try simp only [hl1031001_67]); (try simp only [hl1031002_67]); (with_reducible repeat (first | apply Kd.R_alloc | apply Kd.R_drewN | apply Kd.R_drew)); exact Kd.R_mono HO_1021002.out (fun _ hk => ⟨hk.1.1.1, ⟨hk.1.1.2, hk.2⟩⟩)⟩, ⟨by (try simp only [hl1031000_67]); (try simp only [hl1031001_67]); (try simp only [hl1031002_67]); (with_reducible repeat (first | apply Kd.R_alloc | apply Kd.R_drewN | apply Kd.R_drew)); exact Kd.R_mono HO_1031000.out (fun _ hk => ⟨hk.1.1.1.1.1, ⟨hk.1.1.1.1.2.1, ⟨hk.1.1.1.1.2.2.1, ⟨hk.1.1.1.1.2.2.2.1, ⟨hk.1.1.1.1.2.2.2.2, ⟨hk.1.2, hk.2⟩⟩⟩⟩⟩⟩)⟩, ⟨by (try simp only [hl1031000_67]); (try simp only [hl1031001_67]); (try simp only [hl1031002_67]); (with_reducible repeat (first | apply Kd.R_alloc | apply Kd.R_drewN | apply Kd.R_drew)); exact Kd.R_mono HO_1031001.out (fun _ hk => ⟨hk.1.1.1.1.1, ⟨hk.1.1.1.1.2.1, ⟨hk.1.1.1.1.2.2.1, ⟨hk.1.1.1.1.2.2.2.1, ⟨hk.1.1.1.1.2.2.2.2, ⟨hk.1.2, hk.2⟩⟩⟩⟩⟩⟩)⟩, ⟨by (try simp only [hl1031000_67]); (try simp only [hl1031001_67]); (try simp only [hl1031002_67]); (with_reducible repeat (first | apply Kd.R_alloc | apply Kd.R_drewN | apply Kd.R_drew)); exact Kd.R_mono HO_1031002.out (fun _ hk => ⟨hk.1.1.1, ⟨hk.1.1.2, hk.2⟩⟩)⟩, ⟨by (try simp only [hl1031000_67]); (try simp only [hl1031001_67]); (try simp only [hl1031002_67]); (with_reducible repeat (first | apply Kd.R_alloc | apply Kd.R_drewN | apply Kd.R_drew)); exact Kd.R_mono HO_1042000.out (fun _ hk => ⟨hk.1.1.1.1.1, ⟨hk.1.1.1.1.2.1, ⟨hk.1.1.1.1.2.2.1, ⟨hk.1.1.1.1.2.2.2.1, ⟨hk.1.1.1.1.2.2.2.2, ⟨hk.1.2, hk.2⟩⟩⟩⟩⟩⟩)⟩, ⟨by (try simp only [hl1031000_67]); (try simp only [hl1031001_67]); (try simp only [hl1031002_67]); (with_reducible repeat (first | apply Kd.R_alloc | apply Kd.R_drewN | apply Kd.R_drew)); exact Kd.R_mono HO_1042001.out (fun _ hk => ⟨hk.1.1.1.1.1, ⟨hk.1.1.1.1.2.1, ⟨hk.1.1.1.1.2.2.1, ⟨hk.1.1.1.1.2.2.2.1, ⟨hk.1.1.1.1.2.2.2.2, ⟨hk.1.2, hk.2⟩⟩⟩⟩⟩⟩)⟩, ⟨by (try simp only [hl1031000_67]); (try simp only [hl1031001_67]); (try simp only [hl1031002_67]); (with_reducible repeat (first | apply Kd.R_alloc | apply Kd.R_drewN | apply Kd.R_drew)); exact Kd.R_mono HO_1042002.out (fun _ hk => ⟨hk.1.1.1, ⟨hk.1.1.2, hk.2⟩⟩)⟩, ⟨by (try simp only [hl1031000_67]); (try simp only [hl1031001_67]); (try simp only [hl1031002_67]); (with_reducible repeat (first | apply Kd.R_alloc | apply Kd.R_drewN | apply Kd.R_drew)); exact Kd.R_mono HO1074.out (fun _ hk => ⟨hk.1.1.1.1.1.1.1.2, ⟨hk.1.1.1.1.1.1.2, ⟨hk.1.1.1.1.1.2, ⟨hk.1.1.1.1.2, ⟨hk.1.1.1.2, ⟨hk.1.1.2, hk.1.1.1.1.1.1.1.1⟩⟩⟩⟩⟩⟩)⟩, ⟨by (try simp only [hl1031000_67]); (try simp only [hl1031001_67]); (try simp only [hl1031002_67]); (with_reducible repeat (first | apply Kd.R_alloc | apply Kd.R_drewN | apply Kd.R_drew)); exact Kd.R_mono HO1077.out (fun _ hk => ⟨hk.1.1.1.1.1.1.1.2, ⟨hk.1.1.1.1.1.1.2, ⟨hk.1.1.1.1.1.2, ⟨hk.1.1.1.1.2, ⟨hk.1.1.1.2, ⟨hk.1.1.2, hk.1.1.1.1.1.1.1.1⟩⟩⟩⟩⟩⟩)⟩, ⟨by (try simp only [hl1031000_67]); (try simp only [hl1031001_67]); (try simp only [hl1031002_67]); (with_reducible repeat (first | apply Kd.R_alloc | apply Kd.R_drewN | apply Kd.R_drew)); exact Kd.R_mono HO1080.out (fun _ hk => ⟨hk.1.1.1.2, ⟨hk.1.1.2, hk.1.2⟩⟩)⟩, ⟨by (try simp only [hl1031000_67]); (try simp only [hl1031001_67]); (try simp only [hl1031002_67]); (with_reducible repeat (first | refine blk_drewN ?_ _ | refine blk_drew ?_ | refine blk_alloc ?_ _)); exact BK999.out⟩, ⟨by (try simp only [hl1031000_67]); (try simp only [hl1031001_67]); (try simp only [hl1031002_67]); (with_reducible repeat (first | refine blk_drewN ?_ _ | refine blk_drew ?_ | refine blk_alloc ?_ _)); exact BK1020.out⟩, ⟨by (try simp only [hl1031000_67]); (try simp only [hl1031001_67]); (try simp only [hl1031002_67]); (with_reducible repeat (first | refine blk_drewN ?_ _ | refine blk_drew ?_ | refine blk_alloc ?_ _)); exact BK1030.out⟩, ⟨by (try simp only [hl1031000_67]); (try simp only [hl1031001_67]); (try simp only [hl1031002_67]); (with_reducible repeat (first | refine blk_drewN ?_ _ | refine blk_drew ?_ | refine blk_alloc ?_ _)); exact BK1041.out⟩, ⟨by (try simp only [hl1031000_67]); (try simp only [hl1031001_67]); (try simp only [hl1031002_67]); (with_reducible repeat (first | refine blk_drewN ?_ _ | refine blk_drew ?_ | refine blk_alloc ?_ _)); exact BK1082.out⟩, ⟨hB HB⟩⟩
      replace c139 := Bool.eq_false_iff.mpr c139
      subst c139
      rw [if_neg (show ¬ (false = true) by decide)] at H
      have H' := Aside0.mk H
      clear H
      have hnb150 := NB1082_999.out
      have hnc150 := NB999_1082.out
      have hnb151 := NB1082_1020.out
      have hnc151 := NB1020_1082.out
      have hnb152 := NB1082_1030.out
      have hnc152 := NB1030_1082.out
      have hnb153 := NB1082_1041.out
      have hnc153 := NB1041_1082.out
      have hcz154_0 : w129.cell? ⟨gb1082, 0, none⟩ = some (.slice none 0 0) := bc_ BK1082 0
      have hcz154_1 : w129.cell? ⟨gb1082, 1, none⟩ = some (.slice none 0 0) := bc_ BK1082 1
      have hcz154_2 : w129.cell? ⟨gb1082, 2, none⟩ = some (.slice none 0 0) := bc_ BK1082 2
      have hfz154_0 := blk_frozen BK1082.out 0
      have hfz154_1 := blk_frozen BK1082.out 1
      have hfz154_2 := blk_frozen BK1082.out 2
      have hnb155 := NB1020_999.out
      have hnc155 := NB999_1020.out
      have hnb156 := NB1020_1030.out
      have hnc156 := NB1030_1020.out
      have hnb157 := NB1020_1041.out
      have hnc157 := NB1041_1020.out
      have hcz158_0 : w129.cell? ⟨gb1020, 0, none⟩ = some (.slice Ao22 t1010.length co22) := bc_ BK1020 0
      have hcz158_1 : w129.cell? ⟨gb1020, 1, none⟩ = some (.slice Ao25 t1013.length co25) := bc_ BK1020 1
      have hcz158_2 : w129.cell? ⟨gb1020, 2, none⟩ = some (.slice Ao26 t1016.length co26) := bc_ BK1020 2
      have hfz158_0 := blk_frozen BK1020.out 0
      have hfz158_1 := blk_frozen BK1020.out 1
      have hfz158_2 := blk_frozen BK1020.out 2
      go_wp2_with (first | ((with_reducible refine gate_callee (f := 34) rfl ?_); refine goesL_ (some 81) rfl rfl Try.func34 (by kernel_rfl) rfl #[.agg #[.slice Ao130 t1072.length co130, .slice Ao136 t1075.length co136, .slice Ao137 t1078.length co137], .agg #[.slice Ao22 t1010.length co22, .slice Ao25 t1013.length co25, .slice Ao26 t1016.length co26]] rfl tm_ ?_; (with_reducible refine (laws_eqPair.calls kj67 _ _ t1072 _ _ t1075 _ _ t1078 _ _ t1010 _ _ t1013 _ _ t1016 false _ ?side1 ?side2 ?side3 ?side4 ?side5 ?side6 ?side7 ?side8 ?side9 ?side10 ?side11 ?side12 A138.out).mono ?_); (case side1 => exact rr_ (fm3_ HO1074 BK1082)); (case side2 => exact (Kd.R_reads' HO1074.out).2.1); (case side3 => exact rr_ (fm3_ HO1077 BK1082)); (case side4 => exact (Kd.R_reads' HO1077.out).2.1); (case side5 => exact rr_ (fm3_ HO1080 BK1082)); (case side6 => exact (Kd.R_reads' HO1080.out).2.1); (case side7 => exact rr_ (fm3_ HO_1021000 BK1082)); (case side8 => exact (Kd.R_reads' HO_1021000.out).2.1); (case side9 => exact rr_ (fm3_ HO_1021001 BK1082)); (case side10 => exact (Kd.R_reads' HO_1021001.out).2.1); (case side11 => exact rr_ (fm3_ HO_1021002 BK1082)); (case side12 => exact (Kd.R_reads' HO_1021002.out).2.1); rintro e w159 ⟨rfl, hb⟩; refine ⟨_, rfl, ?_⟩; replace HO_1021000 := rb3_ HO_1021000 BK1082 hb; replace HO_1021001 := rb3_ HO_1021001 BK1082 hb; replace HO_1021002 := rb3_ HO_1021002 BK1082 hb; replace HO_1031000 := rb3_ HO_1031000 BK1082 hb; replace HO_1031001 := rb3_ HO_1031001 BK1082 hb; replace HO_1031002 := rb3_ HO_1031002 BK1082 hb; replace HO_1042000 := rb3_ HO_1042000 BK1082 hb; replace HO_1042001 := rb3_ HO_1042001 BK1082 hb; replace HO_1042002 := rb3_ HO_1042002 BK1082 hb; replace HO1065 := rb3_ HO1065 BK1082 hb; replace HO1068 := rb3_ HO1068 BK1082 hb; replace HO1071 := rb3_ HO1071 BK1082 hb; replace HO1074 := rb3_ HO1074 BK1082 hb; replace HO1077 := rb3_ HO1077 BK1082 hb; replace HO1080 := rb3_ HO1080 BK1082 hb; replace BK999 := Aside0.mk (blk_below (bx BK999) hb); replace BK1020 := Aside0.mk (blk_below (bx BK1020) hb); replace BK1030 := Aside0.mk (blk_below (bx BK1030) hb); replace BK1041 := Aside0.mk (blk_below (bx BK1041) hb); replace BK1082 := Aside0.mk (blk_below (g := gb1082) (o := .cells #[.slice Ao130 t1072.length co130, .slice Ao136 t1075.length co136, .slice Ao137 t1078.length co137] 47 (0, 0)) (by (with_reducible repeat (first | refine blk_drewN ?_ _ | refine blk_drew ?_ | refine blk_alloc ?_ _)); refine blk_put (cs := #[.slice Ao130 t1072.length co130, .slice Ao136 t1075.length co136, .slice none 0 0]) ?_ 2 _ rfl; (with_reducible repeat (first | refine blk_drewN ?_ _ | refine blk_drew ?_ | refine blk_alloc ?_ _)); refine blk_put (cs := #[.slice Ao130 t1072.length co130, .slice none 0 0, .slice none 0 0]) ?_ 1 _ rfl; (with_reducible repeat (first | refine blk_drewN ?_ _ | refine blk_drew ?_ | refine blk_alloc ?_ _)); refine blk_put (cs := #[.slice none 0 0, .slice none 0 0, .slice none 0 0]) ?_ 0 _ rfl; (with_reducible repeat (first | refine blk_drewN ?_ _ | refine blk_drew ?_ | refine blk_alloc ?_ _)); exact BK1082.out) hb); replace HB := bst_ HB hb; clear hb))
      go_meet
      case rel => exact ⟨_, (true), (by first | rfl | (simp; done) | (simp [*]; done)), H', ⟨by have := HJ10.out; have := HJ67.out; first | omega | exact Nat.le_refl _⟩, ⟨by (try simp only [hl1031000_67]); (try simp only [hl1031001_67]); (try simp only [hl1031002_67]); (with_reducible repeat (first | apply Kd.R_alloc | apply Kd.R_drewN | apply Kd.R_drew)); exact Kd.R_mono HO_1021000.out (fun _ hk => ⟨hk.1.1.1.1.1, ⟨hk.1.1.1.1.2.1, ⟨hk.1.1.1.1.2.2.1, ⟨hk.1.1.1.1.2.2.2.1, ⟨hk.1.1.1.1.2.2.2.2, ⟨hk.1.2, hk.2⟩⟩⟩⟩⟩⟩)⟩, ⟨by (try simp only [hl1031000_67]); (try simp only [hl1031001_67]); (try simp only [hl1031002_67]); (with_reducible repeat (first | apply Kd.R_alloc | apply Kd.R_drewN | apply Kd.R_drew)); exact Kd.R_mono HO_1021001.out (fun _ hk => ⟨hk.1.1.1.1.1, ⟨hk.1.1.1.1.2.1, ⟨hk.1.1.1.1.2.2.1, ⟨hk.1.1.1.1.2.2.2.1, ⟨hk.1.1.1.1.2.2.2.2, ⟨hk.1.2, hk.2⟩⟩⟩⟩⟩⟩)⟩, ⟨by (try simp only [hl1031000_67]); (try simp only [hl1031001_67]); (try simp only [hl1031002_67]); (with_reducible repeat (first | apply Kd.R_alloc | apply Kd.R_drewN | apply Kd.R_drew)); exact Kd.R_mono HO_1021002.out (fun _ hk => ⟨hk.1.1.1, ⟨hk.1.1.2, hk.2⟩⟩)⟩, ⟨by (try simp only [hl1031000_67]); (try simp only [hl1031001_67]); (try simp only [hl1031002_67]); (with_reducible repeat (first | apply Kd.R_alloc | apply Kd.R_drewN | apply Kd.R_drew)); exact Kd.R_mono HO_1031000.out (fun _ hk => ⟨hk.1.1.1.1.1, ⟨hk.1.1.1.1.2.1, ⟨hk.1.1.1.1.2.2.1, ⟨hk.1.1.1.1.2.2.2.1, ⟨hk.1.1.1.1.2.2.2.2, ⟨hk.1.2, hk.2⟩⟩⟩⟩⟩⟩)⟩, ⟨by (try simp only [hl1031000_67]); (try simp only [hl1031001_67]); (try simp only [hl1031002_67]); (with_reducible repeat (first | apply Kd.R_alloc | apply Kd.R_drewN | apply Kd.R_drew)); exact Kd.R_mono HO_1031001.out (fun _ hk => ⟨hk.1.1.1.1.1, ⟨hk.1.1.1.1.2.1, ⟨hk.1.1.1.1.2.2.1, ⟨hk.1.1.1.1.2.2.2.1, ⟨hk.1.1.1.1.2.2.2.2, ⟨hk.1.2, hk.2⟩⟩⟩⟩⟩⟩)⟩, ⟨by (try simp only [hl1031000_67]); (try simp only [hl1031001_67]); (try simp only [hl1031002_67]); (with_reducible repeat (first | apply Kd.R_alloc | apply Kd.R_drewN | apply Kd.R_drew)); exact Kd.R_mono HO_1031002.out (fun _ hk => ⟨hk.1.1.1, ⟨hk.1.1.2, hk.2⟩⟩)⟩, ⟨by (try simp only [hl1031000_67]); (try simp only [hl1031001_67]); (try simp only [hl1031002_67]); (with_reducible repeat (first | apply Kd.R_alloc | apply Kd.R_drewN | apply Kd.R_drew)); exact Kd.R_mono HO_1042000.out (fun _ hk => ⟨hk.1.1.1.1.1, ⟨hk.1.1.1.1.2.1, ⟨hk.1.1.1.1.2.2.1, ⟨hk.1.1.1.1.2.2.2.1, ⟨hk.1.1.1.1.2.2.2.2, ⟨hk.1.2, hk.2⟩⟩⟩⟩⟩⟩)⟩, ⟨by (try simp only [hl1031000_67]); (try simp only [hl1031001_67]); (try simp only [hl1031002_67]); (with_reducible repeat (first | apply Kd.R_alloc | apply Kd.R_drewN | apply Kd.R_drew)); exact Kd.R_mono HO_1042001.out (fun _ hk => ⟨hk.1.1.1.1.1, ⟨hk.1.1.1.1.2.1, ⟨hk.1.1.1.1.2.2.1, ⟨hk.1.1.1.1.2.2.2.1, ⟨hk.1.1.1.1.2.2.2.2, ⟨hk.1.2, hk.2⟩⟩⟩⟩⟩⟩)⟩, ⟨by (try simp only [hl1031000_67]); (try simp only [hl1031001_67]); (try simp only [hl1031002_67]); (with_reducible repeat (first | apply Kd.R_alloc | apply Kd.R_drewN | apply Kd.R_drew)); exact Kd.R_mono HO_1042002.out (fun _ hk => ⟨hk.1.1.1, ⟨hk.1.1.2, hk.2⟩⟩)⟩, ⟨by (try simp only [hl1031000_67]); (try simp only [hl1031001_67]); (try simp only [hl1031002_67]); (with_reducible repeat (first | apply Kd.R_alloc | apply Kd.R_drewN | apply Kd.R_drew)); exact Kd.R_mono HO1074.out (fun _ hk => ⟨hk.1.1.1.1.1.1.1.2, ⟨hk.1.1.1.1.1.1.2, ⟨hk.1.1.1.1.1.2, ⟨hk.1.1.1.1.2, ⟨hk.1.1.1.2, ⟨hk.1.1.2, hk.1.1.1.1.1.1.1.1⟩⟩⟩⟩⟩⟩)⟩, ⟨by (try simp only [hl1031000_67]); (try simp only [hl1031001_67]); (try simp only [hl1031002_67]); (with_reducible repeat (first | apply Kd.R_alloc | apply Kd.R_drewN | apply Kd.R_drew)); exact Kd.R_mono HO1077.out (fun _ hk => ⟨hk.1.1.1.1.1.1.1.2, ⟨hk.1.1.1.1.1.1.2, ⟨hk.1.1.1.1.1.2, ⟨hk.1.1.1.1.2, ⟨hk.1.1.1.2, ⟨hk.1.1.2, hk.1.1.1.1.1.1.1.1⟩⟩⟩⟩⟩⟩)⟩, ⟨by (try simp only [hl1031000_67]); (try simp only [hl1031001_67]); (try simp only [hl1031002_67]); (with_reducible repeat (first | apply Kd.R_alloc | apply Kd.R_drewN | apply Kd.R_drew)); exact Kd.R_mono HO1080.out (fun _ hk => ⟨hk.1.1.1.2, ⟨hk.1.1.2, hk.1.2⟩⟩)⟩, ⟨by (try simp only [hl1031000_67]); (try simp only [hl1031001_67]); (try simp only [hl1031002_67]); (with_reducible repeat (first | refine blk_drewN ?_ _ | refine blk_drew ?_ | refine blk_alloc ?_ _)); exact BK999.out⟩, ⟨by (try simp only [hl1031000_67]); (try simp only [hl1031001_67]); (try simp only [hl1031002_67]); (with_reducible repeat (first | refine blk_drewN ?_ _ | refine blk_drew ?_ | refine blk_alloc ?_ _)); exact BK1020.out⟩, ⟨by (try simp only [hl1031000_67]); (try simp only [hl1031001_67]); (try simp only [hl1031002_67]); (with_reducible repeat (first | refine blk_drewN ?_ _ | refine blk_drew ?_ | refine blk_alloc ?_ _)); exact BK1030.out⟩, ⟨by (try simp only [hl1031000_67]); (try simp only [hl1031001_67]); (try simp only [hl1031002_67]); (with_reducible repeat (first | refine blk_drewN ?_ _ | refine blk_drew ?_ | refine blk_alloc ?_ _)); exact BK1041.out⟩, ⟨by (try simp only [hl1031000_67]); (try simp only [hl1031001_67]); (try simp only [hl1031002_67]); (with_reducible repeat (first | refine blk_drewN ?_ _ | refine blk_drew ?_ | refine blk_alloc ?_ _)); exact BK1082.out⟩, ⟨hB HB⟩⟩
     case rest =>
      clear HC113
      try clear c3
      try clear c3b0
      try clear c63
      try clear c66
      try clear c99
      try clear c102
      try clear c102b0
      try clear c110
      try clear c110b0
      try clear c110b1
      try clear hcz117_0
      try clear hcz117_1
      try clear hcz117_2
      try clear hcz119_0
      try clear hcz119_1
      try clear hcz119_2
      try clear hcz123_0
      try clear hcz123_1
      try clear hcz123_2
      try clear hcz135_0
      try clear hcz135_1
      try clear hcz135_2
      try clear hcz13_0
      try clear hcz13_1
      try clear hcz13_2
      try clear hcz15_0
      try clear hcz15_1
      try clear hcz15_2
      try clear hcz24_0
      try clear hcz24_1
      try clear hcz24_2
      try clear hcz27_0
      try clear hcz27_1
      try clear hcz27_2
      try clear hcz33_0
      try clear hcz33_1
      try clear hcz33_2
      try clear hcz42_0
      try clear hcz42_1
      try clear hcz42_2
      try clear hcz78_0
      try clear hcz78_1
      try clear hcz78_2
      try clear hfz117_0
      try clear hfz117_1
      try clear hfz117_2
      try clear hfz119_0
      try clear hfz119_1
      try clear hfz119_2
      try clear hfz123_0
      try clear hfz123_1
      try clear hfz123_2
      try clear hfz135_0
      try clear hfz135_1
      try clear hfz135_2
      try clear hfz13_0
      try clear hfz13_1
      try clear hfz13_2
      try clear hfz15_0
      try clear hfz15_1
      try clear hfz15_2
      try clear hfz24_0
      try clear hfz24_1
      try clear hfz24_2
      try clear hfz27_0
      try clear hfz27_1
      try clear hfz27_2
      try clear hfz33_0
      try clear hfz33_1
      try clear hfz33_2
      try clear hfz42_0
      try clear hfz42_1
      try clear hfz42_2
      try clear hfz78_0
      try clear hfz78_1
      try clear hfz78_2
      obtain ⟨kq, x87_112, rfl, HA, HJ112, HO_1021000, HO_1021001, HO_1021002, HO_1031000, HO_1031001, HO_1031002, HO_1042000, HO_1042001, HO_1042002, HO_1083000, HO_1083001, HO_1083002, BK999, BK1020, BK1030, BK1041, BK1082, HB⟩ := hcut
      have hl1042000_112 := (Kd.R_reads' HO_1042000.out).1
      rw [hl1042000_112] at HO_1042000
      (try simp only [hl1042000_112])
      (try simp only [hl1042000_112] at BK999)
      (try simp only [hl1042000_112] at BK1020)
      (try simp only [hl1042000_112] at BK1030)
      (try simp only [hl1042000_112] at BK1041)
      (try simp only [hl1042000_112] at BK1082)
      (try simp only [hl1042000_112] at HO_1021000)
      (try simp only [hl1042000_112] at HO_1021001)
      (try simp only [hl1042000_112] at HO_1021002)
      (try simp only [hl1042000_112] at HO_1031000)
      (try simp only [hl1042000_112] at HO_1031001)
      (try simp only [hl1042000_112] at HO_1031002)
      (try simp only [hl1042000_112] at HO_1042001)
      (try simp only [hl1042000_112] at HO_1042002)
      (try simp only [hl1042000_112] at HO_1083000)
      (try simp only [hl1042000_112] at HO_1083001)
      (try simp only [hl1042000_112] at HO_1083002)
      have hl1042001_112 := (Kd.R_reads' HO_1042001.out).1
      rw [hl1042001_112] at HO_1042001
      (try simp only [hl1042001_112])
      (try simp only [hl1042001_112] at BK999)
      (try simp only [hl1042001_112] at BK1020)
      (try simp only [hl1042001_112] at BK1030)
      (try simp only [hl1042001_112] at BK1041)
      (try simp only [hl1042001_112] at BK1082)
      (try simp only [hl1042001_112] at HO_1021000)
      (try simp only [hl1042001_112] at HO_1021001)
      (try simp only [hl1042001_112] at HO_1021002)
      (try simp only [hl1042001_112] at HO_1031000)
      (try simp only [hl1042001_112] at HO_1031001)
      (try simp only [hl1042001_112] at HO_1031002)
      (try simp only [hl1042001_112] at HO_1042000)
      (try simp only [hl1042001_112] at HO_1042002)
      (try simp only [hl1042001_112] at HO_1083000)
      (try simp only [hl1042001_112] at HO_1083001)
      (try simp only [hl1042001_112] at HO_1083002)
      have hl1042002_112 := (Kd.R_reads' HO_1042002.out).1
      rw [hl1042002_112] at HO_1042002
      (try simp only [hl1042002_112])
      (try simp only [hl1042002_112] at BK999)
      (try simp only [hl1042002_112] at BK1020)
      (try simp only [hl1042002_112] at BK1030)
      (try simp only [hl1042002_112] at BK1041)
      (try simp only [hl1042002_112] at BK1082)
      (try simp only [hl1042002_112] at HO_1021000)
      (try simp only [hl1042002_112] at HO_1021001)
      (try simp only [hl1042002_112] at HO_1021002)
      (try simp only [hl1042002_112] at HO_1031000)
      (try simp only [hl1042002_112] at HO_1031001)
      (try simp only [hl1042002_112] at HO_1031002)
      (try simp only [hl1042002_112] at HO_1042000)
      (try simp only [hl1042002_112] at HO_1042001)
      (try simp only [hl1042002_112] at HO_1083000)
      (try simp only [hl1042002_112] at HO_1083001)
      (try simp only [hl1042002_112] at HO_1083002)
      cases kq with
      | zero => exact absurd HA.out (by simp [laws_FnExactSettlePair.j2])
      | succ kj112 =>
       have H := HA.out
       clear HA
       simp only [laws_FnExactSettlePair.j2] at H
       by_cases c160 : x87_112 = true
       ·subst c160
        rw [if_pos rfl] at H
        obtain rfl := Option.some.inj H
        go_wp2
        go_ret
        exact ⟨by first | rfl | (simp [errW_none, errW_some] <;> rfl) | (simp [*, errW_none, errW_some] <;> rfl), by repeat (first | (with_reducible first | exact HB.out | apply below_alloc | apply pw_below_drewN | apply below_drew1 | refine below_set ?_ GE999.out | refine below_set ?_ GE1020.out | refine below_set ?_ GE1030.out | refine below_set ?_ GE1041.out | refine below_set ?_ GE1082.out) | exact HB.out)⟩
       replace c160 := Bool.eq_false_iff.mpr c160
       subst c160
       rw [if_neg (show ¬ (false = true) by decide)] at H
       replace H := Option.bind_eq_some_iff.mp H
       obtain ⟨t1084, A1610, H⟩ := H
       replace H : (if t1084 < 0 then (some false) else (if t1084 = t1058 then (some true) else (some false))) = some r := H
       have A161 := Aside0.mk A1610
       clear A1610
       by_cases c162 : t1084 < 0
       ·rw [if_pos c162] at H
        have c162b0 : decide (t1084 < 0) = true := decide_eq_true c162
        clear c162
        obtain rfl := Option.some.inj H
        have hnb163 := NB1041_999.out
        have hnc163 := NB999_1041.out
        have hnb164 := NB1041_1020.out
        have hnc164 := NB1020_1041.out
        have hnb165 := NB1041_1030.out
        have hnc165 := NB1030_1041.out
        have hnb166 := NB1041_1082.out
        have hnc166 := NB1082_1041.out
        have hcz167_0 : wc.cell? ⟨gb1041, 0, none⟩ = some (.slice Ao38 t1059.length co38) := bc_ BK1041 0
        have hcz167_1 : wc.cell? ⟨gb1041, 1, none⟩ = some (.slice Ao43 t1060.length co43) := bc_ BK1041 1
        have hcz167_2 : wc.cell? ⟨gb1041, 2, none⟩ = some (.slice Ao44 t1061.length co44) := bc_ BK1041 2
        have hfz167_0 := blk_frozen BK1041.out 0
        have hfz167_1 := blk_frozen BK1041.out 1
        have hfz167_2 := blk_frozen BK1041.out 2
        go_wp2_with (first | ((with_reducible refine gate_callee (f := 36) rfl ?_); refine goesL_ (some 90) rfl rfl Try.func36 (by kernel_rfl) rfl #[.agg #[.slice Ao38 t1059.length co38, .slice Ao43 t1060.length co43, .slice Ao44 t1061.length co44], .int .i64 1] rfl tm_ ?_; (with_reducible refine (laws_heldPair.calls kj112 _ _ t1059 _ _ t1060 _ _ t1061 1 t1084 _ ?side1 ?side2 ?side3 ?side4 ?side5 ?side6 A161.out).mono ?_); (case side1 => exact ca (Kd.R_reads' HO_1042000.out).2.2); (case side2 => exact (Kd.R_reads' HO_1042000.out).2.1); (case side3 => exact ca (Kd.R_reads' HO_1042001.out).2.2); (case side4 => exact (Kd.R_reads' HO_1042001.out).2.1); (case side5 => exact ca (Kd.R_reads' HO_1042002.out).2.2); (case side6 => exact (Kd.R_reads' HO_1042002.out).2.1); rintro e w168 ⟨rfl, hb⟩; refine ⟨_, rfl, ?_⟩; replace HO_1021000 := rb_ HO_1021000 hb; replace HO_1021001 := rb_ HO_1021001 hb; replace HO_1021002 := rb_ HO_1021002 hb; replace HO_1031000 := rb_ HO_1031000 hb; replace HO_1031001 := rb_ HO_1031001 hb; replace HO_1031002 := rb_ HO_1031002 hb; replace HO_1042000 := rb_ HO_1042000 hb; replace HO_1042001 := rb_ HO_1042001 hb; replace HO_1042002 := rb_ HO_1042002 hb; replace HO_1083000 := rb_ HO_1083000 hb; replace HO_1083001 := rb_ HO_1083001 hb; replace HO_1083002 := rb_ HO_1083002 hb; replace BK999 := bb_ BK999 hb; replace BK1020 := bb_ BK1020 hb; replace BK1030 := bb_ BK1030 hb; replace BK1041 := bb_ BK1041 hb; replace BK1082 := bb_ BK1082 hb; replace HB := bst_ HB hb; clear hb))
        go_ret
        exact ⟨by first | rfl | (simp [errW_none, errW_some] <;> rfl) | (simp [*, errW_none, errW_some] <;> rfl), by repeat (first | (with_reducible first | exact HB.out | apply below_alloc | apply pw_below_drewN | apply below_drew1 | refine below_set ?_ GE999.out | refine below_set ?_ GE1020.out | refine below_set ?_ GE1030.out | refine below_set ?_ GE1041.out | refine below_set ?_ GE1082.out) | exact HB.out)⟩
       rw [if_neg c162] at H
       have c162b0 : decide (t1084 < 0) = false := decide_eq_false c162
       clear c162
       by_cases c169 : t1084 = t1058
       rotate_left
       ·rw [if_neg c169] at H
        have c169b0 : (t1084 == t1058) = false := beq_eq_false_iff_ne.mpr c169
        have c169b1 : (t1084 != t1058) = true := bne_iff_ne.mpr c169
        obtain rfl := Option.some.inj H
        have hnb176 := NB1041_999.out
        have hnc176 := NB999_1041.out
        have hnb177 := NB1041_1020.out
        have hnc177 := NB1020_1041.out
        have hnb178 := NB1041_1030.out
        have hnc178 := NB1030_1041.out
        have hnb179 := NB1041_1082.out
        have hnc179 := NB1082_1041.out
        have hcz180_0 : wc.cell? ⟨gb1041, 0, none⟩ = some (.slice Ao38 t1059.length co38) := bc_ BK1041 0
        have hcz180_1 : wc.cell? ⟨gb1041, 1, none⟩ = some (.slice Ao43 t1060.length co43) := bc_ BK1041 1
        have hcz180_2 : wc.cell? ⟨gb1041, 2, none⟩ = some (.slice Ao44 t1061.length co44) := bc_ BK1041 2
        have hfz180_0 := blk_frozen BK1041.out 0
        have hfz180_1 := blk_frozen BK1041.out 1
        have hfz180_2 := blk_frozen BK1041.out 2
        go_wp2_with (first | ((with_reducible refine gate_callee (f := 36) rfl ?_); refine goesL_ (some 90) rfl rfl Try.func36 (by kernel_rfl) rfl #[.agg #[.slice Ao38 t1059.length co38, .slice Ao43 t1060.length co43, .slice Ao44 t1061.length co44], .int .i64 1] rfl tm_ ?_; (with_reducible refine (laws_heldPair.calls kj112 _ _ t1059 _ _ t1060 _ _ t1061 1 t1084 _ ?side1 ?side2 ?side3 ?side4 ?side5 ?side6 A161.out).mono ?_); (case side1 => exact ca (Kd.R_reads' HO_1042000.out).2.2); (case side2 => exact (Kd.R_reads' HO_1042000.out).2.1); (case side3 => exact ca (Kd.R_reads' HO_1042001.out).2.2); (case side4 => exact (Kd.R_reads' HO_1042001.out).2.1); (case side5 => exact ca (Kd.R_reads' HO_1042002.out).2.2); (case side6 => exact (Kd.R_reads' HO_1042002.out).2.1); rintro e w181 ⟨rfl, hb⟩; refine ⟨_, rfl, ?_⟩; replace HO_1021000 := rb_ HO_1021000 hb; replace HO_1021001 := rb_ HO_1021001 hb; replace HO_1021002 := rb_ HO_1021002 hb; replace HO_1031000 := rb_ HO_1031000 hb; replace HO_1031001 := rb_ HO_1031001 hb; replace HO_1031002 := rb_ HO_1031002 hb; replace HO_1042000 := rb_ HO_1042000 hb; replace HO_1042001 := rb_ HO_1042001 hb; replace HO_1042002 := rb_ HO_1042002 hb; replace HO_1083000 := rb_ HO_1083000 hb; replace HO_1083001 := rb_ HO_1083001 hb; replace HO_1083002 := rb_ HO_1083002 hb; replace BK999 := bb_ BK999 hb; replace BK1020 := bb_ BK1020 hb; replace BK1030 := bb_ BK1030 hb; replace BK1041 := bb_ BK1041 hb; replace BK1082 := bb_ BK1082 hb; replace HB := bst_ HB hb; clear hb))
        go_ret
        exact ⟨by first | rfl | (simp [errW_none, errW_some] <;> rfl) | (simp [*, errW_none, errW_some] <;> rfl), by repeat (first | (with_reducible first | exact HB.out | apply below_alloc | apply pw_below_drewN | apply below_drew1 | refine below_set ?_ GE999.out | refine below_set ?_ GE1020.out | refine below_set ?_ GE1030.out | refine below_set ?_ GE1041.out | refine below_set ?_ GE1082.out) | exact HB.out)⟩
       rw [if_pos c169] at H
       have c169b0 : (t1084 == t1058) = true := beq_iff_eq.mpr c169
       have c169b1 : (t1084 != t1058) = false := bne_eq_false_iff_eq.mpr c169
       clear c169
       obtain rfl := Option.some.inj H
       have hnb170 := NB1041_999.out
       have hnc170 := NB999_1041.out
       have hnb171 := NB1041_1020.out
       have hnc171 := NB1020_1041.out
       have hnb172 := NB1041_1030.out
       have hnc172 := NB1030_1041.out
       have hnb173 := NB1041_1082.out
       have hnc173 := NB1082_1041.out
       have hcz174_0 : wc.cell? ⟨gb1041, 0, none⟩ = some (.slice Ao38 t1059.length co38) := bc_ BK1041 0
       have hcz174_1 : wc.cell? ⟨gb1041, 1, none⟩ = some (.slice Ao43 t1060.length co43) := bc_ BK1041 1
       have hcz174_2 : wc.cell? ⟨gb1041, 2, none⟩ = some (.slice Ao44 t1061.length co44) := bc_ BK1041 2
       have hfz174_0 := blk_frozen BK1041.out 0
       have hfz174_1 := blk_frozen BK1041.out 1
       have hfz174_2 := blk_frozen BK1041.out 2
       go_wp2_with (first | ((with_reducible refine gate_callee (f := 36) rfl ?_); refine goesL_ (some 90) rfl rfl Try.func36 (by kernel_rfl) rfl #[.agg #[.slice Ao38 t1059.length co38, .slice Ao43 t1060.length co43, .slice Ao44 t1061.length co44], .int .i64 1] rfl tm_ ?_; (with_reducible refine (laws_heldPair.calls kj112 _ _ t1059 _ _ t1060 _ _ t1061 1 t1084 _ ?side1 ?side2 ?side3 ?side4 ?side5 ?side6 A161.out).mono ?_); (case side1 => exact ca (Kd.R_reads' HO_1042000.out).2.2); (case side2 => exact (Kd.R_reads' HO_1042000.out).2.1); (case side3 => exact ca (Kd.R_reads' HO_1042001.out).2.2); (case side4 => exact (Kd.R_reads' HO_1042001.out).2.1); (case side5 => exact ca (Kd.R_reads' HO_1042002.out).2.2); (case side6 => exact (Kd.R_reads' HO_1042002.out).2.1); rintro e w175 ⟨rfl, hb⟩; refine ⟨_, rfl, ?_⟩; replace HO_1021000 := rb_ HO_1021000 hb; replace HO_1021001 := rb_ HO_1021001 hb; replace HO_1021002 := rb_ HO_1021002 hb; replace HO_1031000 := rb_ HO_1031000 hb; replace HO_1031001 := rb_ HO_1031001 hb; replace HO_1031002 := rb_ HO_1031002 hb; replace HO_1042000 := rb_ HO_1042000 hb; replace HO_1042001 := rb_ HO_1042001 hb; replace HO_1042002 := rb_ HO_1042002 hb; replace HO_1083000 := rb_ HO_1083000 hb; replace HO_1083001 := rb_ HO_1083001 hb; replace HO_1083002 := rb_ HO_1083002 hb; replace BK999 := bb_ BK999 hb; replace BK1020 := bb_ BK1020 hb; replace BK1030 := bb_ BK1030 hb; replace BK1041 := bb_ BK1041 hb; replace BK1082 := bb_ BK1082 hb; replace HB := bst_ HB hb; clear hb))
       go_ret
       exact ⟨by first | rfl | (simp [errW_none, errW_some] <;> rfl) | (simp [*, errW_none, errW_some] <;> rfl), by repeat (first | (with_reducible first | exact HB.out | apply below_alloc | apply pw_below_drewN | apply below_drew1 | refine below_set ?_ GE999.out | refine below_set ?_ GE1020.out | refine below_set ?_ GE1030.out | refine below_set ?_ GE1041.out | refine below_set ?_ GE1082.out) | exact HB.out)⟩

end Go.Proofs.Ytolncjkfcmbieaa.P
