import Derived.Test.YthambdfgkfkcmaaF0
import Derived.Test.YthambdfgkfkcmaaF1
import Derived.Test.YthambdfgkfkcmaaF3
import Derived.Test.YthambdfgkfkcmaaF5
import Derived.Test.YthambdfgkfkcmaaF6
import Derived.Test.YthambdfgkfkcmaaF7
import Derived.Test.YthambdfgkfkcmaaF8
namespace Go.Proofs.Ythambdfgkfkcmaa.P
open Go.RowKit Go.Proofs.YthambdfgkfkcmaaW.PrintWords Go.Proofs.YthambdfgkfkcmaaW.PrintLast Go.Proofs.YthambdfgkfkcmaaW.PrintMore
attribute [local go_sem] max2_int min2_int max_two min_two max_three min_three max_four min_four   -- for this text's walks alone
set_option linter.unusedVariables false
set_option linter.unusedSimpArgs false

mutual
def laws_FnExactCutBetween.j0 : Nat → Int → List (S69) → Int → Int → List Int → Bool → List (S47) → List Int → Bool → Bool → Option (Bool)
 | 0, _, _, _, _, _, _, _, _, _, _ => none
 | k + 1, x0, x1, x2, x3, x10, x11, x12, x13, x14, x52 => if x52 = true then (some false) else ((laws_toEdgeS.f k x1).bind fun t336 => ((laws_eqEdgeS.f k x12 t336).bind fun t339 => (if t339 = true then ((laws_markEdgeS.f k x12 1).bind fun bt340 => (if bt340.1 < 0 then (laws_FnExactCutBetween.j1 k x0 x1 x2 x3 x10 x11 x13 true) else ((laws_eqIntS.f k x13 x10).bind fun t342 => (if t342 = true then (laws_FnExactCutBetween.j1 k x0 x1 x2 x3 x10 x11 x13 (x14 != x11)) else (laws_FnExactCutBetween.j1 k x0 x1 x2 x3 x10 x11 x13 true))))) else (some false))))
def laws_FnExactCutBetween.j1 : Nat → Int → List (S69) → Int → Int → List Int → Bool → List Int → Bool → Option (Bool)
 | 0, _, _, _, _, _, _, _, _ => none
 | k + 1, x0, x1, x2, x3, x10, x11, x13, x73 => if x73 = true then (some false) else ((laws_markIntS.f k x13 1).bind fun bt343 => ((laws_heldIntS.f k bt343.2 1).bind fun t345 => (if t345 < 0 then (some false) else (if t345 = bt343.1 then ((laws_toEdgeS.f k x1).bind fun t346 => ((impl_CutBetween.f k x0 t346 x2 x3).bind fun bt349 => ((laws_eqIntS.f k bt349.1 x10).bind fun t353 => (if t353 = true then (laws_FnExactCutBetween.j2 k bt343.2 bt343.1 (bt349.2 != x11)) else (laws_FnExactCutBetween.j2 k bt343.2 bt343.1 true))))) else (some false)))))
def laws_FnExactCutBetween.j2 : Nat → List Int → Int → Bool → Option (Bool)
 | 0, _, _, _ => none
 | k + 1, x13, x16, x102 => if x102 = true then (some false) else ((laws_heldIntS.f k x13 1).bind fun t354 => (if t354 < 0 then (some false) else (if t354 = x16 then (some true) else (some false))))
end
def laws_FnExactCutBetween.f (k : Nat) (a0 : Int) (l1 : List (S69)) (a2 : Int) (a3 : Int) : Option (Bool) := (laws_szEdgeS.f l1 1048576).bind fun t320 => (if t320 < 0 then (some true) else ((laws_toEdgeS.f k l1).bind fun t321 => ((spec_CutBetween.f k a0 t321 a2 a3).bind fun bt324 => ((laws_toEdgeS.f k l1).bind fun t328 => ((impl_CutBetween.f k a0 t328 a2 a3).bind fun bt331 => ((laws_eqIntS.f k bt331.1 bt324.1).bind fun t335 => (if t335 = true then (laws_FnExactCutBetween.j0 k a0 l1 a2 a3 bt324.1 bt324.2 t328 bt331.1 bt331.2 (bt331.2 != bt324.2)) else (laws_FnExactCutBetween.j0 k a0 l1 a2 a3 bt324.1 bt324.2 t328 bt331.1 bt331.2 true))))))))
theorem laws_FnExactCutBetween.mono_l : ∀ k, (∀ y0 y1 y2 y3 y4 y5 y6 y7 y8 y9, LeO (laws_FnExactCutBetween.j0 k y0 y1 y2 y3 y4 y5 y6 y7 y8 y9) (laws_FnExactCutBetween.j0 (k + 1) y0 y1 y2 y3 y4 y5 y6 y7 y8 y9)) ∧ (∀ y0 y1 y2 y3 y4 y5 y6 y7, LeO (laws_FnExactCutBetween.j1 k y0 y1 y2 y3 y4 y5 y6 y7) (laws_FnExactCutBetween.j1 (k + 1) y0 y1 y2 y3 y4 y5 y6 y7)) ∧ (∀ y0 y1 y2, LeO (laws_FnExactCutBetween.j2 k y0 y1 y2) (laws_FnExactCutBetween.j2 (k + 1) y0 y1 y2))
 | 0 => ⟨fun _ _ _ _ _ _ _ _ _ _ r h => by simp [laws_FnExactCutBetween.j0] at h, fun _ _ _ _ _ _ _ _ r h => by simp [laws_FnExactCutBetween.j1] at h, fun _ _ _ r h => by simp [laws_FnExactCutBetween.j2] at h⟩
 | k + 1 => by
  obtain ⟨ih0, ih1, ih2⟩ := laws_FnExactCutBetween.mono_l k
  refine ⟨?_, ?_, ?_⟩
  ·intro y0 y1 y2 y3 y4 y5 y6 y7 y8 y9
   unfold laws_FnExactCutBetween.j0
   repeat' first
   | (with_reducible exact ih0 _ _ _ _ _ _ _ _ _ _)
   | (with_reducible exact ih1 _ _ _ _ _ _ _ _)
   | (with_reducible exact ih2 _ _ _)
   | (with_reducible exact impl_CutBetween.mono _ _ _ _ _)
   | (with_reducible exact laws_eqEdgeS.mono _ _ _)
   | (with_reducible exact laws_eqIntS.mono _ _ _)
   | (with_reducible exact laws_heldIntS.mono _ _ _)
   | (with_reducible exact laws_markEdgeS.mono _ _ _)
   | (with_reducible exact laws_markIntS.mono _ _ _)
   | (with_reducible exact laws_toEdgeS.mono _ _)
   | (with_reducible exact spec_CutBetween.mono _ _ _ _ _)
   | with_reducible first | exact LeO.refl _ | exact LeO.none _ | refine LeO.ite ?_ ?_ | refine LeO.bind ?_ fun _ => ?_
  ·intro y0 y1 y2 y3 y4 y5 y6 y7
   unfold laws_FnExactCutBetween.j1
   repeat' first
   | (with_reducible exact ih0 _ _ _ _ _ _ _ _ _ _)
   | (with_reducible exact ih1 _ _ _ _ _ _ _ _)
   | (with_reducible exact ih2 _ _ _)
   | (with_reducible exact impl_CutBetween.mono _ _ _ _ _)
   | (with_reducible exact laws_eqEdgeS.mono _ _ _)
   | (with_reducible exact laws_eqIntS.mono _ _ _)
   | (with_reducible exact laws_heldIntS.mono _ _ _)
   | (with_reducible exact laws_markEdgeS.mono _ _ _)
   | (with_reducible exact laws_markIntS.mono _ _ _)
   | (with_reducible exact laws_toEdgeS.mono _ _)
   | (with_reducible exact spec_CutBetween.mono _ _ _ _ _)
   | with_reducible first | exact LeO.refl _ | exact LeO.none _ | refine LeO.ite ?_ ?_ | refine LeO.bind ?_ fun _ => ?_
  ·intro y0 y1 y2
   unfold laws_FnExactCutBetween.j2
   repeat' first
   | (with_reducible exact ih0 _ _ _ _ _ _ _ _ _ _)
   | (with_reducible exact ih1 _ _ _ _ _ _ _ _)
   | (with_reducible exact ih2 _ _ _)
   | (with_reducible exact impl_CutBetween.mono _ _ _ _ _)
   | (with_reducible exact laws_eqEdgeS.mono _ _ _)
   | (with_reducible exact laws_eqIntS.mono _ _ _)
   | (with_reducible exact laws_heldIntS.mono _ _ _)
   | (with_reducible exact laws_markEdgeS.mono _ _ _)
   | (with_reducible exact laws_markIntS.mono _ _ _)
   | (with_reducible exact laws_toEdgeS.mono _ _)
   | (with_reducible exact spec_CutBetween.mono _ _ _ _ _)
   | with_reducible first | exact LeO.refl _ | exact LeO.none _ | refine LeO.ite ?_ ?_ | refine LeO.bind ?_ fun _ => ?_
theorem laws_FnExactCutBetween.mono : ∀ a0 a1 a2 a3 k, LeO (laws_FnExactCutBetween.f k a0 a1 a2 a3) (laws_FnExactCutBetween.f (k + 1) a0 a1 a2 a3) := by
 intro a0 a1 a2 a3 k
 obtain ⟨ih0, ih1, ih2⟩ := laws_FnExactCutBetween.mono_l k
 unfold laws_FnExactCutBetween.f
 repeat' first
   | (with_reducible exact ih0 _ _ _ _ _ _ _ _ _ _)
   | (with_reducible exact ih1 _ _ _ _ _ _ _ _)
   | (with_reducible exact ih2 _ _ _)
   | (with_reducible exact impl_CutBetween.mono _ _ _ _ _)
   | (with_reducible exact laws_eqEdgeS.mono _ _ _)
   | (with_reducible exact laws_eqIntS.mono _ _ _)
   | (with_reducible exact laws_heldIntS.mono _ _ _)
   | (with_reducible exact laws_markEdgeS.mono _ _ _)
   | (with_reducible exact laws_markIntS.mono _ _ _)
   | (with_reducible exact laws_toEdgeS.mono _ _)
   | (with_reducible exact spec_CutBetween.mono _ _ _ _ _)
   | with_reducible first | exact LeO.refl _ | exact LeO.none _ | refine LeO.ite ?_ ?_ | refine LeO.bind ?_ fun _ => ?_
set_option maxHeartbeats 8000000 in
set_option maxRecDepth 100000 in
theorem laws_FnExactCutBetween.calls (k : Nat) (a0 : Int) (A1 : Option Addr) (c1 : Nat) (l1 : List (S69)) (a2 : Int) (a3 : Int) (r : Bool) (w : World) (hr1 : Kd.C k69 w A1 l1.length l1) (hc1 : l1.length ≤ c1) (h : laws_FnExactCutBetween.f k a0 l1 a2 a3 = some r) :
  Calls Try.prog 3 #[.int .i64 a0, .slice A1 l1.length c1, .int .i64 a2, .int .i64 a3] w fun e w' => e = .returned (.bool r) ∧ Below w.heap.size w w' := by
 have HR1 := Aside0.mk hr1
 have HC1 := Aside0.mk hc1
 clear hr1 hc1
 have HB := Aside0.mk (Below.refl w.heap.size w)
 have H : ((laws_szEdgeS.f l1 1048576).bind fun t320 => (if t320 < 0 then (some true) else ((laws_toEdgeS.f k l1).bind fun t321 => ((spec_CutBetween.f k a0 t321 a2 a3).bind fun bt324 => ((laws_toEdgeS.f k l1).bind fun t328 => ((impl_CutBetween.f k a0 t328 a2 a3).bind fun bt331 => ((laws_eqIntS.f k bt331.1 bt324.1).bind fun t335 => (if t335 = true then (laws_FnExactCutBetween.j0 k a0 l1 a2 a3 bt324.1 bt324.2 t328 bt331.1 bt331.2 (bt331.2 != bt324.2)) else (laws_FnExactCutBetween.j0 k a0 l1 a2 a3 bt324.1 bt324.2 t328 bt331.1 bt331.2 true))))))))) = some r := h
 clear h
 replace H := Option.bind_eq_some_iff.mp H
 obtain ⟨t320, A50, H⟩ := H
 replace H : (if t320 < 0 then (some true) else ((laws_toEdgeS.f k l1).bind fun t321 => ((spec_CutBetween.f k a0 t321 a2 a3).bind fun bt324 => ((laws_toEdgeS.f k l1).bind fun t328 => ((impl_CutBetween.f k a0 t328 a2 a3).bind fun bt331 => ((laws_eqIntS.f k bt331.1 bt324.1).bind fun t335 => (if t335 = true then (laws_FnExactCutBetween.j0 k a0 l1 a2 a3 bt324.1 bt324.2 t328 bt331.1 bt331.2 (bt331.2 != bt324.2)) else (laws_FnExactCutBetween.j0 k a0 l1 a2 a3 bt324.1 bt324.2 t328 bt331.1 bt331.2 true)))))))) = some r := H
 have A5 := Aside0.mk A50
 clear A50
 by_cases c6 : t320 < 0
 ·rw [if_pos c6] at H
  have c6b0 : decide (t320 < 0) = true := decide_eq_true c6
  clear c6
  obtain rfl := Option.some.inj H
  go_enter Try.func3, Try.ntmps3
  go_wp2_with (first | (refine goesL_ (some 22) rfl rfl Try.func9 (by kernel_rfl) rfl #[.slice A1 l1.length c1, .int .i64 1048576] rfl tm_ ?_; (with_reducible refine (laws_szEdgeS.calls _ _ l1 1048576 t320 _ ?side1 ?side2 A5.out).mono ?_); (case side1 => exact ca HR1.out); (case side2 => exact HC1.out); rintro e w' ⟨rfl, ⟨nd, rfl⟩⟩; refine ⟨_, rfl, ?_⟩))
  go_ret
  exact ⟨rt_, hB HB⟩
 rw [if_neg c6] at H
 have c6b0 : decide (t320 < 0) = false := decide_eq_false c6
 clear c6
 replace H := Option.bind_eq_some_iff.mp H
 obtain ⟨t321, A70, H⟩ := H
 replace H : ((spec_CutBetween.f k a0 t321 a2 a3).bind fun bt324 => ((laws_toEdgeS.f k l1).bind fun t328 => ((impl_CutBetween.f k a0 t328 a2 a3).bind fun bt331 => ((laws_eqIntS.f k bt331.1 bt324.1).bind fun t335 => (if t335 = true then (laws_FnExactCutBetween.j0 k a0 l1 a2 a3 bt324.1 bt324.2 t328 bt331.1 bt331.2 (bt331.2 != bt324.2)) else (laws_FnExactCutBetween.j0 k a0 l1 a2 a3 bt324.1 bt324.2 t328 bt331.1 bt331.2 true)))))) = some r := H
 have A7 := Aside0.mk A70
 clear A70
 replace H := Option.bind_eq_some_iff.mp H
 obtain ⟨⟨t324, t325⟩, A80, H⟩ := H
 replace H : ((laws_toEdgeS.f k l1).bind fun t328 => ((impl_CutBetween.f k a0 t328 a2 a3).bind fun bt331 => ((laws_eqIntS.f k bt331.1 t324).bind fun t335 => (if t335 = true then (laws_FnExactCutBetween.j0 k a0 l1 a2 a3 t324 t325 t328 bt331.1 bt331.2 (bt331.2 != t325)) else (laws_FnExactCutBetween.j0 k a0 l1 a2 a3 t324 t325 t328 bt331.1 bt331.2 true))))) = some r := H
 have A8 := Aside0.mk A80
 clear A80
 replace H := Option.bind_eq_some_iff.mp H
 obtain ⟨t328, A90, H⟩ := H
 replace H : ((impl_CutBetween.f k a0 t328 a2 a3).bind fun bt331 => ((laws_eqIntS.f k bt331.1 t324).bind fun t335 => (if t335 = true then (laws_FnExactCutBetween.j0 k a0 l1 a2 a3 t324 t325 t328 bt331.1 bt331.2 (bt331.2 != t325)) else (laws_FnExactCutBetween.j0 k a0 l1 a2 a3 t324 t325 t328 bt331.1 bt331.2 true)))) = some r := H
 have A9 := Aside0.mk A90
 clear A90
 replace H := Option.bind_eq_some_iff.mp H
 obtain ⟨⟨t331, t332⟩, A100, H⟩ := H
 replace H : ((laws_eqIntS.f k t331 t324).bind fun t335 => (if t335 = true then (laws_FnExactCutBetween.j0 k a0 l1 a2 a3 t324 t325 t328 t331 t332 (t332 != t325)) else (laws_FnExactCutBetween.j0 k a0 l1 a2 a3 t324 t325 t328 t331 t332 true))) = some r := H
 have A10 := Aside0.mk A100
 clear A100
 have HC11 := Aside0.mk H
 clear H
 go_enter Try.func3, Try.ntmps3
 go_upto_region 8 with (first | (refine goesL_ (some 22) rfl rfl Try.func9 (by kernel_rfl) rfl #[.slice A1 l1.length c1, .int .i64 1048576] rfl tm_ ?_; (with_reducible refine (laws_szEdgeS.calls _ _ l1 1048576 t320 _ ?side1 ?side2 A5.out).mono ?_); (case side1 => exact ca HR1.out); (case side2 => exact HC1.out); rintro e w' ⟨rfl, ⟨nd, rfl⟩⟩; refine ⟨_, rfl, ?_⟩) | (refine goesL_ (some 28) rfl rfl Try.func11 (by kernel_rfl) rfl #[.slice A1 l1.length c1] rfl tm_ ?_; (with_reducible refine (laws_toEdgeS.calls k _ _ l1 t321 _ ?side1 ?side2 A7.out).mono ?_); (case side1 => exact ca HR1.out); (case side2 => exact HC1.out); rintro e w12 ⟨v322, rfl, ho0, hb⟩; refine ⟨_, rfl, ?_⟩; have HO323 := Aside0.mk (Kd.R_lower ho0 (below_size (hB HB))); replace HB := bst_ HB hb; clear hb ho0; obtain ⟨Ao13, co13, eo13⟩ := Kd.R_slice HO323.out; subst eo13) | (refine goesL_ (some 31) rfl rfl Try.func10 (by kernel_rfl) rfl #[.int .i64 a0, .slice Ao13 t321.length co13, .int .i64 a2, .int .i64 a3] rfl tm_ ?_; (with_reducible refine (spec_CutBetween.calls k a0 _ _ t321 a2 a3 t324 t325 _ ?side1 ?side2 A8.out).mono ?_); (case side1 => exact ca (Kd.R_reads' HO323.out).2.2); (case side2 => exact (Kd.R_reads' HO323.out).2.1); rintro e w14 ⟨v326, rfl, ho0, hb⟩; refine ⟨_, rfl, ?_⟩; have HO327 := Aside0.mk (Kd.R_lower ho0 (below_size (hB HB))); replace HO323 := rb_ HO323 hb; replace HB := bst_ HB hb; clear hb ho0) | (refine goesL_ (some 35) rfl rfl Try.func11 (by kernel_rfl) rfl #[.slice A1 l1.length c1] rfl tm_ ?_; (with_reducible refine (laws_toEdgeS.calls k _ _ l1 t328 _ ?side1 ?side2 A9.out).mono ?_); (case side1 => exact cb_ HR1 HB); (case side2 => exact HC1.out); rintro e w15 ⟨v329, rfl, ho0, hb⟩; refine ⟨_, rfl, ?_⟩; have HO330 := Aside0.mk (Kd.R_lower (Kd.R_new' ho0 (rl_ HO323)) (below_size (hB HB))); replace HO323 := re_ HO323 ho0 hb; replace HO327 := rb_ HO327 hb; replace HB := bst_ HB hb; clear hb ho0; obtain ⟨Ao16, co16, eo16⟩ := Kd.R_slice HO330.out; subst eo16) | (refine goesL_ (some 41) rfl rfl Try.func12 (by kernel_rfl) rfl #[.int .i64 a0, .slice Ao16 t328.length co16, .int .i64 a2, .int .i64 a3] rfl tm_ ?_; (with_reducible refine (impl_CutBetween.calls k a0 _ _ t328 a2 a3 t331 t332 _ ?side1 ?side2 A10.out).mono ?_); (case side1 => exact ca (Kd.R_reads' HO330.out).2.2); (case side2 => exact (Kd.R_reads' HO330.out).2.1); rintro e w17 ⟨v333, rfl, ho0, hb⟩; refine ⟨_, rfl, ?_⟩; have HO334 := Aside0.mk (Kd.R_lower (Kd.R_new' ho0 (rl_ HO327)) (below_size (hB HB))); replace HO323 := rb_ HO323 hb; replace HO327 := re_ HO327 ho0 hb; replace HO330 := rb_ HO330 hb; replace HB := bst_ HB hb; clear hb ho0))
 (try simp only [Act.put, List.setIfInBounds_toArray, List.set_cons_zero, List.set_cons_succ])
 go_cut [52] (fun v52 wc => ∃ (kq : Nat) (x52_10 : Bool), v52 = .bool x52_10 ∧ Aside0 (laws_FnExactCutBetween.j0 kq a0 l1 a2 a3 t324 t325 t328 t331 t332 x52_10 = some r) ∧ Aside0 (kq ≤ k) ∧ Aside0 (Kd.R (Kd.int .i64) 3 wc w.heap.size (fun k_ => no_ v333 k_) v326 t324) ∧ Aside0 (Kd.R k47 47 wc w.heap.size (fun _ => True) (.slice Ao16 t328.length co16) t328) ∧ Aside0 (Kd.R (Kd.int .i64) 3 wc w.heap.size (fun k_ => no_ v326 k_) v333 t331) ∧ Aside0 (Below w.heap.size w wc))
 case first =>
  have H := HC11.out
  clear HC11
  replace H := Option.bind_eq_some_iff.mp H
  obtain ⟨t335, A180, H⟩ := H
  replace H : (if t335 = true then (laws_FnExactCutBetween.j0 k a0 l1 a2 a3 t324 t325 t328 t331 t332 (t332 != t325)) else (laws_FnExactCutBetween.j0 k a0 l1 a2 a3 t324 t325 t328 t331 t332 true)) = some r := H
  have A18 := Aside0.mk A180
  clear A180
  by_cases c19 : t335 = true
  ·subst c19
   rw [if_pos rfl] at H
   have H' := Aside0.mk H
   clear H
   obtain ⟨Ao20, co20, eo20⟩ := Kd.R_slice HO334.out
   subst eo20
   obtain ⟨Ao21, co21, eo21⟩ := Kd.R_slice HO327.out
   subst eo21
   go_wp2_with (first | (refine goesL_ (some 46) rfl rfl Try.func13 (by kernel_rfl) rfl #[.slice Ao20 t331.length co20, .slice Ao21 t324.length co21] rfl tm_ ?_; (with_reducible refine (laws_eqIntS.calls k _ _ t331 _ _ t324 true _ ?side1 ?side2 ?side3 ?side4 A18.out).mono ?_); (case side1 => exact ca (Kd.R_reads' HO334.out).2.2); (case side2 => exact (Kd.R_reads' HO334.out).2.1); (case side3 => exact ca (Kd.R_reads' HO327.out).2.2); (case side4 => exact (Kd.R_reads' HO327.out).2.1); rintro e w' ⟨rfl, ⟨nd, rfl⟩⟩; refine ⟨_, rfl, ?_⟩))
   go_meet
   case rel => exact ⟨_, ((t332 != t325)), (by first | rfl | (simp; done) | (simp [*]; done)), H', ⟨by first | omega | exact Nat.le_refl _⟩, rm_ HO327 (fun _ hk => hk.2), rm_ HO330 (fun _ hk => trivial), rm_ HO334 (fun _ hk => hk.2), ⟨hB HB⟩⟩
  replace c19 := Bool.eq_false_iff.mpr c19
  subst c19
  rw [if_neg (show ¬ (false = true) by decide)] at H
  have H' := Aside0.mk H
  clear H
  obtain ⟨Ao22, co22, eo22⟩ := Kd.R_slice HO334.out
  subst eo22
  obtain ⟨Ao23, co23, eo23⟩ := Kd.R_slice HO327.out
  subst eo23
  go_wp2_with (first | (refine goesL_ (some 46) rfl rfl Try.func13 (by kernel_rfl) rfl #[.slice Ao22 t331.length co22, .slice Ao23 t324.length co23] rfl tm_ ?_; (with_reducible refine (laws_eqIntS.calls k _ _ t331 _ _ t324 false _ ?side1 ?side2 ?side3 ?side4 A18.out).mono ?_); (case side1 => exact ca (Kd.R_reads' HO334.out).2.2); (case side2 => exact (Kd.R_reads' HO334.out).2.1); (case side3 => exact ca (Kd.R_reads' HO327.out).2.2); (case side4 => exact (Kd.R_reads' HO327.out).2.1); rintro e w' ⟨rfl, ⟨nd, rfl⟩⟩; refine ⟨_, rfl, ?_⟩))
  go_meet
  case rel => exact ⟨_, (true), (by first | rfl | (simp; done) | (simp [*]; done)), H', ⟨by first | omega | exact Nat.le_refl _⟩, rm_ HO327 (fun _ hk => hk.2), rm_ HO330 (fun _ hk => trivial), rm_ HO334 (fun _ hk => hk.2), ⟨hB HB⟩⟩
 case rest =>
  clear HC11
  try clear c1
  try clear c6
  try clear c6b0
  obtain ⟨kq, x52_10, rfl, HA, HJ10, HO_10, HO_12, HO_13, HB⟩ := hcut
  cases kq with
  | zero => exact absurd HA.out (by simp [laws_FnExactCutBetween.j0])
  | succ kj10 =>
   have H := HA.out
   clear HA
   simp only [laws_FnExactCutBetween.j0] at H
   by_cases c24 : x52_10 = true
   ·subst c24
    rw [if_pos rfl] at H
    obtain rfl := Option.some.inj H
    go_wp2
    go_ret
    exact ⟨rt_, hB HB⟩
   replace c24 := Bool.eq_false_iff.mpr c24
   subst c24
   rw [if_neg (show ¬ (false = true) by decide)] at H
   replace H := Option.bind_eq_some_iff.mp H
   obtain ⟨t336, A250, H⟩ := H
   replace H : ((laws_eqEdgeS.f kj10 t328 t336).bind fun t339 => (if t339 = true then ((laws_markEdgeS.f kj10 t328 1).bind fun bt340 => (if bt340.1 < 0 then (laws_FnExactCutBetween.j1 kj10 a0 l1 a2 a3 t324 t325 t331 true) else ((laws_eqIntS.f kj10 t331 t324).bind fun t342 => (if t342 = true then (laws_FnExactCutBetween.j1 kj10 a0 l1 a2 a3 t324 t325 t331 (t332 != t325)) else (laws_FnExactCutBetween.j1 kj10 a0 l1 a2 a3 t324 t325 t331 true))))) else (some false))) = some r := H
   have A25 := Aside0.mk A250
   clear A250
   replace H := Option.bind_eq_some_iff.mp H
   obtain ⟨t339, A260, H⟩ := H
   replace H : (if t339 = true then ((laws_markEdgeS.f kj10 t328 1).bind fun bt340 => (if bt340.1 < 0 then (laws_FnExactCutBetween.j1 kj10 a0 l1 a2 a3 t324 t325 t331 true) else ((laws_eqIntS.f kj10 t331 t324).bind fun t342 => (if t342 = true then (laws_FnExactCutBetween.j1 kj10 a0 l1 a2 a3 t324 t325 t331 (t332 != t325)) else (laws_FnExactCutBetween.j1 kj10 a0 l1 a2 a3 t324 t325 t331 true))))) else (some false)) = some r := H
   have A26 := Aside0.mk A260
   clear A260
   by_cases c27 : t339 = true
   rotate_left
   ·replace c27 := Bool.eq_false_iff.mpr c27
    subst c27
    rw [if_neg (show ¬ (false = true) by decide)] at H
    obtain rfl := Option.some.inj H
    go_wp2_with (first | (refine goesL_ (some 55) rfl rfl Try.func11 (by kernel_rfl) rfl #[.slice A1 l1.length c1] rfl tm_ ?_; (with_reducible refine (laws_toEdgeS.calls kj10 _ _ l1 t336 _ ?side1 ?side2 A25.out).mono ?_); (case side1 => exact cb_ HR1 HB); (case side2 => exact HC1.out); rintro e w68 ⟨v337, rfl, ho0, hb⟩; refine ⟨_, rfl, ?_⟩; have HO338 := Aside0.mk (Kd.R_lower (Kd.R_new' ho0 (rl_ HO_12)) (below_size (hB HB))); replace HO_10 := rb_ HO_10 hb; replace HO_12 := re_ HO_12 ho0 hb; replace HO_13 := rb_ HO_13 hb; replace HB := bst_ HB hb; clear hb ho0; obtain ⟨Ao69, co69, eo69⟩ := Kd.R_slice HO338.out; subst eo69) | (refine goesL_ (some 56) rfl rfl Try.func14 (by kernel_rfl) rfl #[.slice Ao16 t328.length co16, .slice Ao69 t336.length co69] rfl tm_ ?_; (with_reducible refine (laws_eqEdgeS.calls kj10 _ _ t328 _ _ t336 false _ ?side1 ?side2 ?side3 ?side4 A26.out).mono ?_); (case side1 => exact ca (Kd.R_reads' HO_12.out).2.2); (case side2 => exact (Kd.R_reads' HO_12.out).2.1); (case side3 => exact ca (Kd.R_reads' HO338.out).2.2); (case side4 => exact (Kd.R_reads' HO338.out).2.1); rintro e w70 ⟨rfl, hb⟩; refine ⟨_, rfl, ?_⟩; replace HO_10 := rb_ HO_10 hb; replace HO_12 := rb_ HO_12 hb; replace HO_13 := rb_ HO_13 hb; replace HO338 := rb_ HO338 hb; replace HB := bst_ HB hb; clear hb))
    go_ret
    exact ⟨rt_, hB HB⟩
   subst c27
   rw [if_pos rfl] at H
   replace H := Option.bind_eq_some_iff.mp H
   obtain ⟨⟨t340, t341⟩, A280, H⟩ := H
   replace H : (if t340 < 0 then (laws_FnExactCutBetween.j1 kj10 a0 l1 a2 a3 t324 t325 t331 true) else ((laws_eqIntS.f kj10 t331 t324).bind fun t342 => (if t342 = true then (laws_FnExactCutBetween.j1 kj10 a0 l1 a2 a3 t324 t325 t331 (t332 != t325)) else (laws_FnExactCutBetween.j1 kj10 a0 l1 a2 a3 t324 t325 t331 true)))) = some r := H
   have A28 := Aside0.mk A280
   clear A280
   have HC29 := Aside0.mk H
   clear H
   go_upto_region 14 with (first | (refine goesL_ (some 55) rfl rfl Try.func11 (by kernel_rfl) rfl #[.slice A1 l1.length c1] rfl tm_ ?_; (with_reducible refine (laws_toEdgeS.calls kj10 _ _ l1 t336 _ ?side1 ?side2 A25.out).mono ?_); (case side1 => exact cb_ HR1 HB); (case side2 => exact HC1.out); rintro e w30 ⟨v337, rfl, ho0, hb⟩; refine ⟨_, rfl, ?_⟩; have HO338 := Aside0.mk (Kd.R_lower (Kd.R_new' ho0 (rl_ HO_12)) (below_size (hB HB))); replace HO_10 := rb_ HO_10 hb; replace HO_12 := re_ HO_12 ho0 hb; replace HO_13 := rb_ HO_13 hb; replace HB := bst_ HB hb; clear hb ho0; obtain ⟨Ao31, co31, eo31⟩ := Kd.R_slice HO338.out; subst eo31) | (refine goesL_ (some 56) rfl rfl Try.func14 (by kernel_rfl) rfl #[.slice Ao16 t328.length co16, .slice Ao31 t336.length co31] rfl tm_ ?_; (with_reducible refine (laws_eqEdgeS.calls kj10 _ _ t328 _ _ t336 true _ ?side1 ?side2 ?side3 ?side4 A26.out).mono ?_); (case side1 => exact ca (Kd.R_reads' HO_12.out).2.2); (case side2 => exact (Kd.R_reads' HO_12.out).2.1); (case side3 => exact ca (Kd.R_reads' HO338.out).2.2); (case side4 => exact (Kd.R_reads' HO338.out).2.1); rintro e w32 ⟨rfl, hb⟩; refine ⟨_, rfl, ?_⟩; replace HO_10 := rb_ HO_10 hb; replace HO_12 := rb_ HO_12 hb; replace HO_13 := rb_ HO_13 hb; replace HO338 := rb_ HO338 hb; replace HB := bst_ HB hb; clear hb) | (refine goesL_ (some 60) rfl rfl Try.func15 (by kernel_rfl) rfl #[.slice Ao16 t328.length co16, .int .i64 1] rfl tm_ ?_; (with_reducible refine (laws_markEdgeS.calls kj10 (fun k_ => some k_ = (.slice Ao16 t328.length co16 : Value).ownBlock) (.slice Ao16 t328.length co16) t328 1 t340 t341 w _ ?side1 ?side2 A28.out).mono ?_); (case side1 => exact hB HB); (case side2 => exact Kd.R_tight rfl HO_12.out); rintro e w33 ⟨rfl, hy0, hb, hkp⟩; refine ⟨_, rfl, ?_⟩; replace HO_10 := Aside0.mk (Kd.R_mono (ok' := fun k_ => no_ v333 k_) (Kd.R_keptB ((Kd.R_apart' HO_10.out (Kd.R_typed HO_12.out) (by decide))) hkp (fun k_ hk_ hs_ => (hk_.2) hs_)) (fun k_ hk_ => hk_.1.1)); replace HO_13 := Aside0.mk (Kd.R_mono (ok' := fun k_ => no_ v326 k_) (Kd.R_keptB ((Kd.R_apart' HO_13.out (Kd.R_typed HO_12.out) (by decide))) hkp (fun k_ hk_ hs_ => (hk_.2) hs_)) (fun k_ hk_ => hk_.1.1)); replace HO_12 := Aside0.mk (Kd.R_reok rfl hy0 (fun k_ e_ => HO_12.out.1 k_ e_)); replace HO338 := Aside0.mk (Kd.R_mono (ok' := fun k_ => no_ (.slice Ao16 t328.length co16) k_) (Kd.R_keptB (HO338.out) hkp (fun k_ hk_ hs_ => (hk_.2) hs_)) (fun k_ hk_ => hk_.1.2)); replace HB := Aside0.mk (hb); clear hb))
   (try simp only [Act.put, List.setIfInBounds_toArray, List.set_cons_zero, List.set_cons_succ])
   go_cut [73] (fun v73 wc => ∃ (kq : Nat) (x73_28 : Bool), v73 = .bool x73_28 ∧ Aside0 (laws_FnExactCutBetween.j1 kq a0 l1 a2 a3 t324 t325 t331 x73_28 = some r) ∧ Aside0 (kq ≤ kj10) ∧ Aside0 (Kd.R (Kd.int .i64) 3 wc w.heap.size (fun k_ => no_ v333 k_) v326 t324) ∧ Aside0 (Kd.R (Kd.int .i64) 3 wc w.heap.size (fun k_ => no_ v326 k_) v333 t331) ∧ Aside0 (Below w.heap.size w wc))
   case first =>
    have H := HC29.out
    clear HC29
    by_cases c34 : t340 < 0
    ·rw [if_pos c34] at H
     have c34b0 : decide (t340 < 0) = true := decide_eq_true c34
     clear c34
     (first | rw [c34b0] | (simp only [i64_w, i32_w]; rw [c34b0]) | skip)
     have H' := Aside0.mk H
     clear H
     go_wp2
     go_meet
     case rel => exact ⟨_, (true), (by first | rfl | (simp; done) | (simp [*]; done)), H', ⟨by have := HJ10.out; first | omega | exact Nat.le_refl _⟩, ⟨ra HO_10.out⟩, ⟨ra HO_13.out⟩, ⟨hB HB⟩⟩
    rw [if_neg c34] at H
    have c34b0 : decide (t340 < 0) = false := decide_eq_false c34
    clear c34
    (first | rw [c34b0] | (simp only [i64_w, i32_w]; rw [c34b0]) | skip)
    replace H := Option.bind_eq_some_iff.mp H
    obtain ⟨t342, A350, H⟩ := H
    replace H : (if t342 = true then (laws_FnExactCutBetween.j1 kj10 a0 l1 a2 a3 t324 t325 t331 (t332 != t325)) else (laws_FnExactCutBetween.j1 kj10 a0 l1 a2 a3 t324 t325 t331 true)) = some r := H
    have A35 := Aside0.mk A350
    clear A350
    by_cases c36 : t342 = true
    ·subst c36
     rw [if_pos rfl] at H
     have H' := Aside0.mk H
     clear H
     obtain ⟨Ao37, co37, eo37⟩ := Kd.R_slice HO_13.out
     subst eo37
     obtain ⟨Ao38, co38, eo38⟩ := Kd.R_slice HO_10.out
     subst eo38
     go_wp2_with (first | (go_at_call 13; (with_reducible refine (laws_eqIntS.calls kj10 _ _ t331 _ _ t324 true _ ?side1 ?side2 ?side3 ?side4 A35.out).mono ?_); (case side1 => exact ca (Kd.R_reads' HO_13.out).2.2); (case side2 => exact (Kd.R_reads' HO_13.out).2.1); (case side3 => exact ca (Kd.R_reads' HO_10.out).2.2); (case side4 => exact (Kd.R_reads' HO_10.out).2.1); rintro e w' ⟨rfl, ⟨nd, rfl⟩⟩))
     go_meet
     case rel => exact ⟨_, ((t332 != t325)), (by first | rfl | (simp; done) | (simp [*]; done)), H', ⟨by have := HJ10.out; first | omega | exact Nat.le_refl _⟩, ⟨ra HO_10.out⟩, ⟨ra HO_13.out⟩, ⟨hB HB⟩⟩
    replace c36 := Bool.eq_false_iff.mpr c36
    subst c36
    rw [if_neg (show ¬ (false = true) by decide)] at H
    have H' := Aside0.mk H
    clear H
    obtain ⟨Ao39, co39, eo39⟩ := Kd.R_slice HO_13.out
    subst eo39
    obtain ⟨Ao40, co40, eo40⟩ := Kd.R_slice HO_10.out
    subst eo40
    go_wp2_with (first | (go_at_call 13; (with_reducible refine (laws_eqIntS.calls kj10 _ _ t331 _ _ t324 false _ ?side1 ?side2 ?side3 ?side4 A35.out).mono ?_); (case side1 => exact ca (Kd.R_reads' HO_13.out).2.2); (case side2 => exact (Kd.R_reads' HO_13.out).2.1); (case side3 => exact ca (Kd.R_reads' HO_10.out).2.2); (case side4 => exact (Kd.R_reads' HO_10.out).2.1); rintro e w' ⟨rfl, ⟨nd, rfl⟩⟩))
    go_meet
    case rel => exact ⟨_, (true), (by first | rfl | (simp; done) | (simp [*]; done)), H', ⟨by have := HJ10.out; first | omega | exact Nat.le_refl _⟩, ⟨ra HO_10.out⟩, ⟨ra HO_13.out⟩, ⟨hB HB⟩⟩
   case rest =>
    clear HC29
    try clear c1
    try clear c6
    try clear c6b0
    try clear c24
    try clear c27
    obtain ⟨kq, x73_28, rfl, HA, HJ28, HO_10, HO_13, HB⟩ := hcut
    cases kq with
    | zero => exact absurd HA.out (by simp [laws_FnExactCutBetween.j1])
    | succ kj28 =>
     have H := HA.out
     clear HA
     simp only [laws_FnExactCutBetween.j1] at H
     by_cases c41 : x73_28 = true
     ·subst c41
      rw [if_pos rfl] at H
      obtain rfl := Option.some.inj H
      go_wp2
      go_ret
      exact ⟨rt_, hB HB⟩
     replace c41 := Bool.eq_false_iff.mpr c41
     subst c41
     rw [if_neg (show ¬ (false = true) by decide)] at H
     replace H := Option.bind_eq_some_iff.mp H
     obtain ⟨⟨t343, t344⟩, A420, H⟩ := H
     replace H : ((laws_heldIntS.f kj28 t344 1).bind fun t345 => (if t345 < 0 then (some false) else (if t345 = t343 then ((laws_toEdgeS.f kj28 l1).bind fun t346 => ((impl_CutBetween.f kj28 a0 t346 a2 a3).bind fun bt349 => ((laws_eqIntS.f kj28 bt349.1 t324).bind fun t353 => (if t353 = true then (laws_FnExactCutBetween.j2 kj28 t344 t343 (bt349.2 != t325)) else (laws_FnExactCutBetween.j2 kj28 t344 t343 true))))) else (some false)))) = some r := H
     have A42 := Aside0.mk A420
     clear A420
     replace H := Option.bind_eq_some_iff.mp H
     obtain ⟨t345, A430, H⟩ := H
     replace H : (if t345 < 0 then (some false) else (if t345 = t343 then ((laws_toEdgeS.f kj28 l1).bind fun t346 => ((impl_CutBetween.f kj28 a0 t346 a2 a3).bind fun bt349 => ((laws_eqIntS.f kj28 bt349.1 t324).bind fun t353 => (if t353 = true then (laws_FnExactCutBetween.j2 kj28 t344 t343 (bt349.2 != t325)) else (laws_FnExactCutBetween.j2 kj28 t344 t343 true))))) else (some false))) = some r := H
     have A43 := Aside0.mk A430
     clear A430
     by_cases c44 : t345 < 0
     ·rw [if_pos c44] at H
      have c44b0 : decide (t345 < 0) = true := decide_eq_true c44
      clear c44
      obtain rfl := Option.some.inj H
      obtain ⟨Ao45, co45, eo45⟩ := Kd.R_slice HO_13.out
      subst eo45
      go_wp2_with (first | (refine goesL_ (some 76) rfl rfl Try.func16 (by kernel_rfl) rfl #[.slice Ao45 t331.length co45, .int .i64 1] rfl tm_ ?_; (with_reducible refine (laws_markIntS.calls kj28 (fun k_ => some k_ = (.slice Ao45 t331.length co45 : Value).ownBlock) (.slice Ao45 t331.length co45) t331 1 t343 t344 w _ ?side1 ?side2 A42.out).mono ?_); (case side1 => exact hB HB); (case side2 => exact Kd.R_tight rfl HO_13.out); rintro e w46 ⟨rfl, hy0, hb, hkp⟩; refine ⟨_, rfl, ?_⟩; replace HO_10 := Aside0.mk (Kd.R_mono (ok' := fun k_ => no_ (.slice Ao45 t331.length co45) k_) (Kd.R_keptB (HO_10.out) hkp (fun k_ hk_ hs_ => (hk_) hs_)) (fun k_ hk_ => hk_.1)); replace HO_13 := Aside0.mk (Kd.R_reok rfl hy0 (fun k_ e_ => HO_13.out.1 k_ e_)); replace HB := Aside0.mk (hb); clear hb) | (refine goesL_ (some 79) rfl rfl Try.func17 (by kernel_rfl) rfl #[.slice Ao45 t344.length co45, .int .i64 1] rfl (by (try simp only [List.map_toArray, List.map_cons, List.map_nil]); first | done | (rw [show t344.length = t331.length from (Kd.R_reads' HO_13.out).1.symm] <;> rfl) | rfl | (simp only [List.length_drop, List.length_take]; rfl)) ?_; (with_reducible refine (laws_heldIntS.calls kj28 _ _ t344 1 t345 _ ?side1 ?side2 A43.out).mono ?_); (case side1 => exact ca (Kd.R_reads' HO_13.out).2.2); (case side2 => rw [show t344.length = t331.length from (Kd.R_reads' HO_13.out).1.symm]; exact (Kd.R_reads' HO_13.out).2.1); rintro e w' ⟨rfl, ⟨nd, rfl⟩⟩; refine ⟨_, rfl, ?_⟩))
      go_ret
      exact ⟨rt_, hB HB⟩
     rw [if_neg c44] at H
     have c44b0 : decide (t345 < 0) = false := decide_eq_false c44
     clear c44
     by_cases c47 : t345 = t343
     rotate_left
     ·rw [if_neg c47] at H
      have c47b0 : (t345 == t343) = false := beq_eq_false_iff_ne.mpr c47
      have c47b1 : (t345 != t343) = true := bne_iff_ne.mpr c47
      obtain rfl := Option.some.inj H
      obtain ⟨Ao66, co66, eo66⟩ := Kd.R_slice HO_13.out
      subst eo66
      go_wp2_with (first | (refine goesL_ (some 76) rfl rfl Try.func16 (by kernel_rfl) rfl #[.slice Ao66 t331.length co66, .int .i64 1] rfl tm_ ?_; (with_reducible refine (laws_markIntS.calls kj28 (fun k_ => some k_ = (.slice Ao66 t331.length co66 : Value).ownBlock) (.slice Ao66 t331.length co66) t331 1 t343 t344 w _ ?side1 ?side2 A42.out).mono ?_); (case side1 => exact hB HB); (case side2 => exact Kd.R_tight rfl HO_13.out); rintro e w67 ⟨rfl, hy0, hb, hkp⟩; refine ⟨_, rfl, ?_⟩; replace HO_10 := Aside0.mk (Kd.R_mono (ok' := fun k_ => no_ (.slice Ao66 t331.length co66) k_) (Kd.R_keptB (HO_10.out) hkp (fun k_ hk_ hs_ => (hk_) hs_)) (fun k_ hk_ => hk_.1)); replace HO_13 := Aside0.mk (Kd.R_reok rfl hy0 (fun k_ e_ => HO_13.out.1 k_ e_)); replace HB := Aside0.mk (hb); clear hb) | (refine goesL_ (some 79) rfl rfl Try.func17 (by kernel_rfl) rfl #[.slice Ao66 t344.length co66, .int .i64 1] rfl (by (try simp only [List.map_toArray, List.map_cons, List.map_nil]); first | done | (rw [show t344.length = t331.length from (Kd.R_reads' HO_13.out).1.symm] <;> rfl) | rfl | (simp only [List.length_drop, List.length_take]; rfl)) ?_; (with_reducible refine (laws_heldIntS.calls kj28 _ _ t344 1 t345 _ ?side1 ?side2 A43.out).mono ?_); (case side1 => exact ca (Kd.R_reads' HO_13.out).2.2); (case side2 => rw [show t344.length = t331.length from (Kd.R_reads' HO_13.out).1.symm]; exact (Kd.R_reads' HO_13.out).2.1); rintro e w' ⟨rfl, ⟨nd, rfl⟩⟩; refine ⟨_, rfl, ?_⟩))
      go_ret
      exact ⟨rt_, hB HB⟩
     rw [if_pos c47] at H
     have c47b0 : (t345 == t343) = true := beq_iff_eq.mpr c47
     have c47b1 : (t345 != t343) = false := bne_eq_false_iff_eq.mpr c47
     clear c47
     replace H := Option.bind_eq_some_iff.mp H
     obtain ⟨t346, A480, H⟩ := H
     replace H : ((impl_CutBetween.f kj28 a0 t346 a2 a3).bind fun bt349 => ((laws_eqIntS.f kj28 bt349.1 t324).bind fun t353 => (if t353 = true then (laws_FnExactCutBetween.j2 kj28 t344 t343 (bt349.2 != t325)) else (laws_FnExactCutBetween.j2 kj28 t344 t343 true)))) = some r := H
     have A48 := Aside0.mk A480
     clear A480
     replace H := Option.bind_eq_some_iff.mp H
     obtain ⟨⟨t349, t350⟩, A490, H⟩ := H
     replace H : ((laws_eqIntS.f kj28 t349 t324).bind fun t353 => (if t353 = true then (laws_FnExactCutBetween.j2 kj28 t344 t343 (t350 != t325)) else (laws_FnExactCutBetween.j2 kj28 t344 t343 true))) = some r := H
     have A49 := Aside0.mk A490
     clear A490
     have HC50 := Aside0.mk H
     clear H
     obtain ⟨Ao51, co51, eo51⟩ := Kd.R_slice HO_13.out
     subst eo51
     go_upto_region 25 with (first | (refine goesL_ (some 76) rfl rfl Try.func16 (by kernel_rfl) rfl #[.slice Ao51 t331.length co51, .int .i64 1] rfl tm_ ?_; (with_reducible refine (laws_markIntS.calls kj28 (fun k_ => some k_ = (.slice Ao51 t331.length co51 : Value).ownBlock) (.slice Ao51 t331.length co51) t331 1 t343 t344 w _ ?side1 ?side2 A42.out).mono ?_); (case side1 => exact hB HB); (case side2 => exact Kd.R_tight rfl HO_13.out); rintro e w52 ⟨rfl, hy0, hb, hkp⟩; refine ⟨_, rfl, ?_⟩; replace HO_10 := Aside0.mk (Kd.R_mono (ok' := fun k_ => no_ (.slice Ao51 t331.length co51) k_) (Kd.R_keptB (HO_10.out) hkp (fun k_ hk_ hs_ => (hk_) hs_)) (fun k_ hk_ => hk_.1)); replace HO_13 := Aside0.mk (Kd.R_reok rfl hy0 (fun k_ e_ => HO_13.out.1 k_ e_)); replace HB := Aside0.mk (hb); clear hb) | (refine goesL_ (some 79) rfl rfl Try.func17 (by kernel_rfl) rfl #[.slice Ao51 t344.length co51, .int .i64 1] rfl (by (try simp only [List.map_toArray, List.map_cons, List.map_nil]); first | done | (rw [show t344.length = t331.length from (Kd.R_reads' HO_13.out).1.symm] <;> rfl) | rfl | (simp only [List.length_drop, List.length_take]; rfl)) ?_; (with_reducible refine (laws_heldIntS.calls kj28 _ _ t344 1 t345 _ ?side1 ?side2 A43.out).mono ?_); (case side1 => exact ca (Kd.R_reads' HO_13.out).2.2); (case side2 => rw [show t344.length = t331.length from (Kd.R_reads' HO_13.out).1.symm]; exact (Kd.R_reads' HO_13.out).2.1); rintro e w' ⟨rfl, ⟨nd, rfl⟩⟩; refine ⟨_, rfl, ?_⟩) | (refine goesL_ (some 88) rfl rfl Try.func11 (by kernel_rfl) rfl #[.slice A1 l1.length c1] rfl tm_ ?_; (with_reducible refine (laws_toEdgeS.calls kj28 _ _ l1 t346 _ ?side1 ?side2 A48.out).mono ?_); (case side1 => exact ca (Kd.C_below HR1.out (hB HB))); (case side2 => exact HC1.out); rintro e w53 ⟨v347, rfl, ho0, hb⟩; refine ⟨_, rfl, ?_⟩; have HO348 := Aside0.mk (Kd.R_lower ho0 (below_size (hB HB))); replace HO_10 := rb_ HO_10 hb; replace HO_13 := rb_ HO_13 hb; replace HB := bst_ HB hb; clear hb ho0; obtain ⟨Ao54, co54, eo54⟩ := Kd.R_slice HO348.out; subst eo54) | (refine goesL_ (some 91) rfl rfl Try.func12 (by kernel_rfl) rfl #[.int .i64 a0, .slice Ao54 t346.length co54, .int .i64 a2, .int .i64 a3] rfl tm_ ?_; (with_reducible refine (impl_CutBetween.calls kj28 a0 _ _ t346 a2 a3 t349 t350 _ ?side1 ?side2 A49.out).mono ?_); (case side1 => exact ca (Kd.R_reads' HO348.out).2.2); (case side2 => exact (Kd.R_reads' HO348.out).2.1); rintro e w55 ⟨v351, rfl, ho0, hb⟩; refine ⟨_, rfl, ?_⟩; have HO352 := Aside0.mk (Kd.R_lower (Kd.R_new' (Kd.R_new' ho0 (rl_ HO_10)) (rl_ HO_13)) (below_size (hB HB))); replace HO_10 := re_ HO_10 ho0 hb; replace HO_13 := re_ HO_13 ho0 hb; replace HO348 := rb_ HO348 hb; replace HB := bst_ HB hb; clear hb ho0))
     (try simp only [Act.put, List.setIfInBounds_toArray, List.set_cons_zero, List.set_cons_succ])
     go_cut [102] (fun v102 wc => ∃ (kq : Nat) (x102_49 : Bool), v102 = .bool x102_49 ∧ Aside0 (laws_FnExactCutBetween.j2 kq t344 t343 x102_49 = some r) ∧ Aside0 (kq ≤ kj28) ∧ Aside0 (Kd.R (Kd.int .i64) 3 wc w.heap.size (fun _ => True) (.slice Ao51 t331.length co51) t344) ∧ Aside0 (Below w.heap.size w wc))
     case first =>
      have H := HC50.out
      clear HC50
      replace H := Option.bind_eq_some_iff.mp H
      obtain ⟨t353, A560, H⟩ := H
      replace H : (if t353 = true then (laws_FnExactCutBetween.j2 kj28 t344 t343 (t350 != t325)) else (laws_FnExactCutBetween.j2 kj28 t344 t343 true)) = some r := H
      have A56 := Aside0.mk A560
      clear A560
      by_cases c57 : t353 = true
      ·subst c57
       rw [if_pos rfl] at H
       have H' := Aside0.mk H
       clear H
       obtain ⟨Ao58, co58, eo58⟩ := Kd.R_slice HO352.out
       subst eo58
       obtain ⟨Ao59, co59, eo59⟩ := Kd.R_slice HO_10.out
       subst eo59
       go_wp2_with (first | (refine goesL_ (some 96) rfl rfl Try.func13 (by kernel_rfl) rfl #[.slice Ao58 t349.length co58, .slice Ao59 t324.length co59] rfl tm_ ?_; (with_reducible refine (laws_eqIntS.calls kj28 _ _ t349 _ _ t324 true _ ?side1 ?side2 ?side3 ?side4 A56.out).mono ?_); (case side1 => exact ca (Kd.R_reads' HO352.out).2.2); (case side2 => exact (Kd.R_reads' HO352.out).2.1); (case side3 => exact ca (Kd.R_reads' HO_10.out).2.2); (case side4 => exact (Kd.R_reads' HO_10.out).2.1); rintro e w' ⟨rfl, ⟨nd, rfl⟩⟩; refine ⟨_, rfl, ?_⟩))
       go_meet
       case rel => exact ⟨_, ((t350 != t325)), (by first | rfl | (simp; done) | (simp [*]; done)), H', ⟨by have := HJ10.out; have := HJ28.out; first | omega | exact Nat.le_refl _⟩, rm_ HO_13 (fun _ hk => trivial), ⟨hB HB⟩⟩
      replace c57 := Bool.eq_false_iff.mpr c57
      subst c57
      rw [if_neg (show ¬ (false = true) by decide)] at H
      have H' := Aside0.mk H
      clear H
      obtain ⟨Ao60, co60, eo60⟩ := Kd.R_slice HO352.out
      subst eo60
      obtain ⟨Ao61, co61, eo61⟩ := Kd.R_slice HO_10.out
      subst eo61
      go_wp2_with (first | (refine goesL_ (some 96) rfl rfl Try.func13 (by kernel_rfl) rfl #[.slice Ao60 t349.length co60, .slice Ao61 t324.length co61] rfl tm_ ?_; (with_reducible refine (laws_eqIntS.calls kj28 _ _ t349 _ _ t324 false _ ?side1 ?side2 ?side3 ?side4 A56.out).mono ?_); (case side1 => exact ca (Kd.R_reads' HO352.out).2.2); (case side2 => exact (Kd.R_reads' HO352.out).2.1); (case side3 => exact ca (Kd.R_reads' HO_10.out).2.2); (case side4 => exact (Kd.R_reads' HO_10.out).2.1); rintro e w' ⟨rfl, ⟨nd, rfl⟩⟩; refine ⟨_, rfl, ?_⟩))
      go_meet
      case rel => exact ⟨_, (true), (by first | rfl | (simp; done) | (simp [*]; done)), H', ⟨by have := HJ10.out; have := HJ28.out; first | omega | exact Nat.le_refl _⟩, rm_ HO_13 (fun _ hk => trivial), ⟨hB HB⟩⟩
     case rest =>
      clear HC50
      try clear c1
      try clear c6
      try clear c6b0
      try clear c24
      try clear c27
      try clear c41
      try clear c44
      try clear c44b0
      try clear c47
      try clear c47b0
      try clear c47b1
      obtain ⟨kq, x102_49, rfl, HA, HJ49, HO_13, HB⟩ := hcut
      have hl13_49 := (Kd.R_reads' HO_13.out).1
      rw [hl13_49] at HO_13
      (try simp only [hl13_49])
      cases kq with
      | zero => exact absurd HA.out (by simp [laws_FnExactCutBetween.j2])
      | succ kj49 =>
       have H := HA.out
       clear HA
       simp only [laws_FnExactCutBetween.j2] at H
       by_cases c62 : x102_49 = true
       ·subst c62
        rw [if_pos rfl] at H
        obtain rfl := Option.some.inj H
        go_wp2
        go_ret
        exact ⟨rt_, hB HB⟩
       replace c62 := Bool.eq_false_iff.mpr c62
       subst c62
       rw [if_neg (show ¬ (false = true) by decide)] at H
       replace H := Option.bind_eq_some_iff.mp H
       obtain ⟨t354, A630, H⟩ := H
       replace H : (if t354 < 0 then (some false) else (if t354 = t343 then (some true) else (some false))) = some r := H
       have A63 := Aside0.mk A630
       clear A630
       by_cases c64 : t354 < 0
       ·rw [if_pos c64] at H
        have c64b0 : decide (t354 < 0) = true := decide_eq_true c64
        clear c64
        obtain rfl := Option.some.inj H
        go_wp2_with (first | (refine goesL_ (some 105) rfl rfl Try.func17 (by kernel_rfl) rfl #[.slice Ao51 t344.length co51, .int .i64 1] rfl tm_ ?_; (with_reducible refine (laws_heldIntS.calls kj49 _ _ t344 1 t354 _ ?side1 ?side2 A63.out).mono ?_); (case side1 => exact ca (Kd.R_reads' HO_13.out).2.2); (case side2 => exact (Kd.R_reads' HO_13.out).2.1); rintro e w' ⟨rfl, ⟨nd, rfl⟩⟩; refine ⟨_, rfl, ?_⟩))
        go_ret
        exact ⟨rt_, hB HB⟩
       rw [if_neg c64] at H
       have c64b0 : decide (t354 < 0) = false := decide_eq_false c64
       clear c64
       by_cases c65 : t354 = t343
       rotate_left
       ·rw [if_neg c65] at H
        have c65b0 : (t354 == t343) = false := beq_eq_false_iff_ne.mpr c65
        have c65b1 : (t354 != t343) = true := bne_iff_ne.mpr c65
        obtain rfl := Option.some.inj H
        go_wp2_with (first | (refine goesL_ (some 105) rfl rfl Try.func17 (by kernel_rfl) rfl #[.slice Ao51 t344.length co51, .int .i64 1] rfl tm_ ?_; (with_reducible refine (laws_heldIntS.calls kj49 _ _ t344 1 t354 _ ?side1 ?side2 A63.out).mono ?_); (case side1 => exact ca (Kd.R_reads' HO_13.out).2.2); (case side2 => exact (Kd.R_reads' HO_13.out).2.1); rintro e w' ⟨rfl, ⟨nd, rfl⟩⟩; refine ⟨_, rfl, ?_⟩))
        go_ret
        exact ⟨rt_, hB HB⟩
       rw [if_pos c65] at H
       have c65b0 : (t354 == t343) = true := beq_iff_eq.mpr c65
       have c65b1 : (t354 != t343) = false := bne_eq_false_iff_eq.mpr c65
       clear c65
       obtain rfl := Option.some.inj H
       go_wp2_with (first | (refine goesL_ (some 105) rfl rfl Try.func17 (by kernel_rfl) rfl #[.slice Ao51 t344.length co51, .int .i64 1] rfl tm_ ?_; (with_reducible refine (laws_heldIntS.calls kj49 _ _ t344 1 t354 _ ?side1 ?side2 A63.out).mono ?_); (case side1 => exact ca (Kd.R_reads' HO_13.out).2.2); (case side2 => exact (Kd.R_reads' HO_13.out).2.1); rintro e w' ⟨rfl, ⟨nd, rfl⟩⟩; refine ⟨_, rfl, ?_⟩))
       go_ret
       exact ⟨rt_, hB HB⟩

end Go.Proofs.Ythambdfgkfkcmaa.P
