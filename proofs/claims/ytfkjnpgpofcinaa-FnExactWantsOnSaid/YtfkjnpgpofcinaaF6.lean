import Derived.Test.YtfkjnpgpofcinaaF0
import Derived.Test.YtfkjnpgpofcinaaF3
import Derived.Test.YtfkjnpgpofcinaaF4
import Derived.Test.YtfkjnpgpofcinaaF5
namespace Go.Proofs.Ytfkjnpgpofcinaa.P
open Go.RowKit Go.Proofs.YtfkjnpgpofcinaaW.PrintWords Go.Proofs.YtfkjnpgpofcinaaW.PrintLast Go.Proofs.YtfkjnpgpofcinaaW.PrintMore
attribute [local go_sem] max2_int min2_int max_two min_two max_three min_three max_four min_four   -- for this text's walks alone
set_option linter.unusedVariables false
set_option linter.unusedSimpArgs false
attribute [local go_sem high] eqA45 eqA76 eqA83

mutual
def laws_FnExactWantsOn.j0 : Nat → List Int → Int → List Int → List (S76) → Bool → List Int → List Int → List (S76) → Bool → Bool → Option (Bool)
 | 0, _, _, _, _, _, _, _, _, _, _ => none
 | k + 1, x0, x1, x2, x7, x8, x9, x10, x11, x12, x52 => if x52 = true then (some false) else ((laws_toIntS.f k x0).bind fun t448 => ((laws_eqIntS.f k x9 t448).bind fun t451 => (if t451 = true then ((laws_toIntS.f k x2).bind fun t452 => ((laws_eqIntS.f k x10 t452).bind fun t455 => (if t455 = true then ((laws_markIntS.f k x9 1).bind fun bt456 => ((laws_markIntS.f k x10 bt456.1).bind fun bt458 => (if bt458.1 < 0 then (laws_FnExactWantsOn.j1 k x0 x1 x2 x7 x8 x11 true) else ((laws_eqHopS.f k x11 x7).bind fun t460 => (if t460 = true then (laws_FnExactWantsOn.j1 k x0 x1 x2 x7 x8 x11 (x12 != x8)) else (laws_FnExactWantsOn.j1 k x0 x1 x2 x7 x8 x11 true)))))) else (some false)))) else (some false))))
def laws_FnExactWantsOn.j1 : Nat → List Int → Int → List Int → List (S76) → Bool → List (S76) → Bool → Option (Bool)
 | 0, _, _, _, _, _, _, _ => none
 | k + 1, x0, x1, x2, x7, x8, x11, x81 => if x81 = true then (some false) else ((laws_markHopS.f k x11 1).bind fun bt461 => ((laws_heldHopS.f k bt461.2 1).bind fun t463 => (if t463 < 0 then (some false) else (if t463 = bt461.1 then ((laws_toIntS.f k x0).bind fun t464 => ((laws_toIntS.f k x2).bind fun t467 => ((impl_WantsOn.f k t464 x1 t467).bind fun bt470 => ((laws_eqHopS.f k bt470.1 x7).bind fun t474 => (if t474 = true then (laws_FnExactWantsOn.j2 k bt461.2 bt461.1 (bt470.2 != x8)) else (laws_FnExactWantsOn.j2 k bt461.2 bt461.1 true)))))) else (some false)))))
def laws_FnExactWantsOn.j2 : Nat → List (S76) → Int → Bool → Option (Bool)
 | 0, _, _, _ => none
 | k + 1, x11, x14, x110 => if x110 = true then (some false) else ((laws_heldHopS.f k x11 1).bind fun t475 => (if t475 < 0 then (some false) else (if t475 = x14 then (some true) else (some false))))
end
def laws_FnExactWantsOn.f (k : Nat) (l0 : List Int) (a1 : Int) (l2 : List Int) : Option (Bool) := if (l0.length : Int) > 1048576 then (some true) else (if (l2.length : Int) > 1048576 then (some true) else ((laws_toIntS.f k l0).bind fun t427 => ((laws_toIntS.f k l2).bind fun t430 => ((spec_WantsOn.f k t427 a1 t430).bind fun bt433 => ((laws_toIntS.f k l0).bind fun t437 => ((laws_toIntS.f k l2).bind fun t440 => ((impl_WantsOn.f k t437 a1 t440).bind fun bt443 => ((laws_eqHopS.f k bt443.1 bt433.1).bind fun t447 => (if t447 = true then (laws_FnExactWantsOn.j0 k l0 a1 l2 bt433.1 bt433.2 t437 t440 bt443.1 bt443.2 (bt443.2 != bt433.2)) else (laws_FnExactWantsOn.j0 k l0 a1 l2 bt433.1 bt433.2 t437 t440 bt443.1 bt443.2 true))))))))))
theorem laws_FnExactWantsOn.mono_l : ∀ k, (∀ y0 y1 y2 y3 y4 y5 y6 y7 y8 y9, LeO (laws_FnExactWantsOn.j0 k y0 y1 y2 y3 y4 y5 y6 y7 y8 y9) (laws_FnExactWantsOn.j0 (k + 1) y0 y1 y2 y3 y4 y5 y6 y7 y8 y9)) ∧ (∀ y0 y1 y2 y3 y4 y5 y6, LeO (laws_FnExactWantsOn.j1 k y0 y1 y2 y3 y4 y5 y6) (laws_FnExactWantsOn.j1 (k + 1) y0 y1 y2 y3 y4 y5 y6)) ∧ (∀ y0 y1 y2, LeO (laws_FnExactWantsOn.j2 k y0 y1 y2) (laws_FnExactWantsOn.j2 (k + 1) y0 y1 y2))
 | 0 => ⟨fun _ _ _ _ _ _ _ _ _ _ r h => by simp [laws_FnExactWantsOn.j0] at h, fun _ _ _ _ _ _ _ r h => by simp [laws_FnExactWantsOn.j1] at h, fun _ _ _ r h => by simp [laws_FnExactWantsOn.j2] at h⟩
 | k + 1 => by
  obtain ⟨ih0, ih1, ih2⟩ := laws_FnExactWantsOn.mono_l k
  refine ⟨?_, ?_, ?_⟩
  ·intro y0 y1 y2 y3 y4 y5 y6 y7 y8 y9
   unfold laws_FnExactWantsOn.j0
   repeat' first
   | (with_reducible exact ih0 _ _ _ _ _ _ _ _ _ _)
   | (with_reducible exact ih1 _ _ _ _ _ _ _)
   | (with_reducible exact ih2 _ _ _)
   | (with_reducible exact impl_WantsOn.mono _ _ _ _)
   | (with_reducible exact laws_eqHopS.mono _ _ _)
   | (with_reducible exact laws_eqIntS.mono _ _ _)
   | (with_reducible exact laws_heldHopS.mono _ _ _)
   | (with_reducible exact laws_markHopS.mono _ _ _)
   | (with_reducible exact laws_markIntS.mono _ _ _)
   | (with_reducible exact laws_toIntS.mono _ _)
   | (with_reducible exact spec_WantsOn.mono _ _ _ _)
   | (with_reducible exact LeO.refl _)
   | (with_reducible exact LeO.none _)
   | (with_reducible refine LeO.ite ?_ ?_)
   | (with_reducible refine LeO.bind ?_ (fun _ => ?_))
  ·intro y0 y1 y2 y3 y4 y5 y6
   unfold laws_FnExactWantsOn.j1
   repeat' first
   | (with_reducible exact ih0 _ _ _ _ _ _ _ _ _ _)
   | (with_reducible exact ih1 _ _ _ _ _ _ _)
   | (with_reducible exact ih2 _ _ _)
   | (with_reducible exact impl_WantsOn.mono _ _ _ _)
   | (with_reducible exact laws_eqHopS.mono _ _ _)
   | (with_reducible exact laws_eqIntS.mono _ _ _)
   | (with_reducible exact laws_heldHopS.mono _ _ _)
   | (with_reducible exact laws_markHopS.mono _ _ _)
   | (with_reducible exact laws_markIntS.mono _ _ _)
   | (with_reducible exact laws_toIntS.mono _ _)
   | (with_reducible exact spec_WantsOn.mono _ _ _ _)
   | (with_reducible exact LeO.refl _)
   | (with_reducible exact LeO.none _)
   | (with_reducible refine LeO.ite ?_ ?_)
   | (with_reducible refine LeO.bind ?_ (fun _ => ?_))
  ·intro y0 y1 y2
   unfold laws_FnExactWantsOn.j2
   repeat' first
   | (with_reducible exact ih0 _ _ _ _ _ _ _ _ _ _)
   | (with_reducible exact ih1 _ _ _ _ _ _ _)
   | (with_reducible exact ih2 _ _ _)
   | (with_reducible exact impl_WantsOn.mono _ _ _ _)
   | (with_reducible exact laws_eqHopS.mono _ _ _)
   | (with_reducible exact laws_eqIntS.mono _ _ _)
   | (with_reducible exact laws_heldHopS.mono _ _ _)
   | (with_reducible exact laws_markHopS.mono _ _ _)
   | (with_reducible exact laws_markIntS.mono _ _ _)
   | (with_reducible exact laws_toIntS.mono _ _)
   | (with_reducible exact spec_WantsOn.mono _ _ _ _)
   | (with_reducible exact LeO.refl _)
   | (with_reducible exact LeO.none _)
   | (with_reducible refine LeO.ite ?_ ?_)
   | (with_reducible refine LeO.bind ?_ (fun _ => ?_))
theorem laws_FnExactWantsOn.mono : ∀ a0 a1 a2 k, LeO (laws_FnExactWantsOn.f k a0 a1 a2) (laws_FnExactWantsOn.f (k + 1) a0 a1 a2) := by
 intro a0 a1 a2 k
 obtain ⟨ih0, ih1, ih2⟩ := laws_FnExactWantsOn.mono_l k
 unfold laws_FnExactWantsOn.f
 repeat' first
   | (with_reducible exact ih0 _ _ _ _ _ _ _ _ _ _)
   | (with_reducible exact ih1 _ _ _ _ _ _ _)
   | (with_reducible exact ih2 _ _ _)
   | (with_reducible exact impl_WantsOn.mono _ _ _ _)
   | (with_reducible exact laws_eqHopS.mono _ _ _)
   | (with_reducible exact laws_eqIntS.mono _ _ _)
   | (with_reducible exact laws_heldHopS.mono _ _ _)
   | (with_reducible exact laws_markHopS.mono _ _ _)
   | (with_reducible exact laws_markIntS.mono _ _ _)
   | (with_reducible exact laws_toIntS.mono _ _)
   | (with_reducible exact spec_WantsOn.mono _ _ _ _)
   | (with_reducible exact LeO.refl _)
   | (with_reducible exact LeO.none _)
   | (with_reducible refine LeO.ite ?_ ?_)
   | (with_reducible refine LeO.bind ?_ (fun _ => ?_))
set_option maxHeartbeats 8000000 in
set_option maxRecDepth 100000 in
theorem laws_FnExactWantsOn.calls (k : Nat) (A0 : Option Addr) (c0 : Nat) (l0 : List Int) (a1 : Int) (A2 : Option Addr) (c2 : Nat) (l2 : List Int) (r : Bool) (w : World) (hr0 : Kd.C (Kd.int .i64) w A0 l0.length l0) (hc0 : l0.length ≤ c0) (hr2 : Kd.C (Kd.int .i64) w A2 l2.length l2) (hc2 : l2.length ≤ c2) (h : laws_FnExactWantsOn.f k l0 a1 l2 = some r) :
  Calls Try.prog 3 #[.slice A0 l0.length c0, .int .i64 a1, .slice A2 l2.length c2] w fun e w' => e = .returned (.bool r) ∧ Below w.heap.size w w' := by
 have HR0 := Aside0.mk hr0
 have HC0 := Aside0.mk hc0
 clear hr0 hc0
 have HR2 := Aside0.mk hr2
 have HC2 := Aside0.mk hc2
 clear hr2 hc2
 have HB := Aside0.mk (Below.refl w.heap.size w)
 have H : (if (l0.length : Int) > 1048576 then (some true) else (if (l2.length : Int) > 1048576 then (some true) else ((laws_toIntS.f k l0).bind fun t427 => ((laws_toIntS.f k l2).bind fun t430 => ((spec_WantsOn.f k t427 a1 t430).bind fun bt433 => ((laws_toIntS.f k l0).bind fun t437 => ((laws_toIntS.f k l2).bind fun t440 => ((impl_WantsOn.f k t437 a1 t440).bind fun bt443 => ((laws_eqHopS.f k bt443.1 bt433.1).bind fun t447 => (if t447 = true then (laws_FnExactWantsOn.j0 k l0 a1 l2 bt433.1 bt433.2 t437 t440 bt443.1 bt443.2 (bt443.2 != bt433.2)) else (laws_FnExactWantsOn.j0 k l0 a1 l2 bt433.1 bt433.2 t437 t440 bt443.1 bt443.2 true))))))))))) = some r := h
 clear h
 by_cases c4 : (l0.length : Int) > 1048576
 ·rw [if_pos c4] at H
  have c4b0 : decide (1048576 < (l0.length : Int)) = true := decide_eq_true c4
  have c4b1 : decide (1048576 < l0.length) = true := decide_eq_true (by omega)
  clear c4
  obtain rfl := Option.some.inj H
  go_enter Try.func3, Try.ntmps3
  go_wp2
  go_ret
  exact ⟨by first | rfl | (simp [errW_none, errW_some] <;> rfl) | (simp [*, errW_none, errW_some] <;> rfl), by repeat (first | (with_reducible first | exact HB.out | apply below_alloc | apply pw_below_drewN | apply below_drew1) | exact HB.out)⟩
 rw [if_neg c4] at H
 have c4b0 : decide (1048576 < (l0.length : Int)) = false := decide_eq_false c4
 have c4b1 : decide (1048576 < l0.length) = false := decide_eq_false (by omega)
 clear c4
 by_cases c5 : (l2.length : Int) > 1048576
 ·rw [if_pos c5] at H
  have c5b0 : decide (1048576 < (l2.length : Int)) = true := decide_eq_true c5
  have c5b1 : decide (1048576 < l2.length) = true := decide_eq_true (by omega)
  clear c5
  obtain rfl := Option.some.inj H
  go_enter Try.func3, Try.ntmps3
  go_wp2
  go_ret
  exact ⟨by first | rfl | (simp [errW_none, errW_some] <;> rfl) | (simp [*, errW_none, errW_some] <;> rfl), by repeat (first | (with_reducible first | exact HB.out | apply below_alloc | apply pw_below_drewN | apply below_drew1) | exact HB.out)⟩
 rw [if_neg c5] at H
 have c5b0 : decide (1048576 < (l2.length : Int)) = false := decide_eq_false c5
 have c5b1 : decide (1048576 < l2.length) = false := decide_eq_false (by omega)
 clear c5
 replace H := Option.bind_eq_some_iff.mp H
 obtain ⟨t427, A60, H⟩ := H
 replace H : ((laws_toIntS.f k l2).bind fun t430 => ((spec_WantsOn.f k t427 a1 t430).bind fun bt433 => ((laws_toIntS.f k l0).bind fun t437 => ((laws_toIntS.f k l2).bind fun t440 => ((impl_WantsOn.f k t437 a1 t440).bind fun bt443 => ((laws_eqHopS.f k bt443.1 bt433.1).bind fun t447 => (if t447 = true then (laws_FnExactWantsOn.j0 k l0 a1 l2 bt433.1 bt433.2 t437 t440 bt443.1 bt443.2 (bt443.2 != bt433.2)) else (laws_FnExactWantsOn.j0 k l0 a1 l2 bt433.1 bt433.2 t437 t440 bt443.1 bt443.2 true)))))))) = some r := H
 have A6 := Aside0.mk A60
 clear A60
 replace H := Option.bind_eq_some_iff.mp H
 obtain ⟨t430, A70, H⟩ := H
 replace H : ((spec_WantsOn.f k t427 a1 t430).bind fun bt433 => ((laws_toIntS.f k l0).bind fun t437 => ((laws_toIntS.f k l2).bind fun t440 => ((impl_WantsOn.f k t437 a1 t440).bind fun bt443 => ((laws_eqHopS.f k bt443.1 bt433.1).bind fun t447 => (if t447 = true then (laws_FnExactWantsOn.j0 k l0 a1 l2 bt433.1 bt433.2 t437 t440 bt443.1 bt443.2 (bt443.2 != bt433.2)) else (laws_FnExactWantsOn.j0 k l0 a1 l2 bt433.1 bt433.2 t437 t440 bt443.1 bt443.2 true))))))) = some r := H
 have A7 := Aside0.mk A70
 clear A70
 replace H := Option.bind_eq_some_iff.mp H
 obtain ⟨⟨t433, t434⟩, A80, H⟩ := H
 replace H : ((laws_toIntS.f k l0).bind fun t437 => ((laws_toIntS.f k l2).bind fun t440 => ((impl_WantsOn.f k t437 a1 t440).bind fun bt443 => ((laws_eqHopS.f k bt443.1 t433).bind fun t447 => (if t447 = true then (laws_FnExactWantsOn.j0 k l0 a1 l2 t433 t434 t437 t440 bt443.1 bt443.2 (bt443.2 != t434)) else (laws_FnExactWantsOn.j0 k l0 a1 l2 t433 t434 t437 t440 bt443.1 bt443.2 true)))))) = some r := H
 have A8 := Aside0.mk A80
 clear A80
 replace H := Option.bind_eq_some_iff.mp H
 obtain ⟨t437, A90, H⟩ := H
 replace H : ((laws_toIntS.f k l2).bind fun t440 => ((impl_WantsOn.f k t437 a1 t440).bind fun bt443 => ((laws_eqHopS.f k bt443.1 t433).bind fun t447 => (if t447 = true then (laws_FnExactWantsOn.j0 k l0 a1 l2 t433 t434 t437 t440 bt443.1 bt443.2 (bt443.2 != t434)) else (laws_FnExactWantsOn.j0 k l0 a1 l2 t433 t434 t437 t440 bt443.1 bt443.2 true))))) = some r := H
 have A9 := Aside0.mk A90
 clear A90
 replace H := Option.bind_eq_some_iff.mp H
 obtain ⟨t440, A100, H⟩ := H
 replace H : ((impl_WantsOn.f k t437 a1 t440).bind fun bt443 => ((laws_eqHopS.f k bt443.1 t433).bind fun t447 => (if t447 = true then (laws_FnExactWantsOn.j0 k l0 a1 l2 t433 t434 t437 t440 bt443.1 bt443.2 (bt443.2 != t434)) else (laws_FnExactWantsOn.j0 k l0 a1 l2 t433 t434 t437 t440 bt443.1 bt443.2 true)))) = some r := H
 have A10 := Aside0.mk A100
 clear A100
 replace H := Option.bind_eq_some_iff.mp H
 obtain ⟨⟨t443, t444⟩, A110, H⟩ := H
 replace H : ((laws_eqHopS.f k t443 t433).bind fun t447 => (if t447 = true then (laws_FnExactWantsOn.j0 k l0 a1 l2 t433 t434 t437 t440 t443 t444 (t444 != t434)) else (laws_FnExactWantsOn.j0 k l0 a1 l2 t433 t434 t437 t440 t443 t444 true))) = some r := H
 have A11 := Aside0.mk A110
 clear A110
 have HC12 := Aside0.mk H
 clear H
 go_enter Try.func3, Try.ntmps3
 go_upto_region 9 with (first | ((with_reducible refine gate_callee (f := 10) rfl ?_); refine goesL_ (some 26) rfl rfl Try.func10 (by kernel_rfl) rfl #[.slice A0 l0.length c0] rfl tm_ ?_; (with_reducible refine (laws_toIntS.calls k _ _ l0 t427 _ ?side1 ?side2 A6.out).mono ?_); (case side1 => exact ca HR0.out); (case side2 => exact HC0.out); rintro e w13 ⟨v428, rfl, ho0, hb⟩; refine ⟨_, rfl, ?_⟩; have HO429 := Aside0.mk (Kd.R_lower ho0 (below_size (hB HB))); replace HB := bst_ HB hb; clear hb ho0) | ((with_reducible refine gate_callee (f := 10) rfl ?_); refine goesL_ (some 29) rfl rfl Try.func10 (by kernel_rfl) rfl #[.slice A2 l2.length c2] rfl tm_ ?_; (with_reducible refine (laws_toIntS.calls k _ _ l2 t430 _ ?side1 ?side2 A7.out).mono ?_); (case side1 => exact ca (Kd.C_below HR2.out HB.out)); (case side2 => exact HC2.out); rintro e w14 ⟨v431, rfl, ho0, hb⟩; refine ⟨_, rfl, ?_⟩; have HO432 := Aside0.mk (Kd.R_lower (Kd.R_new' ho0 (rl_ HO429)) (below_size (hB HB))); replace HO429 := re_ HO429 ho0 hb; replace HB := bst_ HB hb; clear hb ho0; obtain ⟨Ao15, co15, eo15⟩ := Kd.R_slice HO429.out; subst eo15; obtain ⟨Ao16, co16, eo16⟩ := Kd.R_slice HO432.out; subst eo16) | ((with_reducible refine gate_callee (f := 9) rfl ?_); refine goesL_ (some 30) rfl rfl Try.func9 (by kernel_rfl) rfl #[.slice Ao15 t427.length co15, .int .i64 a1, .slice Ao16 t430.length co16] rfl tm_ ?_; (with_reducible refine (spec_WantsOn.calls k _ _ t427 a1 _ _ t430 t433 t434 _ ?side1 ?side2 ?side3 ?side4 A8.out).mono ?_); (case side1 => exact ca (Kd.R_reads' HO429.out).2.2); (case side2 => exact (Kd.R_reads' HO429.out).2.1); (case side3 => exact ca (Kd.R_reads' HO432.out).2.2); (case side4 => exact (Kd.R_reads' HO432.out).2.1); rintro e w17 ⟨v435, rfl, ho0, hb⟩; refine ⟨_, rfl, ?_⟩; have HO436 := Aside0.mk (Kd.R_lower ho0 (below_size (hB HB))); replace HO429 := rb_ HO429 hb; replace HO432 := rb_ HO432 hb; replace HB := bst_ HB hb; clear hb ho0) | ((with_reducible refine gate_callee (f := 10) rfl ?_); refine goesL_ (some 34) rfl rfl Try.func10 (by kernel_rfl) rfl #[.slice A0 l0.length c0] rfl tm_ ?_; (with_reducible refine (laws_toIntS.calls k _ _ l0 t437 _ ?side1 ?side2 A9.out).mono ?_); (case side1 => exact ca (Kd.C_below HR0.out HB.out)); (case side2 => exact HC0.out); rintro e w18 ⟨v438, rfl, ho0, hb⟩; refine ⟨_, rfl, ?_⟩; have HO439 := Aside0.mk (Kd.R_lower (Kd.R_new' (Kd.R_new' ho0 (rl_ HO429)) (rl_ HO432)) (below_size (hB HB))); replace HO429 := re_ HO429 ho0 hb; replace HO432 := re_ HO432 ho0 hb; replace HO436 := rb_ HO436 hb; replace HB := bst_ HB hb; clear hb ho0) | ((with_reducible refine gate_callee (f := 10) rfl ?_); refine goesL_ (some 36) rfl rfl Try.func10 (by kernel_rfl) rfl #[.slice A2 l2.length c2] rfl tm_ ?_; (with_reducible refine (laws_toIntS.calls k _ _ l2 t440 _ ?side1 ?side2 A10.out).mono ?_); (case side1 => exact ca (Kd.C_below HR2.out HB.out)); (case side2 => exact HC2.out); rintro e w19 ⟨v441, rfl, ho0, hb⟩; refine ⟨_, rfl, ?_⟩; have HO442 := Aside0.mk (Kd.R_lower (Kd.R_new' (Kd.R_new' (Kd.R_new' ho0 (rl_ HO429)) (rl_ HO432)) (rl_ HO439)) (below_size (hB HB))); replace HO429 := re_ HO429 ho0 hb; replace HO432 := re_ HO432 ho0 hb; replace HO436 := rb_ HO436 hb; replace HO439 := re_ HO439 ho0 hb; replace HB := bst_ HB hb; clear hb ho0; obtain ⟨Ao20, co20, eo20⟩ := Kd.R_slice HO439.out; subst eo20; obtain ⟨Ao21, co21, eo21⟩ := Kd.R_slice HO442.out; subst eo21) | ((with_reducible refine gate_callee (f := 11) rfl ?_); refine goesL_ (some 41) rfl rfl Try.func11 (by kernel_rfl) rfl #[.slice Ao20 t437.length co20, .int .i64 a1, .slice Ao21 t440.length co21] rfl tm_ ?_; (with_reducible refine (impl_WantsOn.calls k _ _ t437 a1 _ _ t440 t443 t444 _ ?side1 ?side2 ?side3 ?side4 A11.out).mono ?_); (case side1 => exact ca (Kd.R_reads' HO439.out).2.2); (case side2 => exact (Kd.R_reads' HO439.out).2.1); (case side3 => exact ca (Kd.R_reads' HO442.out).2.2); (case side4 => exact (Kd.R_reads' HO442.out).2.1); rintro e w22 ⟨v445, rfl, ho0, hb⟩; refine ⟨_, rfl, ?_⟩; have HO446 := Aside0.mk (Kd.R_lower (Kd.R_new' ho0 (rl_ HO436)) (below_size (hB HB))); replace HO429 := rb_ HO429 hb; replace HO432 := rb_ HO432 hb; replace HO436 := re_ HO436 ho0 hb; replace HO439 := rb_ HO439 hb; replace HO442 := rb_ HO442 hb; replace HB := bst_ HB hb; clear hb ho0))
 (try simp only [Act.put, List.setIfInBounds_toArray, List.set_cons_zero, List.set_cons_succ])
 go_cut [52] (fun v52 wc => ∃ (kq : Nat) (x52_11 : Bool), v52 = .bool x52_11 ∧ Aside0 (laws_FnExactWantsOn.j0 kq l0 a1 l2 t433 t434 t437 t440 t443 t444 x52_11 = some r) ∧ Aside0 (kq ≤ k) ∧ Aside0 (Kd.R k76 76 wc w.heap.size (fun k_ => no_ v445 k_) v435 t433) ∧ Aside0 (Kd.R (Kd.int .i64) 3 wc w.heap.size (fun k_ => no_ (.slice Ao21 t440.length co21) k_) (.slice Ao20 t437.length co20) t437) ∧ Aside0 (Kd.R (Kd.int .i64) 3 wc w.heap.size (fun k_ => no_ (.slice Ao20 t437.length co20) k_) (.slice Ao21 t440.length co21) t440) ∧ Aside0 (Kd.R k76 76 wc w.heap.size (fun k_ => no_ v435 k_) v445 t443) ∧ Aside0 (Below w.heap.size w wc))
 case first =>
  have H := HC12.out
  clear HC12
  replace H := Option.bind_eq_some_iff.mp H
  obtain ⟨t447, A230, H⟩ := H
  replace H : (if t447 = true then (laws_FnExactWantsOn.j0 k l0 a1 l2 t433 t434 t437 t440 t443 t444 (t444 != t434)) else (laws_FnExactWantsOn.j0 k l0 a1 l2 t433 t434 t437 t440 t443 t444 true)) = some r := H
  have A23 := Aside0.mk A230
  clear A230
  by_cases c24 : t447 = true
  ·subst c24
   rw [if_pos rfl] at H
   have H' := Aside0.mk H
   clear H
   obtain ⟨Ao25, co25, eo25⟩ := Kd.R_slice HO446.out
   subst eo25
   obtain ⟨Ao26, co26, eo26⟩ := Kd.R_slice HO436.out
   subst eo26
   go_wp2_with (first | ((with_reducible refine gate_callee (f := 12) rfl ?_); refine goesL_ (some 46) rfl rfl Try.func12 (by kernel_rfl) rfl #[.slice Ao25 t443.length co25, .slice Ao26 t433.length co26] rfl tm_ ?_; (with_reducible refine (laws_eqHopS.calls k _ _ t443 _ _ t433 true _ ?side1 ?side2 ?side3 ?side4 A23.out).mono ?_); (case side1 => exact ca (Kd.R_reads' HO446.out).2.2); (case side2 => exact (Kd.R_reads' HO446.out).2.1); (case side3 => exact ca (Kd.R_reads' HO436.out).2.2); (case side4 => exact (Kd.R_reads' HO436.out).2.1); rintro e w27 ⟨rfl, hb⟩; refine ⟨_, rfl, ?_⟩; replace HO429 := rb_ HO429 hb; replace HO432 := rb_ HO432 hb; replace HO436 := rb_ HO436 hb; replace HO439 := rb_ HO439 hb; replace HO442 := rb_ HO442 hb; replace HO446 := rb_ HO446 hb; replace HB := bst_ HB hb; clear hb))
   go_meet
   case rel => exact ⟨_, ((t444 != t434)), (by first | rfl | (simp; done) | (simp [*]; done)), H', ⟨by first | omega | exact Nat.le_refl _⟩, rm_ HO436 (fun _ hk => hk.2), rm_ HO439 (fun _ hk => hk.2), rm_ HO442 (fun _ hk => hk.2), rm_ HO446 (fun _ hk => hk.2), ⟨hB HB⟩⟩
  replace c24 := Bool.eq_false_iff.mpr c24
  subst c24
  rw [if_neg (show ¬ (false = true) by decide)] at H
  have H' := Aside0.mk H
  clear H
  obtain ⟨Ao28, co28, eo28⟩ := Kd.R_slice HO446.out
  subst eo28
  obtain ⟨Ao29, co29, eo29⟩ := Kd.R_slice HO436.out
  subst eo29
  go_wp2_with (first | ((with_reducible refine gate_callee (f := 12) rfl ?_); refine goesL_ (some 46) rfl rfl Try.func12 (by kernel_rfl) rfl #[.slice Ao28 t443.length co28, .slice Ao29 t433.length co29] rfl tm_ ?_; (with_reducible refine (laws_eqHopS.calls k _ _ t443 _ _ t433 false _ ?side1 ?side2 ?side3 ?side4 A23.out).mono ?_); (case side1 => exact ca (Kd.R_reads' HO446.out).2.2); (case side2 => exact (Kd.R_reads' HO446.out).2.1); (case side3 => exact ca (Kd.R_reads' HO436.out).2.2); (case side4 => exact (Kd.R_reads' HO436.out).2.1); rintro e w30 ⟨rfl, hb⟩; refine ⟨_, rfl, ?_⟩; replace HO429 := rb_ HO429 hb; replace HO432 := rb_ HO432 hb; replace HO436 := rb_ HO436 hb; replace HO439 := rb_ HO439 hb; replace HO442 := rb_ HO442 hb; replace HO446 := rb_ HO446 hb; replace HB := bst_ HB hb; clear hb))
  go_meet
  case rel => exact ⟨_, (true), (by first | rfl | (simp; done) | (simp [*]; done)), H', ⟨by first | omega | exact Nat.le_refl _⟩, rm_ HO436 (fun _ hk => hk.2), rm_ HO439 (fun _ hk => hk.2), rm_ HO442 (fun _ hk => hk.2), rm_ HO446 (fun _ hk => hk.2), ⟨hB HB⟩⟩
 case rest =>
  clear HC12
  try clear c2
  try clear c4
  try clear c4b0
  try clear c4b1
  try clear c5
  try clear c5b0
  try clear c5b1
  obtain ⟨kq, x52_11, rfl, HA, HJ11, HO_7, HO_9, HO_10, HO_11, HB⟩ := hcut
  cases kq with
  | zero => exact absurd HA.out (by simp [laws_FnExactWantsOn.j0])
  | succ kj11 =>
   have H := HA.out
   clear HA
   simp only [laws_FnExactWantsOn.j0] at H
   by_cases c31 : x52_11 = true
   ·subst c31
    rw [if_pos rfl] at H
    obtain rfl := Option.some.inj H
    go_wp2
    go_ret
    exact ⟨by first | rfl | (simp [errW_none, errW_some] <;> rfl) | (simp [*, errW_none, errW_some] <;> rfl), by repeat (first | (with_reducible first | exact HB.out | apply below_alloc | apply pw_below_drewN | apply below_drew1) | exact HB.out)⟩
   replace c31 := Bool.eq_false_iff.mpr c31
   subst c31
   rw [if_neg (show ¬ (false = true) by decide)] at H
   replace H := Option.bind_eq_some_iff.mp H
   obtain ⟨t448, A320, H⟩ := H
   replace H : ((laws_eqIntS.f kj11 t437 t448).bind fun t451 => (if t451 = true then ((laws_toIntS.f kj11 l2).bind fun t452 => ((laws_eqIntS.f kj11 t440 t452).bind fun t455 => (if t455 = true then ((laws_markIntS.f kj11 t437 1).bind fun bt456 => ((laws_markIntS.f kj11 t440 bt456.1).bind fun bt458 => (if bt458.1 < 0 then (laws_FnExactWantsOn.j1 kj11 l0 a1 l2 t433 t434 t443 true) else ((laws_eqHopS.f kj11 t443 t433).bind fun t460 => (if t460 = true then (laws_FnExactWantsOn.j1 kj11 l0 a1 l2 t433 t434 t443 (t444 != t434)) else (laws_FnExactWantsOn.j1 kj11 l0 a1 l2 t433 t434 t443 true)))))) else (some false)))) else (some false))) = some r := H
   have A32 := Aside0.mk A320
   clear A320
   replace H := Option.bind_eq_some_iff.mp H
   obtain ⟨t451, A330, H⟩ := H
   replace H : (if t451 = true then ((laws_toIntS.f kj11 l2).bind fun t452 => ((laws_eqIntS.f kj11 t440 t452).bind fun t455 => (if t455 = true then ((laws_markIntS.f kj11 t437 1).bind fun bt456 => ((laws_markIntS.f kj11 t440 bt456.1).bind fun bt458 => (if bt458.1 < 0 then (laws_FnExactWantsOn.j1 kj11 l0 a1 l2 t433 t434 t443 true) else ((laws_eqHopS.f kj11 t443 t433).bind fun t460 => (if t460 = true then (laws_FnExactWantsOn.j1 kj11 l0 a1 l2 t433 t434 t443 (t444 != t434)) else (laws_FnExactWantsOn.j1 kj11 l0 a1 l2 t433 t434 t443 true)))))) else (some false)))) else (some false)) = some r := H
   have A33 := Aside0.mk A330
   clear A330
   by_cases c34 : t451 = true
   rotate_left
   ·replace c34 := Bool.eq_false_iff.mpr c34
    subst c34
    rw [if_neg (show ¬ (false = true) by decide)] at H
    obtain rfl := Option.some.inj H
    go_wp2_with (first | ((with_reducible refine gate_callee (f := 10) rfl ?_); refine goesL_ (some 55) rfl rfl Try.func10 (by kernel_rfl) rfl #[.slice A0 l0.length c0] rfl tm_ ?_; (with_reducible refine (laws_toIntS.calls kj11 _ _ l0 t448 _ ?side1 ?side2 A32.out).mono ?_); (case side1 => exact ca (Kd.C_below HR0.out HB.out)); (case side2 => exact HC0.out); rintro e w92 ⟨v449, rfl, ho0, hb⟩; refine ⟨_, rfl, ?_⟩; have HO450 := Aside0.mk (Kd.R_lower (Kd.R_new' (Kd.R_new' ho0 (rl_ HO_9)) (rl_ HO_10)) (below_size (hB HB))); replace HO_7 := rb_ HO_7 hb; replace HO_9 := re_ HO_9 ho0 hb; replace HO_10 := re_ HO_10 ho0 hb; replace HO_11 := rb_ HO_11 hb; replace HB := bst_ HB hb; clear hb ho0; obtain ⟨Ao93, co93, eo93⟩ := Kd.R_slice HO450.out; subst eo93) | ((with_reducible refine gate_callee (f := 13) rfl ?_); refine goesL_ (some 56) rfl rfl Try.func13 (by kernel_rfl) rfl #[.slice Ao20 t437.length co20, .slice Ao93 t448.length co93] rfl tm_ ?_; (with_reducible refine (laws_eqIntS.calls kj11 _ _ t437 _ _ t448 false _ ?side1 ?side2 ?side3 ?side4 A33.out).mono ?_); (case side1 => exact ca (Kd.R_reads' HO_9.out).2.2); (case side2 => exact (Kd.R_reads' HO_9.out).2.1); (case side3 => exact ca (Kd.R_reads' HO450.out).2.2); (case side4 => exact (Kd.R_reads' HO450.out).2.1); rintro e w' ⟨rfl, ⟨nd, rfl⟩⟩; refine ⟨_, rfl, ?_⟩))
    go_ret
    exact ⟨by first | rfl | (simp [errW_none, errW_some] <;> rfl) | (simp [*, errW_none, errW_some] <;> rfl), by repeat (first | (with_reducible first | exact HB.out | apply below_alloc | apply pw_below_drewN | apply below_drew1) | exact HB.out)⟩
   subst c34
   rw [if_pos rfl] at H
   replace H := Option.bind_eq_some_iff.mp H
   obtain ⟨t452, A350, H⟩ := H
   replace H : ((laws_eqIntS.f kj11 t440 t452).bind fun t455 => (if t455 = true then ((laws_markIntS.f kj11 t437 1).bind fun bt456 => ((laws_markIntS.f kj11 t440 bt456.1).bind fun bt458 => (if bt458.1 < 0 then (laws_FnExactWantsOn.j1 kj11 l0 a1 l2 t433 t434 t443 true) else ((laws_eqHopS.f kj11 t443 t433).bind fun t460 => (if t460 = true then (laws_FnExactWantsOn.j1 kj11 l0 a1 l2 t433 t434 t443 (t444 != t434)) else (laws_FnExactWantsOn.j1 kj11 l0 a1 l2 t433 t434 t443 true)))))) else (some false))) = some r := H
   have A35 := Aside0.mk A350
   clear A350
   replace H := Option.bind_eq_some_iff.mp H
   obtain ⟨t455, A360, H⟩ := H
   replace H : (if t455 = true then ((laws_markIntS.f kj11 t437 1).bind fun bt456 => ((laws_markIntS.f kj11 t440 bt456.1).bind fun bt458 => (if bt458.1 < 0 then (laws_FnExactWantsOn.j1 kj11 l0 a1 l2 t433 t434 t443 true) else ((laws_eqHopS.f kj11 t443 t433).bind fun t460 => (if t460 = true then (laws_FnExactWantsOn.j1 kj11 l0 a1 l2 t433 t434 t443 (t444 != t434)) else (laws_FnExactWantsOn.j1 kj11 l0 a1 l2 t433 t434 t443 true)))))) else (some false)) = some r := H
   have A36 := Aside0.mk A360
   clear A360
   by_cases c37 : t455 = true
   rotate_left
   ·replace c37 := Bool.eq_false_iff.mpr c37
    subst c37
    rw [if_neg (show ¬ (false = true) by decide)] at H
    obtain rfl := Option.some.inj H
    go_wp2_with (first | ((with_reducible refine gate_callee (f := 10) rfl ?_); refine goesL_ (some 55) rfl rfl Try.func10 (by kernel_rfl) rfl #[.slice A0 l0.length c0] rfl tm_ ?_; (with_reducible refine (laws_toIntS.calls kj11 _ _ l0 t448 _ ?side1 ?side2 A32.out).mono ?_); (case side1 => exact ca (Kd.C_below HR0.out HB.out)); (case side2 => exact HC0.out); rintro e w88 ⟨v449, rfl, ho0, hb⟩; refine ⟨_, rfl, ?_⟩; have HO450 := Aside0.mk (Kd.R_lower (Kd.R_new' (Kd.R_new' ho0 (rl_ HO_9)) (rl_ HO_10)) (below_size (hB HB))); replace HO_7 := rb_ HO_7 hb; replace HO_9 := re_ HO_9 ho0 hb; replace HO_10 := re_ HO_10 ho0 hb; replace HO_11 := rb_ HO_11 hb; replace HB := bst_ HB hb; clear hb ho0; obtain ⟨Ao89, co89, eo89⟩ := Kd.R_slice HO450.out; subst eo89) | ((with_reducible refine gate_callee (f := 13) rfl ?_); refine goesL_ (some 56) rfl rfl Try.func13 (by kernel_rfl) rfl #[.slice Ao20 t437.length co20, .slice Ao89 t448.length co89] rfl tm_ ?_; (with_reducible refine (laws_eqIntS.calls kj11 _ _ t437 _ _ t448 true _ ?side1 ?side2 ?side3 ?side4 A33.out).mono ?_); (case side1 => exact ca (Kd.R_reads' HO_9.out).2.2); (case side2 => exact (Kd.R_reads' HO_9.out).2.1); (case side3 => exact ca (Kd.R_reads' HO450.out).2.2); (case side4 => exact (Kd.R_reads' HO450.out).2.1); rintro e w' ⟨rfl, ⟨nd, rfl⟩⟩; refine ⟨_, rfl, ?_⟩) | ((with_reducible refine gate_callee (f := 10) rfl ?_); refine goesL_ (some 60) rfl rfl Try.func10 (by kernel_rfl) rfl #[.slice A2 l2.length c2] rfl tm_ ?_; (with_reducible refine (laws_toIntS.calls kj11 _ _ l2 t452 _ ?side1 ?side2 A35.out).mono ?_); (case side1 => exact ca (Kd.C_below HR2.out (hB HB))); (case side2 => exact HC2.out); rintro e w90 ⟨v453, rfl, ho0, hb⟩; refine ⟨_, rfl, ?_⟩; have HO454 := Aside0.mk (Kd.R_lower (Kd.R_new' (Kd.R_new' (Kd.R_new' ho0 (rl_ HO_9)) (rl_ HO_10)) (rl_ HO450)) (below_size (hB HB))); replace HO_7 := rb_ HO_7 hb; replace HO_9 := re_ HO_9 ho0 hb; replace HO_10 := re_ HO_10 ho0 hb; replace HO_11 := rb_ HO_11 hb; replace HO450 := re_ HO450 ho0 hb; replace HB := bst_ HB hb; clear hb ho0; obtain ⟨Ao91, co91, eo91⟩ := Kd.R_slice HO454.out; subst eo91) | ((with_reducible refine gate_callee (f := 13) rfl ?_); refine goesL_ (some 61) rfl rfl Try.func13 (by kernel_rfl) rfl #[.slice Ao21 t440.length co21, .slice Ao91 t452.length co91] rfl tm_ ?_; (with_reducible refine (laws_eqIntS.calls kj11 _ _ t440 _ _ t452 false _ ?side1 ?side2 ?side3 ?side4 A36.out).mono ?_); (case side1 => exact ca (Kd.R_reads' HO_10.out).2.2); (case side2 => exact (Kd.R_reads' HO_10.out).2.1); (case side3 => exact ca (Kd.R_reads' HO454.out).2.2); (case side4 => exact (Kd.R_reads' HO454.out).2.1); rintro e w' ⟨rfl, ⟨nd, rfl⟩⟩; refine ⟨_, rfl, ?_⟩))
    go_ret
    exact ⟨by first | rfl | (simp [errW_none, errW_some] <;> rfl) | (simp [*, errW_none, errW_some] <;> rfl), by repeat (first | (with_reducible first | exact HB.out | apply below_alloc | apply pw_below_drewN | apply below_drew1) | exact HB.out)⟩
   subst c37
   rw [if_pos rfl] at H
   replace H := Option.bind_eq_some_iff.mp H
   obtain ⟨⟨t456, t457⟩, A380, H⟩ := H
   replace H : ((laws_markIntS.f kj11 t440 t456).bind fun bt458 => (if bt458.1 < 0 then (laws_FnExactWantsOn.j1 kj11 l0 a1 l2 t433 t434 t443 true) else ((laws_eqHopS.f kj11 t443 t433).bind fun t460 => (if t460 = true then (laws_FnExactWantsOn.j1 kj11 l0 a1 l2 t433 t434 t443 (t444 != t434)) else (laws_FnExactWantsOn.j1 kj11 l0 a1 l2 t433 t434 t443 true))))) = some r := H
   have A38 := Aside0.mk A380
   clear A380
   replace H := Option.bind_eq_some_iff.mp H
   obtain ⟨⟨t458, t459⟩, A390, H⟩ := H
   replace H : (if t458 < 0 then (laws_FnExactWantsOn.j1 kj11 l0 a1 l2 t433 t434 t443 true) else ((laws_eqHopS.f kj11 t443 t433).bind fun t460 => (if t460 = true then (laws_FnExactWantsOn.j1 kj11 l0 a1 l2 t433 t434 t443 (t444 != t434)) else (laws_FnExactWantsOn.j1 kj11 l0 a1 l2 t433 t434 t443 true)))) = some r := H
   have A39 := Aside0.mk A390
   clear A390
   have HC40 := Aside0.mk H
   clear H
   go_upto_region 18 with (first | ((with_reducible refine gate_callee (f := 10) rfl ?_); refine goesL_ (some 55) rfl rfl Try.func10 (by kernel_rfl) rfl #[.slice A0 l0.length c0] rfl tm_ ?_; (with_reducible refine (laws_toIntS.calls kj11 _ _ l0 t448 _ ?side1 ?side2 A32.out).mono ?_); (case side1 => exact ca (Kd.C_below HR0.out HB.out)); (case side2 => exact HC0.out); rintro e w41 ⟨v449, rfl, ho0, hb⟩; refine ⟨_, rfl, ?_⟩; have HO450 := Aside0.mk (Kd.R_lower (Kd.R_new' (Kd.R_new' ho0 (rl_ HO_9)) (rl_ HO_10)) (below_size (hB HB))); replace HO_7 := rb_ HO_7 hb; replace HO_9 := re_ HO_9 ho0 hb; replace HO_10 := re_ HO_10 ho0 hb; replace HO_11 := rb_ HO_11 hb; replace HB := bst_ HB hb; clear hb ho0; obtain ⟨Ao42, co42, eo42⟩ := Kd.R_slice HO450.out; subst eo42) | ((with_reducible refine gate_callee (f := 13) rfl ?_); refine goesL_ (some 56) rfl rfl Try.func13 (by kernel_rfl) rfl #[.slice Ao20 t437.length co20, .slice Ao42 t448.length co42] rfl tm_ ?_; (with_reducible refine (laws_eqIntS.calls kj11 _ _ t437 _ _ t448 true _ ?side1 ?side2 ?side3 ?side4 A33.out).mono ?_); (case side1 => exact ca (Kd.R_reads' HO_9.out).2.2); (case side2 => exact (Kd.R_reads' HO_9.out).2.1); (case side3 => exact ca (Kd.R_reads' HO450.out).2.2); (case side4 => exact (Kd.R_reads' HO450.out).2.1); rintro e w' ⟨rfl, ⟨nd, rfl⟩⟩; refine ⟨_, rfl, ?_⟩) | ((with_reducible refine gate_callee (f := 10) rfl ?_); refine goesL_ (some 60) rfl rfl Try.func10 (by kernel_rfl) rfl #[.slice A2 l2.length c2] rfl tm_ ?_; (with_reducible refine (laws_toIntS.calls kj11 _ _ l2 t452 _ ?side1 ?side2 A35.out).mono ?_); (case side1 => exact ca (Kd.C_below HR2.out (hB HB))); (case side2 => exact HC2.out); rintro e w43 ⟨v453, rfl, ho0, hb⟩; refine ⟨_, rfl, ?_⟩; have HO454 := Aside0.mk (Kd.R_lower (Kd.R_new' (Kd.R_new' (Kd.R_new' ho0 (rl_ HO_9)) (rl_ HO_10)) (rl_ HO450)) (below_size (hB HB))); replace HO_7 := rb_ HO_7 hb; replace HO_9 := re_ HO_9 ho0 hb; replace HO_10 := re_ HO_10 ho0 hb; replace HO_11 := rb_ HO_11 hb; replace HO450 := re_ HO450 ho0 hb; replace HB := bst_ HB hb; clear hb ho0; obtain ⟨Ao44, co44, eo44⟩ := Kd.R_slice HO454.out; subst eo44) | ((with_reducible refine gate_callee (f := 13) rfl ?_); refine goesL_ (some 61) rfl rfl Try.func13 (by kernel_rfl) rfl #[.slice Ao21 t440.length co21, .slice Ao44 t452.length co44] rfl tm_ ?_; (with_reducible refine (laws_eqIntS.calls kj11 _ _ t440 _ _ t452 true _ ?side1 ?side2 ?side3 ?side4 A36.out).mono ?_); (case side1 => exact ca (Kd.R_reads' HO_10.out).2.2); (case side2 => exact (Kd.R_reads' HO_10.out).2.1); (case side3 => exact ca (Kd.R_reads' HO454.out).2.2); (case side4 => exact (Kd.R_reads' HO454.out).2.1); rintro e w' ⟨rfl, ⟨nd, rfl⟩⟩; refine ⟨_, rfl, ?_⟩) | ((with_reducible refine gate_callee (f := 14) rfl ?_); refine goesL_ (some 65) rfl rfl Try.func14 (by kernel_rfl) rfl #[.slice Ao20 t437.length co20, .int .i64 1] rfl tm_ ?_; (with_reducible refine (laws_markIntS.calls kj11 (fun k_ => some k_ = (.slice Ao20 t437.length co20 : Value).ownBlock) (.slice Ao20 t437.length co20) t437 1 t456 t457 w _ ?side1 ?side2 A38.out).mono ?_); (case side1 => repeat (first | (with_reducible first | exact HB.out | apply below_alloc | apply pw_below_drewN | apply below_drew1) | exact HB.out)); (case side2 => exact Kd.R_tight rfl HO_9.out); rintro e w45 ⟨rfl, hy0, hb, hkp⟩; refine ⟨_, rfl, ?_⟩; replace HO_7 := Aside0.mk (Kd.R_mono (ok' := fun k_ => no_ v445 k_) (Kd.R_keptB ((Kd.R_apart' HO_7.out (Kd.R_typed HO_9.out) (by decide))) hkp (fun k_ hk_ hs_ => (hk_.2) hs_)) (fun k_ hk_ => hk_.1.1)); replace HO_10 := Aside0.mk (Kd.R_mono (ok' := fun k_ => no_ (.slice Ao20 t437.length co20) k_ ∧ no_ (.slice Ao42 t448.length co42) k_ ∧ no_ (.slice Ao44 t452.length co44) k_) (Kd.R_keptB (HO_10.out) hkp (fun k_ hk_ hs_ => (hk_.1.1) hs_)) (fun k_ hk_ => ⟨hk_.1.1.1, hk_.1.1.2, hk_.1.2⟩)); replace HO_11 := Aside0.mk (Kd.R_mono (ok' := fun k_ => no_ v435 k_) (Kd.R_keptB ((Kd.R_apart' HO_11.out (Kd.R_typed HO_9.out) (by decide))) hkp (fun k_ hk_ hs_ => (hk_.2) hs_)) (fun k_ hk_ => hk_.1.1)); replace HO_9 := Aside0.mk (Kd.R_reok rfl hy0 (fun k_ e_ => HO_9.out.1 k_ e_)); replace HO450 := Aside0.mk (Kd.R_mono (ok' := fun k_ => no_ (.slice Ao20 t437.length co20) k_ ∧ no_ (.slice Ao21 t440.length co21) k_ ∧ no_ (.slice Ao44 t452.length co44) k_) (Kd.R_keptB (HO450.out) hkp (fun k_ hk_ hs_ => (hk_.1.1.2) hs_)) (fun k_ hk_ => ⟨hk_.1.1.1.2, hk_.1.1.2, hk_.1.2⟩)); replace HO454 := Aside0.mk (Kd.R_mono (ok' := fun k_ => no_ (.slice Ao20 t437.length co20) k_ ∧ no_ (.slice Ao21 t440.length co21) k_ ∧ no_ (.slice Ao42 t448.length co42) k_) (Kd.R_keptB (HO454.out) hkp (fun k_ hk_ hs_ => (hk_.1.1.2) hs_)) (fun k_ hk_ => ⟨hk_.1.1.1.2, hk_.1.1.2, hk_.1.2⟩)); replace HB := Aside0.mk (hb); clear hb) | ((with_reducible refine gate_callee (f := 14) rfl ?_); refine goesL_ (some 68) rfl rfl Try.func14 (by kernel_rfl) rfl #[.slice Ao21 t440.length co21, .int .i64 t456] rfl tm_ ?_; (with_reducible refine (laws_markIntS.calls kj11 (fun k_ => some k_ = (.slice Ao21 t440.length co21 : Value).ownBlock) (.slice Ao21 t440.length co21) t440 t456 t458 t459 w _ ?side1 ?side2 A39.out).mono ?_); (case side1 => repeat (first | (with_reducible first | exact HB.out | apply below_alloc | apply pw_below_drewN | apply below_drew1) | exact HB.out)); (case side2 => exact Kd.R_tight rfl HO_10.out); rintro e w46 ⟨rfl, hy0, hb, hkp⟩; refine ⟨_, rfl, ?_⟩; replace HO_7 := Aside0.mk (Kd.R_mono (ok' := fun k_ => no_ v445 k_) (Kd.R_keptB ((Kd.R_apart' HO_7.out (Kd.R_typed HO_10.out) (by decide))) hkp (fun k_ hk_ hs_ => (hk_.2) hs_)) (fun k_ hk_ => hk_.1.1)); replace HO_9 := Aside0.mk (Kd.R_mono (ok' := fun k_ => no_ (.slice Ao21 t440.length co21) k_ ∧ no_ (.slice Ao42 t448.length co42) k_ ∧ no_ (.slice Ao44 t452.length co44) k_) (Kd.R_keptB (HO_9.out) hkp (fun k_ hk_ hs_ => (hk_.1.1) hs_)) (fun k_ hk_ => ⟨hk_.1.1.1, hk_.1.1.2, hk_.1.2⟩)); replace HO_11 := Aside0.mk (Kd.R_mono (ok' := fun k_ => no_ v435 k_) (Kd.R_keptB ((Kd.R_apart' HO_11.out (Kd.R_typed HO_10.out) (by decide))) hkp (fun k_ hk_ hs_ => (hk_.2) hs_)) (fun k_ hk_ => hk_.1.1)); replace HO_10 := Aside0.mk (Kd.R_reok rfl hy0 (fun k_ e_ => HO_10.out.1 k_ e_)); replace HO450 := Aside0.mk (Kd.R_mono (ok' := fun k_ => no_ (.slice Ao20 t437.length co20) k_ ∧ no_ (.slice Ao21 t440.length co21) k_ ∧ no_ (.slice Ao44 t452.length co44) k_) (Kd.R_keptB (HO450.out) hkp (fun k_ hk_ hs_ => (hk_.2.1) hs_)) (fun k_ hk_ => ⟨hk_.1.1, hk_.1.2.1, hk_.1.2.2⟩)); replace HO454 := Aside0.mk (Kd.R_mono (ok' := fun k_ => no_ (.slice Ao20 t437.length co20) k_ ∧ no_ (.slice Ao21 t440.length co21) k_ ∧ no_ (.slice Ao42 t448.length co42) k_) (Kd.R_keptB (HO454.out) hkp (fun k_ hk_ hs_ => (hk_.2.1) hs_)) (fun k_ hk_ => ⟨hk_.1.1, hk_.1.2.1, hk_.1.2.2⟩)); replace HB := Aside0.mk (hb); clear hb))
   (try simp only [Act.put, List.setIfInBounds_toArray, List.set_cons_zero, List.set_cons_succ])
   go_cut [81] (fun v81 wc => ∃ (kq : Nat) (x81_39 : Bool), v81 = .bool x81_39 ∧ Aside0 (laws_FnExactWantsOn.j1 kq l0 a1 l2 t433 t434 t443 x81_39 = some r) ∧ Aside0 (kq ≤ kj11) ∧ Aside0 (Kd.R k76 76 wc w.heap.size (fun k_ => no_ v445 k_) v435 t433) ∧ Aside0 (Kd.R k76 76 wc w.heap.size (fun k_ => no_ v435 k_) v445 t443) ∧ Aside0 (Below w.heap.size w wc))
   case first =>
    have H := HC40.out
    clear HC40
    by_cases c47 : t458 < 0
    ·rw [if_pos c47] at H
     have c47b0 : decide (t458 < 0) = true := decide_eq_true c47
     clear c47
     (first | rw [c47b0] | (simp only [i64_w, i32_w]; rw [c47b0]) | skip)
     have H' := Aside0.mk H
     clear H
     go_wp2
     go_meet
     case rel => exact ⟨_, (true), (by first | rfl | (simp; done) | (simp [*]; done)), H', ⟨by have := HJ11.out; first | omega | exact Nat.le_refl _⟩, ⟨ra HO_7.out⟩, ⟨ra HO_11.out⟩, ⟨hB HB⟩⟩
    rw [if_neg c47] at H
    have c47b0 : decide (t458 < 0) = false := decide_eq_false c47
    clear c47
    (first | rw [c47b0] | (simp only [i64_w, i32_w]; rw [c47b0]) | skip)
    replace H := Option.bind_eq_some_iff.mp H
    obtain ⟨t460, A480, H⟩ := H
    replace H : (if t460 = true then (laws_FnExactWantsOn.j1 kj11 l0 a1 l2 t433 t434 t443 (t444 != t434)) else (laws_FnExactWantsOn.j1 kj11 l0 a1 l2 t433 t434 t443 true)) = some r := H
    have A48 := Aside0.mk A480
    clear A480
    by_cases c49 : t460 = true
    ·subst c49
     rw [if_pos rfl] at H
     have H' := Aside0.mk H
     clear H
     obtain ⟨Ao50, co50, eo50⟩ := Kd.R_slice HO_11.out
     subst eo50
     obtain ⟨Ao51, co51, eo51⟩ := Kd.R_slice HO_7.out
     subst eo51
     go_wp2_with (first | (go_at_call 12; (with_reducible refine (laws_eqHopS.calls kj11 _ _ t443 _ _ t433 true _ ?side1 ?side2 ?side3 ?side4 A48.out).mono ?_); (case side1 => exact ca (Kd.R_reads' HO_11.out).2.2); (case side2 => exact (Kd.R_reads' HO_11.out).2.1); (case side3 => exact ca (Kd.R_reads' HO_7.out).2.2); (case side4 => exact (Kd.R_reads' HO_7.out).2.1); rintro e w52 ⟨rfl, hb⟩; replace HO_7 := rb_ HO_7 hb; replace HO_9 := rb_ HO_9 hb; replace HO_10 := rb_ HO_10 hb; replace HO_11 := rb_ HO_11 hb; replace HO450 := rb_ HO450 hb; replace HO454 := rb_ HO454 hb; replace HB := bst_ HB hb; clear hb))
     go_meet
     case rel => exact ⟨_, ((t444 != t434)), (by first | rfl | (simp; done) | (simp [*]; done)), H', ⟨by have := HJ11.out; first | omega | exact Nat.le_refl _⟩, ⟨ra HO_7.out⟩, ⟨ra HO_11.out⟩, ⟨hB HB⟩⟩
    replace c49 := Bool.eq_false_iff.mpr c49
    subst c49
    rw [if_neg (show ¬ (false = true) by decide)] at H
    have H' := Aside0.mk H
    clear H
    obtain ⟨Ao53, co53, eo53⟩ := Kd.R_slice HO_11.out
    subst eo53
    obtain ⟨Ao54, co54, eo54⟩ := Kd.R_slice HO_7.out
    subst eo54
    go_wp2_with (first | (go_at_call 12; (with_reducible refine (laws_eqHopS.calls kj11 _ _ t443 _ _ t433 false _ ?side1 ?side2 ?side3 ?side4 A48.out).mono ?_); (case side1 => exact ca (Kd.R_reads' HO_11.out).2.2); (case side2 => exact (Kd.R_reads' HO_11.out).2.1); (case side3 => exact ca (Kd.R_reads' HO_7.out).2.2); (case side4 => exact (Kd.R_reads' HO_7.out).2.1); rintro e w55 ⟨rfl, hb⟩; replace HO_7 := rb_ HO_7 hb; replace HO_9 := rb_ HO_9 hb; replace HO_10 := rb_ HO_10 hb; replace HO_11 := rb_ HO_11 hb; replace HO450 := rb_ HO450 hb; replace HO454 := rb_ HO454 hb; replace HB := bst_ HB hb; clear hb))
    go_meet
    case rel => exact ⟨_, (true), (by first | rfl | (simp; done) | (simp [*]; done)), H', ⟨by have := HJ11.out; first | omega | exact Nat.le_refl _⟩, ⟨ra HO_7.out⟩, ⟨ra HO_11.out⟩, ⟨hB HB⟩⟩
   case rest =>
    clear HC40
    try clear c2
    try clear c4
    try clear c4b0
    try clear c4b1
    try clear c5
    try clear c5b0
    try clear c5b1
    try clear c31
    try clear c34
    try clear c37
    obtain ⟨kq, x81_39, rfl, HA, HJ39, HO_7, HO_11, HB⟩ := hcut
    cases kq with
    | zero => exact absurd HA.out (by simp [laws_FnExactWantsOn.j1])
    | succ kj39 =>
     have H := HA.out
     clear HA
     simp only [laws_FnExactWantsOn.j1] at H
     by_cases c56 : x81_39 = true
     ·subst c56
      rw [if_pos rfl] at H
      obtain rfl := Option.some.inj H
      go_wp2
      go_ret
      exact ⟨by first | rfl | (simp [errW_none, errW_some] <;> rfl) | (simp [*, errW_none, errW_some] <;> rfl), by repeat (first | (with_reducible first | exact HB.out | apply below_alloc | apply pw_below_drewN | apply below_drew1) | exact HB.out)⟩
     replace c56 := Bool.eq_false_iff.mpr c56
     subst c56
     rw [if_neg (show ¬ (false = true) by decide)] at H
     replace H := Option.bind_eq_some_iff.mp H
     obtain ⟨⟨t461, t462⟩, A570, H⟩ := H
     replace H : ((laws_heldHopS.f kj39 t462 1).bind fun t463 => (if t463 < 0 then (some false) else (if t463 = t461 then ((laws_toIntS.f kj39 l0).bind fun t464 => ((laws_toIntS.f kj39 l2).bind fun t467 => ((impl_WantsOn.f kj39 t464 a1 t467).bind fun bt470 => ((laws_eqHopS.f kj39 bt470.1 t433).bind fun t474 => (if t474 = true then (laws_FnExactWantsOn.j2 kj39 t462 t461 (bt470.2 != t434)) else (laws_FnExactWantsOn.j2 kj39 t462 t461 true)))))) else (some false)))) = some r := H
     have A57 := Aside0.mk A570
     clear A570
     replace H := Option.bind_eq_some_iff.mp H
     obtain ⟨t463, A580, H⟩ := H
     replace H : (if t463 < 0 then (some false) else (if t463 = t461 then ((laws_toIntS.f kj39 l0).bind fun t464 => ((laws_toIntS.f kj39 l2).bind fun t467 => ((impl_WantsOn.f kj39 t464 a1 t467).bind fun bt470 => ((laws_eqHopS.f kj39 bt470.1 t433).bind fun t474 => (if t474 = true then (laws_FnExactWantsOn.j2 kj39 t462 t461 (bt470.2 != t434)) else (laws_FnExactWantsOn.j2 kj39 t462 t461 true)))))) else (some false))) = some r := H
     have A58 := Aside0.mk A580
     clear A580
     by_cases c59 : t463 < 0
     ·rw [if_pos c59] at H
      have c59b0 : decide (t463 < 0) = true := decide_eq_true c59
      clear c59
      obtain rfl := Option.some.inj H
      obtain ⟨Ao60, co60, eo60⟩ := Kd.R_slice HO_11.out
      subst eo60
      go_wp2_with (first | ((with_reducible refine gate_callee (f := 15) rfl ?_); refine goesL_ (some 84) rfl rfl Try.func15 (by kernel_rfl) rfl #[.slice Ao60 t443.length co60, .int .i64 1] rfl tm_ ?_; (with_reducible refine (laws_markHopS.calls kj39 (fun k_ => some k_ = (.slice Ao60 t443.length co60 : Value).ownBlock) (.slice Ao60 t443.length co60) t443 1 t461 t462 w _ ?side1 ?side2 A57.out).mono ?_); (case side1 => repeat (first | (with_reducible first | exact HB.out | apply below_alloc | apply pw_below_drewN | apply below_drew1) | exact HB.out)); (case side2 => exact Kd.R_tight rfl HO_11.out); rintro e w61 ⟨rfl, hy0, hb, hkp⟩; refine ⟨_, rfl, ?_⟩; replace HO_7 := Aside0.mk (Kd.R_mono (ok' := fun k_ => no_ (.slice Ao60 t443.length co60) k_) (Kd.R_keptB (HO_7.out) hkp (fun k_ hk_ hs_ => (hk_) hs_)) (fun k_ hk_ => hk_.1)); replace HO_11 := Aside0.mk (Kd.R_reok rfl hy0 (fun k_ e_ => HO_11.out.1 k_ e_)); replace HB := Aside0.mk (hb); clear hb) | ((with_reducible refine gate_callee (f := 16) rfl ?_); refine goesL_ (some 87) rfl rfl Try.func16 (by kernel_rfl) rfl #[.slice Ao60 t462.length co60, .int .i64 1] rfl (by (try simp only [List.map_toArray, List.map_cons, List.map_nil]); first | done | (rw [show t462.length = t443.length from (Kd.R_reads' HO_11.out).1.symm] <;> rfl) | rfl | (simp only [List.length_drop, List.length_take]; rfl)) ?_; (with_reducible refine (laws_heldHopS.calls kj39 _ _ t462 1 t463 _ ?side1 ?side2 A58.out).mono ?_); (case side1 => exact ca (Kd.R_reads' HO_11.out).2.2); (case side2 => rw [show t462.length = t443.length from (Kd.R_reads' HO_11.out).1.symm]; exact (Kd.R_reads' HO_11.out).2.1); rintro e w' ⟨rfl, ⟨nd, rfl⟩⟩; refine ⟨_, rfl, ?_⟩))
      go_ret
      exact ⟨by first | rfl | (simp [errW_none, errW_some] <;> rfl) | (simp [*, errW_none, errW_some] <;> rfl), by repeat (first | (with_reducible first | exact HB.out | apply below_alloc | apply pw_below_drewN | apply below_drew1) | exact HB.out)⟩
     rw [if_neg c59] at H
     have c59b0 : decide (t463 < 0) = false := decide_eq_false c59
     clear c59
     by_cases c62 : t463 = t461
     rotate_left
     ·rw [if_neg c62] at H
      have c62b0 : (t463 == t461) = false := beq_eq_false_iff_ne.mpr c62
      have c62b1 : (t463 != t461) = true := bne_iff_ne.mpr c62
      obtain rfl := Option.some.inj H
      obtain ⟨Ao86, co86, eo86⟩ := Kd.R_slice HO_11.out
      subst eo86
      go_wp2_with (first | ((with_reducible refine gate_callee (f := 15) rfl ?_); refine goesL_ (some 84) rfl rfl Try.func15 (by kernel_rfl) rfl #[.slice Ao86 t443.length co86, .int .i64 1] rfl tm_ ?_; (with_reducible refine (laws_markHopS.calls kj39 (fun k_ => some k_ = (.slice Ao86 t443.length co86 : Value).ownBlock) (.slice Ao86 t443.length co86) t443 1 t461 t462 w _ ?side1 ?side2 A57.out).mono ?_); (case side1 => repeat (first | (with_reducible first | exact HB.out | apply below_alloc | apply pw_below_drewN | apply below_drew1) | exact HB.out)); (case side2 => exact Kd.R_tight rfl HO_11.out); rintro e w87 ⟨rfl, hy0, hb, hkp⟩; refine ⟨_, rfl, ?_⟩; replace HO_7 := Aside0.mk (Kd.R_mono (ok' := fun k_ => no_ (.slice Ao86 t443.length co86) k_) (Kd.R_keptB (HO_7.out) hkp (fun k_ hk_ hs_ => (hk_) hs_)) (fun k_ hk_ => hk_.1)); replace HO_11 := Aside0.mk (Kd.R_reok rfl hy0 (fun k_ e_ => HO_11.out.1 k_ e_)); replace HB := Aside0.mk (hb); clear hb) | ((with_reducible refine gate_callee (f := 16) rfl ?_); refine goesL_ (some 87) rfl rfl Try.func16 (by kernel_rfl) rfl #[.slice Ao86 t462.length co86, .int .i64 1] rfl (by (try simp only [List.map_toArray, List.map_cons, List.map_nil]); first | done | (rw [show t462.length = t443.length from (Kd.R_reads' HO_11.out).1.symm] <;> rfl) | rfl | (simp only [List.length_drop, List.length_take]; rfl)) ?_; (with_reducible refine (laws_heldHopS.calls kj39 _ _ t462 1 t463 _ ?side1 ?side2 A58.out).mono ?_); (case side1 => exact ca (Kd.R_reads' HO_11.out).2.2); (case side2 => rw [show t462.length = t443.length from (Kd.R_reads' HO_11.out).1.symm]; exact (Kd.R_reads' HO_11.out).2.1); rintro e w' ⟨rfl, ⟨nd, rfl⟩⟩; refine ⟨_, rfl, ?_⟩))
      go_ret
      exact ⟨by first | rfl | (simp [errW_none, errW_some] <;> rfl) | (simp [*, errW_none, errW_some] <;> rfl), by repeat (first | (with_reducible first | exact HB.out | apply below_alloc | apply pw_below_drewN | apply below_drew1) | exact HB.out)⟩
     rw [if_pos c62] at H
     have c62b0 : (t463 == t461) = true := beq_iff_eq.mpr c62
     have c62b1 : (t463 != t461) = false := bne_eq_false_iff_eq.mpr c62
     clear c62
     replace H := Option.bind_eq_some_iff.mp H
     obtain ⟨t464, A630, H⟩ := H
     replace H : ((laws_toIntS.f kj39 l2).bind fun t467 => ((impl_WantsOn.f kj39 t464 a1 t467).bind fun bt470 => ((laws_eqHopS.f kj39 bt470.1 t433).bind fun t474 => (if t474 = true then (laws_FnExactWantsOn.j2 kj39 t462 t461 (bt470.2 != t434)) else (laws_FnExactWantsOn.j2 kj39 t462 t461 true))))) = some r := H
     have A63 := Aside0.mk A630
     clear A630
     replace H := Option.bind_eq_some_iff.mp H
     obtain ⟨t467, A640, H⟩ := H
     replace H : ((impl_WantsOn.f kj39 t464 a1 t467).bind fun bt470 => ((laws_eqHopS.f kj39 bt470.1 t433).bind fun t474 => (if t474 = true then (laws_FnExactWantsOn.j2 kj39 t462 t461 (bt470.2 != t434)) else (laws_FnExactWantsOn.j2 kj39 t462 t461 true)))) = some r := H
     have A64 := Aside0.mk A640
     clear A640
     replace H := Option.bind_eq_some_iff.mp H
     obtain ⟨⟨t470, t471⟩, A650, H⟩ := H
     replace H : ((laws_eqHopS.f kj39 t470 t433).bind fun t474 => (if t474 = true then (laws_FnExactWantsOn.j2 kj39 t462 t461 (t471 != t434)) else (laws_FnExactWantsOn.j2 kj39 t462 t461 true))) = some r := H
     have A65 := Aside0.mk A650
     clear A650
     have HC66 := Aside0.mk H
     clear H
     obtain ⟨Ao67, co67, eo67⟩ := Kd.R_slice HO_11.out
     subst eo67
     go_upto_region 29 with (first | ((with_reducible refine gate_callee (f := 15) rfl ?_); refine goesL_ (some 84) rfl rfl Try.func15 (by kernel_rfl) rfl #[.slice Ao67 t443.length co67, .int .i64 1] rfl tm_ ?_; (with_reducible refine (laws_markHopS.calls kj39 (fun k_ => some k_ = (.slice Ao67 t443.length co67 : Value).ownBlock) (.slice Ao67 t443.length co67) t443 1 t461 t462 w _ ?side1 ?side2 A57.out).mono ?_); (case side1 => repeat (first | (with_reducible first | exact HB.out | apply below_alloc | apply pw_below_drewN | apply below_drew1) | exact HB.out)); (case side2 => exact Kd.R_tight rfl HO_11.out); rintro e w68 ⟨rfl, hy0, hb, hkp⟩; refine ⟨_, rfl, ?_⟩; replace HO_7 := Aside0.mk (Kd.R_mono (ok' := fun k_ => no_ (.slice Ao67 t443.length co67) k_) (Kd.R_keptB (HO_7.out) hkp (fun k_ hk_ hs_ => (hk_) hs_)) (fun k_ hk_ => hk_.1)); replace HO_11 := Aside0.mk (Kd.R_reok rfl hy0 (fun k_ e_ => HO_11.out.1 k_ e_)); replace HB := Aside0.mk (hb); clear hb) | ((with_reducible refine gate_callee (f := 16) rfl ?_); refine goesL_ (some 87) rfl rfl Try.func16 (by kernel_rfl) rfl #[.slice Ao67 t462.length co67, .int .i64 1] rfl (by (try simp only [List.map_toArray, List.map_cons, List.map_nil]); first | done | (rw [show t462.length = t443.length from (Kd.R_reads' HO_11.out).1.symm] <;> rfl) | rfl | (simp only [List.length_drop, List.length_take]; rfl)) ?_; (with_reducible refine (laws_heldHopS.calls kj39 _ _ t462 1 t463 _ ?side1 ?side2 A58.out).mono ?_); (case side1 => exact ca (Kd.R_reads' HO_11.out).2.2); (case side2 => rw [show t462.length = t443.length from (Kd.R_reads' HO_11.out).1.symm]; exact (Kd.R_reads' HO_11.out).2.1); rintro e w' ⟨rfl, ⟨nd, rfl⟩⟩; refine ⟨_, rfl, ?_⟩) | ((with_reducible refine gate_callee (f := 10) rfl ?_); refine goesL_ (some 95) rfl rfl Try.func10 (by kernel_rfl) rfl #[.slice A0 l0.length c0] rfl tm_ ?_; (with_reducible refine (laws_toIntS.calls kj39 _ _ l0 t464 _ ?side1 ?side2 A63.out).mono ?_); (case side1 => exact ca (Kd.C_below HR0.out (hB HB))); (case side2 => exact HC0.out); rintro e w69 ⟨v465, rfl, ho0, hb⟩; refine ⟨_, rfl, ?_⟩; have HO466 := Aside0.mk (Kd.R_lower ho0 (below_size (hB HB))); replace HO_7 := rb_ HO_7 hb; replace HO_11 := rb_ HO_11 hb; replace HB := bst_ HB hb; clear hb ho0) | ((with_reducible refine gate_callee (f := 10) rfl ?_); refine goesL_ (some 98) rfl rfl Try.func10 (by kernel_rfl) rfl #[.slice A2 l2.length c2] rfl tm_ ?_; (with_reducible refine (laws_toIntS.calls kj39 _ _ l2 t467 _ ?side1 ?side2 A64.out).mono ?_); (case side1 => exact ca (Kd.C_below HR2.out HB.out)); (case side2 => exact HC2.out); rintro e w70 ⟨v468, rfl, ho0, hb⟩; refine ⟨_, rfl, ?_⟩; have HO469 := Aside0.mk (Kd.R_lower (Kd.R_new' ho0 (rl_ HO466)) (below_size (hB HB))); replace HO_7 := rb_ HO_7 hb; replace HO_11 := rb_ HO_11 hb; replace HO466 := re_ HO466 ho0 hb; replace HB := bst_ HB hb; clear hb ho0; obtain ⟨Ao71, co71, eo71⟩ := Kd.R_slice HO466.out; subst eo71; obtain ⟨Ao72, co72, eo72⟩ := Kd.R_slice HO469.out; subst eo72) | ((with_reducible refine gate_callee (f := 11) rfl ?_); refine goesL_ (some 99) rfl rfl Try.func11 (by kernel_rfl) rfl #[.slice Ao71 t464.length co71, .int .i64 a1, .slice Ao72 t467.length co72] rfl tm_ ?_; (with_reducible refine (impl_WantsOn.calls kj39 _ _ t464 a1 _ _ t467 t470 t471 _ ?side1 ?side2 ?side3 ?side4 A65.out).mono ?_); (case side1 => exact ca (Kd.R_reads' HO466.out).2.2); (case side2 => exact (Kd.R_reads' HO466.out).2.1); (case side3 => exact ca (Kd.R_reads' HO469.out).2.2); (case side4 => exact (Kd.R_reads' HO469.out).2.1); rintro e w73 ⟨v472, rfl, ho0, hb⟩; refine ⟨_, rfl, ?_⟩; have HO473 := Aside0.mk (Kd.R_lower (Kd.R_new' (Kd.R_new' ho0 (rl_ HO_7)) (rl_ HO_11)) (below_size (hB HB))); replace HO_7 := re_ HO_7 ho0 hb; replace HO_11 := re_ HO_11 ho0 hb; replace HO466 := rb_ HO466 hb; replace HO469 := rb_ HO469 hb; replace HB := bst_ HB hb; clear hb ho0))
     (try simp only [Act.put, List.setIfInBounds_toArray, List.set_cons_zero, List.set_cons_succ])
     go_cut [110] (fun v110 wc => ∃ (kq : Nat) (x110_65 : Bool), v110 = .bool x110_65 ∧ Aside0 (laws_FnExactWantsOn.j2 kq t462 t461 x110_65 = some r) ∧ Aside0 (kq ≤ kj39) ∧ Aside0 (Kd.R k76 76 wc w.heap.size (fun _ => True) (.slice Ao67 t443.length co67) t462) ∧ Aside0 (Below w.heap.size w wc))
     case first =>
      have H := HC66.out
      clear HC66
      replace H := Option.bind_eq_some_iff.mp H
      obtain ⟨t474, A740, H⟩ := H
      replace H : (if t474 = true then (laws_FnExactWantsOn.j2 kj39 t462 t461 (t471 != t434)) else (laws_FnExactWantsOn.j2 kj39 t462 t461 true)) = some r := H
      have A74 := Aside0.mk A740
      clear A740
      by_cases c75 : t474 = true
      ·subst c75
       rw [if_pos rfl] at H
       have H' := Aside0.mk H
       clear H
       obtain ⟨Ao76, co76, eo76⟩ := Kd.R_slice HO473.out
       subst eo76
       obtain ⟨Ao77, co77, eo77⟩ := Kd.R_slice HO_7.out
       subst eo77
       go_wp2_with (first | ((with_reducible refine gate_callee (f := 12) rfl ?_); refine goesL_ (some 104) rfl rfl Try.func12 (by kernel_rfl) rfl #[.slice Ao76 t470.length co76, .slice Ao77 t433.length co77] rfl tm_ ?_; (with_reducible refine (laws_eqHopS.calls kj39 _ _ t470 _ _ t433 true _ ?side1 ?side2 ?side3 ?side4 A74.out).mono ?_); (case side1 => exact ca (Kd.R_reads' HO473.out).2.2); (case side2 => exact (Kd.R_reads' HO473.out).2.1); (case side3 => exact ca (Kd.R_reads' HO_7.out).2.2); (case side4 => exact (Kd.R_reads' HO_7.out).2.1); rintro e w78 ⟨rfl, hb⟩; refine ⟨_, rfl, ?_⟩; replace HO_7 := rb_ HO_7 hb; replace HO_11 := rb_ HO_11 hb; replace HO466 := rb_ HO466 hb; replace HO469 := rb_ HO469 hb; replace HO473 := rb_ HO473 hb; replace HB := bst_ HB hb; clear hb))
       go_meet
       case rel => exact ⟨_, ((t471 != t434)), (by first | rfl | (simp; done) | (simp [*]; done)), H', ⟨by have := HJ11.out; have := HJ39.out; first | omega | exact Nat.le_refl _⟩, rm_ HO_11 (fun _ hk => trivial), ⟨hB HB⟩⟩
      replace c75 := Bool.eq_false_iff.mpr c75
      subst c75
      rw [if_neg (show ¬ (false = true) by decide)] at H
      have H' := Aside0.mk H
      clear H
      obtain ⟨Ao79, co79, eo79⟩ := Kd.R_slice HO473.out
      subst eo79
      obtain ⟨Ao80, co80, eo80⟩ := Kd.R_slice HO_7.out
      subst eo80
      go_wp2_with (first | ((with_reducible refine gate_callee (f := 12) rfl ?_); refine goesL_ (some 104) rfl rfl Try.func12 (by kernel_rfl) rfl #[.slice Ao79 t470.length co79, .slice Ao80 t433.length co80] rfl tm_ ?_; (with_reducible refine (laws_eqHopS.calls kj39 _ _ t470 _ _ t433 false _ ?side1 ?side2 ?side3 ?side4 A74.out).mono ?_); (case side1 => exact ca (Kd.R_reads' HO473.out).2.2); (case side2 => exact (Kd.R_reads' HO473.out).2.1); (case side3 => exact ca (Kd.R_reads' HO_7.out).2.2); (case side4 => exact (Kd.R_reads' HO_7.out).2.1); rintro e w81 ⟨rfl, hb⟩; refine ⟨_, rfl, ?_⟩; replace HO_7 := rb_ HO_7 hb; replace HO_11 := rb_ HO_11 hb; replace HO466 := rb_ HO466 hb; replace HO469 := rb_ HO469 hb; replace HO473 := rb_ HO473 hb; replace HB := bst_ HB hb; clear hb))
      go_meet
      case rel => exact ⟨_, (true), (by first | rfl | (simp; done) | (simp [*]; done)), H', ⟨by have := HJ11.out; have := HJ39.out; first | omega | exact Nat.le_refl _⟩, rm_ HO_11 (fun _ hk => trivial), ⟨hB HB⟩⟩
     case rest =>
      clear HC66
      try clear c2
      try clear c4
      try clear c4b0
      try clear c4b1
      try clear c5
      try clear c5b0
      try clear c5b1
      try clear c31
      try clear c34
      try clear c37
      try clear c56
      try clear c59
      try clear c59b0
      try clear c62
      try clear c62b0
      try clear c62b1
      obtain ⟨kq, x110_65, rfl, HA, HJ65, HO_11, HB⟩ := hcut
      have hl11_65 := (Kd.R_reads' HO_11.out).1
      rw [hl11_65] at HO_11
      (try simp only [hl11_65])
      cases kq with
      | zero => exact absurd HA.out (by simp [laws_FnExactWantsOn.j2])
      | succ kj65 =>
       have H := HA.out
       clear HA
       simp only [laws_FnExactWantsOn.j2] at H
       by_cases c82 : x110_65 = true
       ·subst c82
        rw [if_pos rfl] at H
        obtain rfl := Option.some.inj H
        go_wp2
        go_ret
        exact ⟨by first | rfl | (simp [errW_none, errW_some] <;> rfl) | (simp [*, errW_none, errW_some] <;> rfl), by repeat (first | (with_reducible first | exact HB.out | apply below_alloc | apply pw_below_drewN | apply below_drew1) | exact HB.out)⟩
       replace c82 := Bool.eq_false_iff.mpr c82
       subst c82
       rw [if_neg (show ¬ (false = true) by decide)] at H
       replace H := Option.bind_eq_some_iff.mp H
       obtain ⟨t475, A830, H⟩ := H
       replace H : (if t475 < 0 then (some false) else (if t475 = t461 then (some true) else (some false))) = some r := H
       have A83 := Aside0.mk A830
       clear A830
       by_cases c84 : t475 < 0
       ·rw [if_pos c84] at H
        have c84b0 : decide (t475 < 0) = true := decide_eq_true c84
        clear c84
        obtain rfl := Option.some.inj H
        go_wp2_with (first | ((with_reducible refine gate_callee (f := 16) rfl ?_); refine goesL_ (some 113) rfl rfl Try.func16 (by kernel_rfl) rfl #[.slice Ao67 t462.length co67, .int .i64 1] rfl tm_ ?_; (with_reducible refine (laws_heldHopS.calls kj65 _ _ t462 1 t475 _ ?side1 ?side2 A83.out).mono ?_); (case side1 => exact ca (Kd.R_reads' HO_11.out).2.2); (case side2 => exact (Kd.R_reads' HO_11.out).2.1); rintro e w' ⟨rfl, ⟨nd, rfl⟩⟩; refine ⟨_, rfl, ?_⟩))
        go_ret
        exact ⟨by first | rfl | (simp [errW_none, errW_some] <;> rfl) | (simp [*, errW_none, errW_some] <;> rfl), by repeat (first | (with_reducible first | exact HB.out | apply below_alloc | apply pw_below_drewN | apply below_drew1) | exact HB.out)⟩
       rw [if_neg c84] at H
       have c84b0 : decide (t475 < 0) = false := decide_eq_false c84
       clear c84
       by_cases c85 : t475 = t461
       rotate_left
       ·rw [if_neg c85] at H
        have c85b0 : (t475 == t461) = false := beq_eq_false_iff_ne.mpr c85
        have c85b1 : (t475 != t461) = true := bne_iff_ne.mpr c85
        obtain rfl := Option.some.inj H
        go_wp2_with (first | ((with_reducible refine gate_callee (f := 16) rfl ?_); refine goesL_ (some 113) rfl rfl Try.func16 (by kernel_rfl) rfl #[.slice Ao67 t462.length co67, .int .i64 1] rfl tm_ ?_; (with_reducible refine (laws_heldHopS.calls kj65 _ _ t462 1 t475 _ ?side1 ?side2 A83.out).mono ?_); (case side1 => exact ca (Kd.R_reads' HO_11.out).2.2); (case side2 => exact (Kd.R_reads' HO_11.out).2.1); rintro e w' ⟨rfl, ⟨nd, rfl⟩⟩; refine ⟨_, rfl, ?_⟩))
        go_ret
        exact ⟨by first | rfl | (simp [errW_none, errW_some] <;> rfl) | (simp [*, errW_none, errW_some] <;> rfl), by repeat (first | (with_reducible first | exact HB.out | apply below_alloc | apply pw_below_drewN | apply below_drew1) | exact HB.out)⟩
       rw [if_pos c85] at H
       have c85b0 : (t475 == t461) = true := beq_iff_eq.mpr c85
       have c85b1 : (t475 != t461) = false := bne_eq_false_iff_eq.mpr c85
       clear c85
       obtain rfl := Option.some.inj H
       go_wp2_with (first | ((with_reducible refine gate_callee (f := 16) rfl ?_); refine goesL_ (some 113) rfl rfl Try.func16 (by kernel_rfl) rfl #[.slice Ao67 t462.length co67, .int .i64 1] rfl tm_ ?_; (with_reducible refine (laws_heldHopS.calls kj65 _ _ t462 1 t475 _ ?side1 ?side2 A83.out).mono ?_); (case side1 => exact ca (Kd.R_reads' HO_11.out).2.2); (case side2 => exact (Kd.R_reads' HO_11.out).2.1); rintro e w' ⟨rfl, ⟨nd, rfl⟩⟩; refine ⟨_, rfl, ?_⟩))
       go_ret
       exact ⟨by first | rfl | (simp [errW_none, errW_some] <;> rfl) | (simp [*, errW_none, errW_some] <;> rfl), by repeat (first | (with_reducible first | exact HB.out | apply below_alloc | apply pw_below_drewN | apply below_drew1) | exact HB.out)⟩

/-- THE ONE PURE STATEMENT of laws_FnExactWantsOn: yours. -/
def laws_FnExactWantsOn.Pure : Prop := ∀ (l0 : List Int) (a1 : Int) (l2 : List Int), l0.length ≤ maxLen → l0.length * 8 ≤ 140737488351232 → (∀ x ∈ l0, (Lit.int .i64 x).wf = true) → (Lit.int .i64 a1).wf = true → l2.length ≤ maxLen → l2.length * 8 ≤ 140737488351232 → (∀ x ∈ l2, (Lit.int .i64 x).wf = true) → ∃ k, laws_FnExactWantsOn.f k l0 a1 l2 = some true
theorem laws_FnExactWantsOn.walk (P : laws_FnExactWantsOn.Pure) (a0 : Option Addr) (len0 cap0 : Nat) (z0 : List Int) (a1 : Int) (a2 : Option Addr) (len2 cap2 : Nat) (z2 : List Int) (w : World) (w0 : (a0 = none ∧ len0 = 0 ∧ cap0 = 0 ∧ z0 = []) ∨ ∃ x, a0 = some x ∧ len0 ≤ cap0 ∧ cap0 ≤ maxLen ∧ z0.length = cap0 ∧ (∀ i, i < z0.length → w.cell? (x.add i) = some (.int .i64 (z0.getD i 0))) ∧ ∀ n ∈ z0, (Lit.int .i64 n).wf = true) (y0 : len0 * 8 ≤ 140737488351232) (w1 : (Lit.int .i64 a1).wf = true) (w2 : (a2 = none ∧ len2 = 0 ∧ cap2 = 0 ∧ z2 = []) ∨ ∃ x, a2 = some x ∧ len2 ≤ cap2 ∧ cap2 ≤ maxLen ∧ z2.length = cap2 ∧ (∀ i, i < z2.length → w.cell? (x.add i) = some (.int .i64 (z2.getD i 0))) ∧ ∀ n ∈ z2, (Lit.int .i64 n).wf = true) (y2 : len2 * 8 ≤ 140737488351232) :
  Calls Try.prog 3 #[.slice a0 len0 cap0, .int .i64 a1, .slice a2 len2 cap2] w fun e w' => e = .returned (.bool true) ∧ Below w.heap.size w w' := by
 obtain ⟨l0, rfl, hr0, hm0, hw0, hc0⟩ := ReadsInt.ofRowC w0
 obtain ⟨l2, rfl, hr2, hm2, hw2, hc2⟩ := ReadsInt.ofRowC w2
 obtain ⟨k, h⟩ := P l0 a1 l2 hm0 y0 hw0 w1 hm2 y2 hw2
 refine (laws_FnExactWantsOn.calls k _ _ l0 a1 _ _ l2 true w (Kd.C_of_reads (d := (0 : Int)) (h1 := fun _ => rfl) hr0) hc0 (Kd.C_of_reads (d := (0 : Int)) (h1 := fun _ => rfl) hr2) hc2 h).mono ?_
 rintro e w' ⟨rfl, hd⟩
 exact ⟨rfl, hd⟩

end Go.Proofs.Ytfkjnpgpofcinaa.P
