import Derived.Test.YtolncjkfcmbieaaF0
import Derived.Test.YtolncjkfcmbieaaF38
import Derived.Test.YtolncjkfcmbieaaF47
import Derived.Test.YtolncjkfcmbieaaF48
import Derived.Test.YtolncjkfcmbieaaF49
namespace Go.Proofs.Ytolncjkfcmbieaa.P
open Go.RowKit Go.Proofs.YtolncjkfcmbieaaW.PrintWords Go.Proofs.YtolncjkfcmbieaaW.PrintLast Go.Proofs.YtolncjkfcmbieaaW.PrintMore
attribute [local go_sem] max2_int min2_int max_two min_two max_three min_three max_four min_four   -- for this text's walks alone
set_option linter.unusedVariables false
set_option linter.unusedSimpArgs false

mutual
def laws_FnExactPlayPair.j0 : Nat → List (S43) → List Bool → Bool → List (S51) → List Bool → Bool → Bool → List Int → List Int → List (S127) → List Int → List Int → List (S127) → Option (Bool)
 | 0, _, _, _, _, _, _, _, _, _, _, _, _, _ => none
 | k + 1, x0, x5, x6, x7, x9, x10, x51, x1498000, x1498001, x1498002, x1515000, x1515001, x1515002 => if x51 = true then (some false) else ((laws_toPairStepS.f k x0).bind fun t1517 => ((laws_eqPairStepS.f k x7 t1517).bind fun t1520 => (if t1520 = true then ((laws_markPairStepS.f k x7 1).bind fun bt1521 => (if bt1521.1 < 0 then (laws_FnExactPlayPair.j1 k x0 x5 x6 x9 true x1498000 x1498001 x1498002 x1515000 x1515001 x1515002) else ((laws_eqPair.f k x1515000 x1515001 x1515002 x1498000 x1498001 x1498002).bind fun t1523 => (if t1523 = true then ((laws_eqBoolS.f k x9 x5).bind fun t1524 => (if t1524 = true then (laws_FnExactPlayPair.j1 k x0 x5 x6 x9 (x10 != x6) x1498000 x1498001 x1498002 x1515000 x1515001 x1515002) else (laws_FnExactPlayPair.j1 k x0 x5 x6 x9 true x1498000 x1498001 x1498002 x1515000 x1515001 x1515002))) else (laws_FnExactPlayPair.j1 k x0 x5 x6 x9 true x1498000 x1498001 x1498002 x1515000 x1515001 x1515002))))) else (some false))))
def laws_FnExactPlayPair.j1 : Nat → List (S43) → List Bool → Bool → List Bool → Bool → List Int → List Int → List (S127) → List Int → List Int → List (S127) → Option (Bool)
 | 0, _, _, _, _, _, _, _, _, _, _, _ => none
 | k + 1, x0, x5, x6, x9, x78, x1498000, x1498001, x1498002, x1515000, x1515001, x1515002 => if x78 = true then (some false) else ((laws_markPair.f k x1515000 x1515001 x1515002 1).bind fun bt1525 => ((laws_markBoolS.f k x9 bt1525.1).bind fun bt1529 => ((laws_heldPair.f k bt1525.2.1 bt1525.2.2.1 bt1525.2.2.2 1).bind fun t1531 => (if t1531 < 0 then (some false) else ((laws_heldBoolS.f k bt1529.2 t1531).bind fun t1532 => (if t1532 < 0 then (some false) else (if t1532 = bt1529.1 then ((laws_toPairStepS.f k x0).bind fun t1533 => ((impl_PlayPair.f k t1533).bind fun bt1536 => ((laws_eqPair.f k bt1536.1 bt1536.2.1 bt1536.2.2.1 x1498000 x1498001 x1498002).bind fun t1550 => (if t1550 = true then ((laws_eqBoolS.f k bt1536.2.2.2.1 x5).bind fun t1551 => (if t1551 = true then (laws_FnExactPlayPair.j2 k bt1529.2 bt1529.1 (bt1536.2.2.2.2 != x6) bt1525.2.1 bt1525.2.2.1 bt1525.2.2.2) else (laws_FnExactPlayPair.j2 k bt1529.2 bt1529.1 true bt1525.2.1 bt1525.2.2.1 bt1525.2.2.2))) else (laws_FnExactPlayPair.j2 k bt1529.2 bt1529.1 true bt1525.2.1 bt1525.2.2.1 bt1525.2.2.2))))) else (some false))))))))
def laws_FnExactPlayPair.j2 : Nat → List Bool → Int → Bool → List Int → List Int → List (S127) → Option (Bool)
 | 0, _, _, _, _, _, _ => none
 | k + 1, x9, x12, x119, x1515000, x1515001, x1515002 => if x119 = true then (some false) else ((laws_heldPair.f k x1515000 x1515001 x1515002 1).bind fun t1552 => (if t1552 < 0 then (some false) else ((laws_heldBoolS.f k x9 t1552).bind fun t1553 => (if t1553 < 0 then (some false) else (if t1553 = x12 then (some true) else (some false))))))
end
def laws_FnExactPlayPair.f (k : Nat) (l0 : List (S43)) : Option (Bool) := (laws_szPairStepS.f l0 1048576).bind fun t1480 => (if t1480 < 0 then (some true) else ((laws_toPairStepS.f k l0).bind fun t1481 => ((spec_PlayPair.f k t1481).bind fun bt1484 => ((laws_toPairStepS.f k l0).bind fun t1498 => ((impl_PlayPair.f k t1498).bind fun bt1501 => ((laws_eqPair.f k bt1501.1 bt1501.2.1 bt1501.2.2.1 bt1484.1 bt1484.2.1 bt1484.2.2.1).bind fun t1515 => (if t1515 = true then ((laws_eqBoolS.f k bt1501.2.2.2.1 bt1484.2.2.2.1).bind fun t1516 => (if t1516 = true then (laws_FnExactPlayPair.j0 k l0 bt1484.2.2.2.1 bt1484.2.2.2.2 t1498 bt1501.2.2.2.1 bt1501.2.2.2.2 (bt1501.2.2.2.2 != bt1484.2.2.2.2) bt1484.1 bt1484.2.1 bt1484.2.2.1 bt1501.1 bt1501.2.1 bt1501.2.2.1) else (laws_FnExactPlayPair.j0 k l0 bt1484.2.2.2.1 bt1484.2.2.2.2 t1498 bt1501.2.2.2.1 bt1501.2.2.2.2 true bt1484.1 bt1484.2.1 bt1484.2.2.1 bt1501.1 bt1501.2.1 bt1501.2.2.1))) else (laws_FnExactPlayPair.j0 k l0 bt1484.2.2.2.1 bt1484.2.2.2.2 t1498 bt1501.2.2.2.1 bt1501.2.2.2.2 true bt1484.1 bt1484.2.1 bt1484.2.2.1 bt1501.1 bt1501.2.1 bt1501.2.2.1))))))))
theorem laws_FnExactPlayPair.mono_l : ∀ k, (∀ y0 y1 y2 y3 y4 y5 y6 y7 y8 y9 y10 y11 y12, LeO (laws_FnExactPlayPair.j0 k y0 y1 y2 y3 y4 y5 y6 y7 y8 y9 y10 y11 y12) (laws_FnExactPlayPair.j0 (k + 1) y0 y1 y2 y3 y4 y5 y6 y7 y8 y9 y10 y11 y12)) ∧ (∀ y0 y1 y2 y3 y4 y5 y6 y7 y8 y9 y10, LeO (laws_FnExactPlayPair.j1 k y0 y1 y2 y3 y4 y5 y6 y7 y8 y9 y10) (laws_FnExactPlayPair.j1 (k + 1) y0 y1 y2 y3 y4 y5 y6 y7 y8 y9 y10)) ∧ (∀ y0 y1 y2 y3 y4 y5, LeO (laws_FnExactPlayPair.j2 k y0 y1 y2 y3 y4 y5) (laws_FnExactPlayPair.j2 (k + 1) y0 y1 y2 y3 y4 y5))
 | 0 => ⟨fun _ _ _ _ _ _ _ _ _ _ _ _ _ r h => by simp [laws_FnExactPlayPair.j0] at h, fun _ _ _ _ _ _ _ _ _ _ _ r h => by simp [laws_FnExactPlayPair.j1] at h, fun _ _ _ _ _ _ r h => by simp [laws_FnExactPlayPair.j2] at h⟩
 | k + 1 => by
  obtain ⟨ih0, ih1, ih2⟩ := laws_FnExactPlayPair.mono_l k
  refine ⟨?_, ?_, ?_⟩
  ·intro y0 y1 y2 y3 y4 y5 y6 y7 y8 y9 y10 y11 y12
   unfold laws_FnExactPlayPair.j0
   repeat' first
   | (with_reducible exact ih0 _ _ _ _ _ _ _ _ _ _ _ _ _)
   | (with_reducible exact ih1 _ _ _ _ _ _ _ _ _ _ _)
   | (with_reducible exact ih2 _ _ _ _ _ _)
   | (with_reducible exact impl_PlayPair.mono _ _)
   | (with_reducible exact laws_eqBoolS.mono _ _ _)
   | (with_reducible exact laws_eqPair.mono _ _ _ _ _ _ _)
   | (with_reducible exact laws_eqPairStepS.mono _ _ _)
   | (with_reducible exact laws_heldBoolS.mono _ _ _)
   | (with_reducible exact laws_heldPair.mono _ _ _ _ _)
   | (with_reducible exact laws_markBoolS.mono _ _ _)
   | (with_reducible exact laws_markPair.mono _ _ _ _ _)
   | (with_reducible exact laws_markPairStepS.mono _ _ _)
   | (with_reducible exact laws_toPairStepS.mono _ _)
   | (with_reducible exact spec_PlayPair.mono _ _)
   | (with_reducible exact LeO.refl _)
   | (with_reducible exact LeO.none _)
   | (with_reducible refine LeO.ite ?_ ?_)
   | (with_reducible refine LeO.bind ?_ (fun _ => ?_))
  ·intro y0 y1 y2 y3 y4 y5 y6 y7 y8 y9 y10
   unfold laws_FnExactPlayPair.j1
   repeat' first
   | (with_reducible exact ih0 _ _ _ _ _ _ _ _ _ _ _ _ _)
   | (with_reducible exact ih1 _ _ _ _ _ _ _ _ _ _ _)
   | (with_reducible exact ih2 _ _ _ _ _ _)
   | (with_reducible exact impl_PlayPair.mono _ _)
   | (with_reducible exact laws_eqBoolS.mono _ _ _)
   | (with_reducible exact laws_eqPair.mono _ _ _ _ _ _ _)
   | (with_reducible exact laws_eqPairStepS.mono _ _ _)
   | (with_reducible exact laws_heldBoolS.mono _ _ _)
   | (with_reducible exact laws_heldPair.mono _ _ _ _ _)
   | (with_reducible exact laws_markBoolS.mono _ _ _)
   | (with_reducible exact laws_markPair.mono _ _ _ _ _)
   | (with_reducible exact laws_markPairStepS.mono _ _ _)
   | (with_reducible exact laws_toPairStepS.mono _ _)
   | (with_reducible exact spec_PlayPair.mono _ _)
   | (with_reducible exact LeO.refl _)
   | (with_reducible exact LeO.none _)
   | (with_reducible refine LeO.ite ?_ ?_)
   | (with_reducible refine LeO.bind ?_ (fun _ => ?_))
  ·intro y0 y1 y2 y3 y4 y5
   unfold laws_FnExactPlayPair.j2
   repeat' first
   | (with_reducible exact ih0 _ _ _ _ _ _ _ _ _ _ _ _ _)
   | (with_reducible exact ih1 _ _ _ _ _ _ _ _ _ _ _)
   | (with_reducible exact ih2 _ _ _ _ _ _)
   | (with_reducible exact impl_PlayPair.mono _ _)
   | (with_reducible exact laws_eqBoolS.mono _ _ _)
   | (with_reducible exact laws_eqPair.mono _ _ _ _ _ _ _)
   | (with_reducible exact laws_eqPairStepS.mono _ _ _)
   | (with_reducible exact laws_heldBoolS.mono _ _ _)
   | (with_reducible exact laws_heldPair.mono _ _ _ _ _)
   | (with_reducible exact laws_markBoolS.mono _ _ _)
   | (with_reducible exact laws_markPair.mono _ _ _ _ _)
   | (with_reducible exact laws_markPairStepS.mono _ _ _)
   | (with_reducible exact laws_toPairStepS.mono _ _)
   | (with_reducible exact spec_PlayPair.mono _ _)
   | (with_reducible exact LeO.refl _)
   | (with_reducible exact LeO.none _)
   | (with_reducible refine LeO.ite ?_ ?_)
   | (with_reducible refine LeO.bind ?_ (fun _ => ?_))
theorem laws_FnExactPlayPair.mono : ∀ a0 k, LeO (laws_FnExactPlayPair.f k a0) (laws_FnExactPlayPair.f (k + 1) a0) := by
 intro a0 k
 obtain ⟨ih0, ih1, ih2⟩ := laws_FnExactPlayPair.mono_l k
 unfold laws_FnExactPlayPair.f
 repeat' first
   | (with_reducible exact ih0 _ _ _ _ _ _ _ _ _ _ _ _ _)
   | (with_reducible exact ih1 _ _ _ _ _ _ _ _ _ _ _)
   | (with_reducible exact ih2 _ _ _ _ _ _)
   | (with_reducible exact impl_PlayPair.mono _ _)
   | (with_reducible exact laws_eqBoolS.mono _ _ _)
   | (with_reducible exact laws_eqPair.mono _ _ _ _ _ _ _)
   | (with_reducible exact laws_eqPairStepS.mono _ _ _)
   | (with_reducible exact laws_heldBoolS.mono _ _ _)
   | (with_reducible exact laws_heldPair.mono _ _ _ _ _)
   | (with_reducible exact laws_markBoolS.mono _ _ _)
   | (with_reducible exact laws_markPair.mono _ _ _ _ _)
   | (with_reducible exact laws_markPairStepS.mono _ _ _)
   | (with_reducible exact laws_toPairStepS.mono _ _)
   | (with_reducible exact spec_PlayPair.mono _ _)
   | (with_reducible exact LeO.refl _)
   | (with_reducible exact LeO.none _)
   | (with_reducible refine LeO.ite ?_ ?_)
   | (with_reducible refine LeO.bind ?_ (fun _ => ?_))
set_option maxHeartbeats 8000000 in
set_option maxRecDepth 100000 in
theorem laws_FnExactPlayPair.calls (k : Nat) (A0 : Option Addr) (c0 : Nat) (l0 : List (S43)) (r : Bool) (w : World) (hr0 : Kd.C k43 w A0 l0.length l0) (hc0 : l0.length ≤ c0) (h : laws_FnExactPlayPair.f k l0 = some r) :
  Calls Try.prog 9 #[.slice A0 l0.length c0] w fun e w' => e = .returned (.bool r) ∧ Below w.heap.size w w' := by
 have hu47 := Try.underlying47
 have HR0 := Aside0.mk hr0
 have HC0 := Aside0.mk hc0
 clear hr0 hc0
 have HB := Aside0.mk (Below.refl w.heap.size w)
 have H : ((laws_szPairStepS.f l0 1048576).bind fun t1480 => (if t1480 < 0 then (some true) else ((laws_toPairStepS.f k l0).bind fun t1481 => ((spec_PlayPair.f k t1481).bind fun bt1484 => ((laws_toPairStepS.f k l0).bind fun t1498 => ((impl_PlayPair.f k t1498).bind fun bt1501 => ((laws_eqPair.f k bt1501.1 bt1501.2.1 bt1501.2.2.1 bt1484.1 bt1484.2.1 bt1484.2.2.1).bind fun t1515 => (if t1515 = true then ((laws_eqBoolS.f k bt1501.2.2.2.1 bt1484.2.2.2.1).bind fun t1516 => (if t1516 = true then (laws_FnExactPlayPair.j0 k l0 bt1484.2.2.2.1 bt1484.2.2.2.2 t1498 bt1501.2.2.2.1 bt1501.2.2.2.2 (bt1501.2.2.2.2 != bt1484.2.2.2.2) bt1484.1 bt1484.2.1 bt1484.2.2.1 bt1501.1 bt1501.2.1 bt1501.2.2.1) else (laws_FnExactPlayPair.j0 k l0 bt1484.2.2.2.1 bt1484.2.2.2.2 t1498 bt1501.2.2.2.1 bt1501.2.2.2.2 true bt1484.1 bt1484.2.1 bt1484.2.2.1 bt1501.1 bt1501.2.1 bt1501.2.2.1))) else (laws_FnExactPlayPair.j0 k l0 bt1484.2.2.2.1 bt1484.2.2.2.2 t1498 bt1501.2.2.2.1 bt1501.2.2.2.2 true bt1484.1 bt1484.2.1 bt1484.2.2.1 bt1501.1 bt1501.2.1 bt1501.2.2.1))))))))) = some r := h
 clear h
 replace H := Option.bind_eq_some_iff.mp H
 obtain ⟨t1480, A20, H⟩ := H
 replace H : (if t1480 < 0 then (some true) else ((laws_toPairStepS.f k l0).bind fun t1481 => ((spec_PlayPair.f k t1481).bind fun bt1484 => ((laws_toPairStepS.f k l0).bind fun t1498 => ((impl_PlayPair.f k t1498).bind fun bt1501 => ((laws_eqPair.f k bt1501.1 bt1501.2.1 bt1501.2.2.1 bt1484.1 bt1484.2.1 bt1484.2.2.1).bind fun t1515 => (if t1515 = true then ((laws_eqBoolS.f k bt1501.2.2.2.1 bt1484.2.2.2.1).bind fun t1516 => (if t1516 = true then (laws_FnExactPlayPair.j0 k l0 bt1484.2.2.2.1 bt1484.2.2.2.2 t1498 bt1501.2.2.2.1 bt1501.2.2.2.2 (bt1501.2.2.2.2 != bt1484.2.2.2.2) bt1484.1 bt1484.2.1 bt1484.2.2.1 bt1501.1 bt1501.2.1 bt1501.2.2.1) else (laws_FnExactPlayPair.j0 k l0 bt1484.2.2.2.1 bt1484.2.2.2.2 t1498 bt1501.2.2.2.1 bt1501.2.2.2.2 true bt1484.1 bt1484.2.1 bt1484.2.2.1 bt1501.1 bt1501.2.1 bt1501.2.2.1))) else (laws_FnExactPlayPair.j0 k l0 bt1484.2.2.2.1 bt1484.2.2.2.2 t1498 bt1501.2.2.2.1 bt1501.2.2.2.2 true bt1484.1 bt1484.2.1 bt1484.2.2.1 bt1501.1 bt1501.2.1 bt1501.2.2.1)))))))) = some r := H
 have A2 := Aside0.mk A20
 clear A20
 by_cases c3 : t1480 < 0
 ·rw [if_pos c3] at H
  have c3b0 : decide (t1480 < 0) = true := decide_eq_true c3
  clear c3
  obtain rfl := Option.some.inj H
  go_enter Try.func9, Try.ntmps9
  go_wp2_with (first | ((with_reducible refine gate_callee (f := 53) rfl ?_); refine goesL_ (some 19) rfl rfl Try.func53 (by kernel_rfl) rfl #[.slice A0 l0.length c0, .int .i64 1048576] rfl tm_ ?_; (with_reducible refine (laws_szPairStepS.calls _ _ l0 1048576 t1480 _ ?side1 ?side2 A2.out).mono ?_); (case side1 => exact ca HR0.out); (case side2 => exact HC0.out); rintro e w' ⟨rfl, ⟨nd, rfl⟩⟩; refine ⟨_, rfl, ?_⟩))
  go_ret
  exact ⟨by first | rfl | (simp [errW_none, errW_some] <;> rfl) | (simp [*, errW_none, errW_some] <;> rfl), by repeat (first | (with_reducible first | exact HB.out | apply below_alloc | apply pw_below_drewN | apply below_drew1) | exact HB.out)⟩
 rw [if_neg c3] at H
 have c3b0 : decide (t1480 < 0) = false := decide_eq_false c3
 clear c3
 replace H := Option.bind_eq_some_iff.mp H
 obtain ⟨t1481, A40, H⟩ := H
 replace H : ((spec_PlayPair.f k t1481).bind fun bt1484 => ((laws_toPairStepS.f k l0).bind fun t1498 => ((impl_PlayPair.f k t1498).bind fun bt1501 => ((laws_eqPair.f k bt1501.1 bt1501.2.1 bt1501.2.2.1 bt1484.1 bt1484.2.1 bt1484.2.2.1).bind fun t1515 => (if t1515 = true then ((laws_eqBoolS.f k bt1501.2.2.2.1 bt1484.2.2.2.1).bind fun t1516 => (if t1516 = true then (laws_FnExactPlayPair.j0 k l0 bt1484.2.2.2.1 bt1484.2.2.2.2 t1498 bt1501.2.2.2.1 bt1501.2.2.2.2 (bt1501.2.2.2.2 != bt1484.2.2.2.2) bt1484.1 bt1484.2.1 bt1484.2.2.1 bt1501.1 bt1501.2.1 bt1501.2.2.1) else (laws_FnExactPlayPair.j0 k l0 bt1484.2.2.2.1 bt1484.2.2.2.2 t1498 bt1501.2.2.2.1 bt1501.2.2.2.2 true bt1484.1 bt1484.2.1 bt1484.2.2.1 bt1501.1 bt1501.2.1 bt1501.2.2.1))) else (laws_FnExactPlayPair.j0 k l0 bt1484.2.2.2.1 bt1484.2.2.2.2 t1498 bt1501.2.2.2.1 bt1501.2.2.2.2 true bt1484.1 bt1484.2.1 bt1484.2.2.1 bt1501.1 bt1501.2.1 bt1501.2.2.1)))))) = some r := H
 have A4 := Aside0.mk A40
 clear A40
 replace H := Option.bind_eq_some_iff.mp H
 obtain ⟨⟨t1484, t1487, t1490, t1493, t1496⟩, A50, H⟩ := H
 replace H : ((laws_toPairStepS.f k l0).bind fun t1498 => ((impl_PlayPair.f k t1498).bind fun bt1501 => ((laws_eqPair.f k bt1501.1 bt1501.2.1 bt1501.2.2.1 t1484 t1487 t1490).bind fun t1515 => (if t1515 = true then ((laws_eqBoolS.f k bt1501.2.2.2.1 t1493).bind fun t1516 => (if t1516 = true then (laws_FnExactPlayPair.j0 k l0 t1493 t1496 t1498 bt1501.2.2.2.1 bt1501.2.2.2.2 (bt1501.2.2.2.2 != t1496) t1484 t1487 t1490 bt1501.1 bt1501.2.1 bt1501.2.2.1) else (laws_FnExactPlayPair.j0 k l0 t1493 t1496 t1498 bt1501.2.2.2.1 bt1501.2.2.2.2 true t1484 t1487 t1490 bt1501.1 bt1501.2.1 bt1501.2.2.1))) else (laws_FnExactPlayPair.j0 k l0 t1493 t1496 t1498 bt1501.2.2.2.1 bt1501.2.2.2.2 true t1484 t1487 t1490 bt1501.1 bt1501.2.1 bt1501.2.2.1))))) = some r := H
 have A5 := Aside0.mk A50
 clear A50
 replace H := Option.bind_eq_some_iff.mp H
 obtain ⟨t1498, A60, H⟩ := H
 replace H : ((impl_PlayPair.f k t1498).bind fun bt1501 => ((laws_eqPair.f k bt1501.1 bt1501.2.1 bt1501.2.2.1 t1484 t1487 t1490).bind fun t1515 => (if t1515 = true then ((laws_eqBoolS.f k bt1501.2.2.2.1 t1493).bind fun t1516 => (if t1516 = true then (laws_FnExactPlayPair.j0 k l0 t1493 t1496 t1498 bt1501.2.2.2.1 bt1501.2.2.2.2 (bt1501.2.2.2.2 != t1496) t1484 t1487 t1490 bt1501.1 bt1501.2.1 bt1501.2.2.1) else (laws_FnExactPlayPair.j0 k l0 t1493 t1496 t1498 bt1501.2.2.2.1 bt1501.2.2.2.2 true t1484 t1487 t1490 bt1501.1 bt1501.2.1 bt1501.2.2.1))) else (laws_FnExactPlayPair.j0 k l0 t1493 t1496 t1498 bt1501.2.2.2.1 bt1501.2.2.2.2 true t1484 t1487 t1490 bt1501.1 bt1501.2.1 bt1501.2.2.1)))) = some r := H
 have A6 := Aside0.mk A60
 clear A60
 replace H := Option.bind_eq_some_iff.mp H
 obtain ⟨⟨t1501, t1504, t1507, t1510, t1513⟩, A70, H⟩ := H
 replace H : ((laws_eqPair.f k t1501 t1504 t1507 t1484 t1487 t1490).bind fun t1515 => (if t1515 = true then ((laws_eqBoolS.f k t1510 t1493).bind fun t1516 => (if t1516 = true then (laws_FnExactPlayPair.j0 k l0 t1493 t1496 t1498 t1510 t1513 (t1513 != t1496) t1484 t1487 t1490 t1501 t1504 t1507) else (laws_FnExactPlayPair.j0 k l0 t1493 t1496 t1498 t1510 t1513 true t1484 t1487 t1490 t1501 t1504 t1507))) else (laws_FnExactPlayPair.j0 k l0 t1493 t1496 t1498 t1510 t1513 true t1484 t1487 t1490 t1501 t1504 t1507))) = some r := H
 have A7 := Aside0.mk A70
 clear A70
 have HC8 := Aside0.mk H
 clear H
 go_enter Try.func9, Try.ntmps9
 go_upto_region 8 with (first | ((with_reducible refine gate_callee (f := 53) rfl ?_); refine goesL_ (some 19) rfl rfl Try.func53 (by kernel_rfl) rfl #[.slice A0 l0.length c0, .int .i64 1048576] rfl tm_ ?_; (with_reducible refine (laws_szPairStepS.calls _ _ l0 1048576 t1480 _ ?side1 ?side2 A2.out).mono ?_); (case side1 => exact ca HR0.out); (case side2 => exact HC0.out); rintro e w' ⟨rfl, ⟨nd, rfl⟩⟩; refine ⟨_, rfl, ?_⟩) | ((with_reducible refine gate_callee (f := 55) rfl ?_); refine goesL_ (some 24) rfl rfl Try.func55 (by kernel_rfl) rfl #[.slice A0 l0.length c0] rfl tm_ ?_; (with_reducible refine (laws_toPairStepS.calls k _ _ l0 t1481 _ ?side1 ?side2 A4.out).mono ?_); (case side1 => exact ca HR0.out); (case side2 => exact HC0.out); rintro e w9 ⟨v1482, rfl, ho0, hb⟩; refine ⟨_, rfl, ?_⟩; have HO1483 := Aside0.mk (Kd.R_lower ho0 (below_size (hB HB))); replace HB := bst_ HB hb; clear hb ho0; obtain ⟨Ao10, co10, eo10⟩ := Kd.R_slice HO1483.out; subst eo10) | ((with_reducible refine gate_callee (f := 54) rfl ?_); refine goesL_ (some 25) rfl rfl Try.func54 (by kernel_rfl) rfl #[.slice Ao10 t1481.length co10] rfl tm_ ?_; (with_reducible refine (spec_PlayPair.calls k _ _ t1481 t1484 t1487 t1490 t1493 t1496 _ ?side1 ?side2 A5.out).mono ?_); (case side1 => exact ca (Kd.R_reads' HO1483.out).2.2); (case side2 => exact (Kd.R_reads' HO1483.out).2.1); rintro e w11 ⟨v1485, v1488, v1491, v1494, rfl, ho0, ho1, ho2, ho3, hb⟩; refine ⟨_, rfl, ?_⟩; have HO1486 := Aside0.mk (Kd.R_lower ho0 (below_size (hB HB))); have HO1489 := Aside0.mk (Kd.R_lower ho1 (below_size (hB HB))); have HO1492 := Aside0.mk (Kd.R_lower ho2 (below_size (hB HB))); have HO1495 := Aside0.mk (Kd.R_lower ho3 (below_size (hB HB))); replace HO1483 := rb_ HO1483 hb; replace HB := bst_ HB hb; clear hb ho0 ho1 ho2 ho3) | ((with_reducible refine gate_dst (N := 4) rfl ?_); refine box_event ?hg (N := 4) ?hd (cs := #[.slice none 0 0, .slice none 0 0, .slice none 0 0]) (t := 47) ?hr ?_; (case hd => rfl); (case hg => rfl); (case hr => first | (go_simp; done) | (go_simp; rfl)); intro gb1497 hg w12 hbox hb; have BK1497 := Aside0.mk (hbox); have GW1497 := gw_ hg HB; have GE1497 := gw_ hg HB; replace HO1483 := rb_ HO1483 hb; replace HO1486 := rb_ HO1486 hb; replace HO1489 := rb_ HO1489 hb; replace HO1492 := rb_ HO1492 hb; replace HO1495 := rb_ HO1495 hb; replace HB := bst_ HB hb; clear hb hbox hg; obtain ⟨Ao13, co13, eo13⟩ := Kd.R_slice HO1486.out; subst eo13; have hcz14_0 : w12.cell? ⟨gb1497, 0, none⟩ = some (.slice none 0 0) := bc_ BK1497 0; have hcz14_1 : w12.cell? ⟨gb1497, 1, none⟩ = some (.slice none 0 0) := bc_ BK1497 1; have hcz14_2 : w12.cell? ⟨gb1497, 2, none⟩ = some (.slice none 0 0) := bc_ BK1497 2; have hfz14_0 := blk_frozen BK1497.out 0; have hfz14_1 := blk_frozen BK1497.out 1; have hfz14_2 := blk_frozen BK1497.out 2; obtain ⟨Ao15, co15, eo15⟩ := Kd.R_slice HO1489.out; subst eo15; obtain ⟨Ao16, co16, eo16⟩ := Kd.R_slice HO1492.out; subst eo16) | ((with_reducible refine gate_callee (f := 55) rfl ?_); refine goesL_ (some 30) rfl rfl Try.func55 (by kernel_rfl) rfl #[.slice A0 l0.length c0] rfl tm_ ?_; (with_reducible refine (laws_toPairStepS.calls k _ _ l0 t1498 _ ?side1 ?side2 A6.out).mono ?_); (case side1 => exact Kd.C_below HR0.out (hB HB)); (case side2 => exact HC0.out); rintro e w17 ⟨v1499, rfl, ho0, hb⟩; refine ⟨_, rfl, ?_⟩; have HO1500 := Aside0.mk (Kd.R_lower (Kd.R_new' ho0 (Kd.R_lt (ra (fm3_ HO1483 BK1497)))) (below_size (hB HB))); replace HO1483 := Aside0.mk (Kd.R_elder' (ra (fm3_ HO1483 BK1497)) (Kd.R_base ho0) hb); replace HO1486 := rb3_ HO1486 BK1497 hb; replace HO1489 := rb3_ HO1489 BK1497 hb; replace HO1492 := rb3_ HO1492 BK1497 hb; replace HO1495 := rb3_ HO1495 BK1497 hb; replace BK1497 := Aside0.mk (blk_below (g := gb1497) (o := .cells #[.slice Ao13 t1484.length co13, .slice Ao15 t1487.length co15, .slice Ao16 t1490.length co16] 47 (0, 0)) (by (with_reducible repeat (first | refine blk_drewN ?_ _ | refine blk_drew ?_ | refine blk_alloc ?_ _)); refine blk_put (cs := #[.slice Ao13 t1484.length co13, .slice Ao15 t1487.length co15, .slice none 0 0]) ?_ 2 _ rfl; (with_reducible repeat (first | refine blk_drewN ?_ _ | refine blk_drew ?_ | refine blk_alloc ?_ _)); refine blk_put (cs := #[.slice Ao13 t1484.length co13, .slice none 0 0, .slice none 0 0]) ?_ 1 _ rfl; (with_reducible repeat (first | refine blk_drewN ?_ _ | refine blk_drew ?_ | refine blk_alloc ?_ _)); refine blk_put (cs := #[.slice none 0 0, .slice none 0 0, .slice none 0 0]) ?_ 0 _ rfl; (with_reducible repeat (first | refine blk_drewN ?_ _ | refine blk_drew ?_ | refine blk_alloc ?_ _)); exact BK1497.out) hb); replace HB := bst_ HB hb; clear hb ho0; obtain ⟨Ao18, co18, eo18⟩ := Kd.R_slice HO1500.out; subst eo18) | ((with_reducible refine gate_callee (f := 56) rfl ?_); refine goesL_ (some 33) rfl rfl Try.func56 (by kernel_rfl) rfl #[.slice Ao18 t1498.length co18] rfl tm_ ?_; (with_reducible refine (impl_PlayPair.calls k _ _ t1498 t1501 t1504 t1507 t1510 t1513 _ ?side1 ?side2 A7.out).mono ?_); (case side1 => exact ca (Kd.R_reads' HO1500.out).2.2); (case side2 => exact (Kd.R_reads' HO1500.out).2.1); rintro e w19 ⟨v1502, v1505, v1508, v1511, rfl, ho0, ho1, ho2, ho3, hb⟩; refine ⟨_, rfl, ?_⟩; have HO1503 := Aside0.mk (Kd.R_lower (Kd.R_new' (Kd.R_new' ho0 (rl_ HO1486)) (rl_ HO1489)) (below_size (hB HB))); have HO1506 := Aside0.mk (Kd.R_lower (Kd.R_new' (Kd.R_new' ho1 (rl_ HO1486)) (rl_ HO1489)) (below_size (hB HB))); have HO1509 := Aside0.mk (Kd.R_lower (Kd.R_new' ho2 (rl_ HO1492)) (below_size (hB HB))); have HO1512 := Aside0.mk (Kd.R_lower (Kd.R_new' ho3 (rl_ HO1495)) (below_size (hB HB))); replace HO1483 := rb_ HO1483 hb; replace HO1486 := rt2_ HO1486 hb ho0 ho1; replace HO1489 := rt2_ HO1489 hb ho0 ho1; replace HO1492 := re_ HO1492 ho2 hb; replace HO1495 := re_ HO1495 ho3 hb; replace HO1500 := rb_ HO1500 hb; replace BK1497 := bb_ BK1497 hb; replace HB := bst_ HB hb; clear hb ho0 ho1 ho2 ho3) | ((with_reducible refine gate_dst (N := 8) rfl ?_); refine box_event ?hg (N := 8) ?hd (cs := #[.slice none 0 0, .slice none 0 0, .slice none 0 0]) (t := 47) ?hr ?_; (case hd => rfl); (case hg => rfl); (case hr => first | (go_simp; done) | (go_simp; rfl)); intro gb1514 hg w20 hbox hb; have BK1514 := Aside0.mk (hbox); have GW1514 := gw_ hg HB; have GE1514 := gw_ hg HB; have NB1497_1514 := nl_ hg BK1497; have NB1514_1497 := ng_ hg BK1497; replace HO1483 := rb_ HO1483 hb; replace HO1486 := rb_ HO1486 hb; replace HO1489 := rb_ HO1489 hb; replace HO1492 := rb_ HO1492 hb; replace HO1495 := rb_ HO1495 hb; replace HO1500 := rb_ HO1500 hb; replace HO1503 := rb_ HO1503 hb; replace HO1506 := rb_ HO1506 hb; replace HO1509 := rb_ HO1509 hb; replace HO1512 := rb_ HO1512 hb; replace BK1497 := bb_ BK1497 hb; replace HB := bst_ HB hb; clear hb hbox hg; obtain ⟨Ao21, co21, eo21⟩ := Kd.R_slice HO1503.out; subst eo21; have hnb22 := NB1514_1497.out; have hnc22 := NB1497_1514.out; have hcz23_0 : w20.cell? ⟨gb1514, 0, none⟩ = some (.slice none 0 0) := bc_ BK1514 0; have hcz23_1 : w20.cell? ⟨gb1514, 1, none⟩ = some (.slice none 0 0) := bc_ BK1514 1; have hcz23_2 : w20.cell? ⟨gb1514, 2, none⟩ = some (.slice none 0 0) := bc_ BK1514 2; have hfz23_0 := blk_frozen BK1514.out 0; have hfz23_1 := blk_frozen BK1514.out 1; have hfz23_2 := blk_frozen BK1514.out 2; obtain ⟨Ao24, co24, eo24⟩ := Kd.R_slice HO1506.out; subst eo24; obtain ⟨Ao25, co25, eo25⟩ := Kd.R_slice HO1509.out; subst eo25))
 (try simp only [Act.put, List.setIfInBounds_toArray, List.set_cons_zero, List.set_cons_succ])
 go_cut [51] (fun v51 wc => ∃ (kq : Nat) (x51_7 : Bool), v51 = .bool x51_7 ∧ Aside0 (laws_FnExactPlayPair.j0 kq l0 t1493 t1496 t1498 t1510 t1513 x51_7 t1484 t1487 t1490 t1501 t1504 t1507 = some r) ∧ Aside0 (kq ≤ k) ∧ Aside0 (Kd.R Kd.bool 4 wc w.heap.size (fun k_ => no_ v1511 k_) v1494 t1493) ∧ Aside0 (Kd.R k51 51 wc w.heap.size (fun _ => True) (.slice Ao18 t1498.length co18) t1498) ∧ Aside0 (Kd.R Kd.bool 4 wc w.heap.size (fun k_ => no_ v1494 k_) v1511 t1510) ∧ Aside0 (Kd.R (Kd.int .i64) 3 wc w.heap.size (fun k_ => no_ (.slice Ao15 t1487.length co15) k_ ∧ no_ (.slice Ao21 t1501.length co21) k_ ∧ no_ (.slice Ao24 t1504.length co24) k_) (.slice Ao13 t1484.length co13) t1484) ∧ Aside0 (Kd.R (Kd.int .i64) 3 wc w.heap.size (fun k_ => no_ (.slice Ao13 t1484.length co13) k_ ∧ no_ (.slice Ao21 t1501.length co21) k_ ∧ no_ (.slice Ao24 t1504.length co24) k_) (.slice Ao15 t1487.length co15) t1487) ∧ Aside0 (Kd.R k127 127 wc w.heap.size (fun k_ => no_ (.slice Ao25 t1507.length co25) k_) (.slice Ao16 t1490.length co16) t1490) ∧ Aside0 (Kd.R (Kd.int .i64) 3 wc w.heap.size (fun k_ => no_ (.slice Ao13 t1484.length co13) k_ ∧ no_ (.slice Ao15 t1487.length co15) k_ ∧ no_ (.slice Ao24 t1504.length co24) k_) (.slice Ao21 t1501.length co21) t1501) ∧ Aside0 (Kd.R (Kd.int .i64) 3 wc w.heap.size (fun k_ => no_ (.slice Ao13 t1484.length co13) k_ ∧ no_ (.slice Ao15 t1487.length co15) k_ ∧ no_ (.slice Ao21 t1501.length co21) k_) (.slice Ao24 t1504.length co24) t1504) ∧ Aside0 (Kd.R k127 127 wc w.heap.size (fun k_ => no_ (.slice Ao16 t1490.length co16) k_) (.slice Ao25 t1507.length co25) t1507) ∧ Aside0 (wc.heap[gb1497]? = some (.cells #[(.slice Ao13 t1484.length co13), (.slice Ao15 t1487.length co15), (.slice Ao16 t1490.length co16)] 47 (0, 0))) ∧ Aside0 (wc.heap[gb1514]? = some (.cells #[(.slice Ao21 t1501.length co21), (.slice Ao24 t1504.length co24), (.slice Ao25 t1507.length co25)] 47 (0, 0))) ∧ Aside0 (Below w.heap.size w wc))
 case first =>
  have H := HC8.out
  clear HC8
  replace H := Option.bind_eq_some_iff.mp H
  obtain ⟨t1515, A260, H⟩ := H
  replace H : (if t1515 = true then ((laws_eqBoolS.f k t1510 t1493).bind fun t1516 => (if t1516 = true then (laws_FnExactPlayPair.j0 k l0 t1493 t1496 t1498 t1510 t1513 (t1513 != t1496) t1484 t1487 t1490 t1501 t1504 t1507) else (laws_FnExactPlayPair.j0 k l0 t1493 t1496 t1498 t1510 t1513 true t1484 t1487 t1490 t1501 t1504 t1507))) else (laws_FnExactPlayPair.j0 k l0 t1493 t1496 t1498 t1510 t1513 true t1484 t1487 t1490 t1501 t1504 t1507)) = some r := H
  have A26 := Aside0.mk A260
  clear A260
  by_cases c27 : t1515 = true
  rotate_left
  ·replace c27 := Bool.eq_false_iff.mpr c27
   subst c27
   rw [if_neg (show ¬ (false = true) by decide)] at H
   have H' := Aside0.mk H
   clear H
   have hnb42 := NB1514_1497.out
   have hnc42 := NB1497_1514.out
   have hcz43_0 : w20.cell? ⟨gb1514, 0, none⟩ = some (.slice none 0 0) := bc_ BK1514 0
   have hcz43_1 : w20.cell? ⟨gb1514, 1, none⟩ = some (.slice none 0 0) := bc_ BK1514 1
   have hcz43_2 : w20.cell? ⟨gb1514, 2, none⟩ = some (.slice none 0 0) := bc_ BK1514 2
   have hfz43_0 := blk_frozen BK1514.out 0
   have hfz43_1 := blk_frozen BK1514.out 1
   have hfz43_2 := blk_frozen BK1514.out 2
   have hcz44_0 : w20.cell? ⟨gb1497, 0, none⟩ = some (.slice Ao13 t1484.length co13) := bc_ BK1497 0
   have hcz44_1 : w20.cell? ⟨gb1497, 1, none⟩ = some (.slice Ao15 t1487.length co15) := bc_ BK1497 1
   have hcz44_2 : w20.cell? ⟨gb1497, 2, none⟩ = some (.slice Ao16 t1490.length co16) := bc_ BK1497 2
   have hfz44_0 := blk_frozen BK1497.out 0
   have hfz44_1 := blk_frozen BK1497.out 1
   have hfz44_2 := blk_frozen BK1497.out 2
   go_wp2_with (first | ((with_reducible refine gate_callee (f := 34) rfl ?_); refine goesL_ (some 39) rfl rfl Try.func34 (by kernel_rfl) rfl #[.agg #[.slice Ao21 t1501.length co21, .slice Ao24 t1504.length co24, .slice Ao25 t1507.length co25], .agg #[.slice Ao13 t1484.length co13, .slice Ao15 t1487.length co15, .slice Ao16 t1490.length co16]] rfl tm_ ?_; (with_reducible refine (laws_eqPair.calls k _ _ t1501 _ _ t1504 _ _ t1507 _ _ t1484 _ _ t1487 _ _ t1490 false _ ?side1 ?side2 ?side3 ?side4 ?side5 ?side6 ?side7 ?side8 ?side9 ?side10 ?side11 ?side12 A26.out).mono ?_); (case side1 => exact rr_ (fm3_ HO1503 BK1514)); (case side2 => exact (Kd.R_reads' HO1503.out).2.1); (case side3 => exact rr_ (fm3_ HO1506 BK1514)); (case side4 => exact (Kd.R_reads' HO1506.out).2.1); (case side5 => exact rr_ (fm3_ HO1509 BK1514)); (case side6 => exact (Kd.R_reads' HO1509.out).2.1); (case side7 => exact rr_ (fm3_ HO1486 BK1514)); (case side8 => exact (Kd.R_reads' HO1486.out).2.1); (case side9 => exact rr_ (fm3_ HO1489 BK1514)); (case side10 => exact (Kd.R_reads' HO1489.out).2.1); (case side11 => exact rr_ (fm3_ HO1492 BK1514)); (case side12 => exact (Kd.R_reads' HO1492.out).2.1); rintro e w45 ⟨rfl, hb⟩; refine ⟨_, rfl, ?_⟩; replace HO1483 := rb3_ HO1483 BK1514 hb; replace HO1486 := rb3_ HO1486 BK1514 hb; replace HO1489 := rb3_ HO1489 BK1514 hb; replace HO1492 := rb3_ HO1492 BK1514 hb; replace HO1495 := rb3_ HO1495 BK1514 hb; replace HO1500 := rb3_ HO1500 BK1514 hb; replace HO1503 := rb3_ HO1503 BK1514 hb; replace HO1506 := rb3_ HO1506 BK1514 hb; replace HO1509 := rb3_ HO1509 BK1514 hb; replace HO1512 := rb3_ HO1512 BK1514 hb; replace BK1497 := Aside0.mk (blk_below (bx BK1497) hb); replace BK1514 := Aside0.mk (blk_below (g := gb1514) (o := .cells #[.slice Ao21 t1501.length co21, .slice Ao24 t1504.length co24, .slice Ao25 t1507.length co25] 47 (0, 0)) (by (with_reducible repeat (first | refine blk_drewN ?_ _ | refine blk_drew ?_ | refine blk_alloc ?_ _)); refine blk_put (cs := #[.slice Ao21 t1501.length co21, .slice Ao24 t1504.length co24, .slice none 0 0]) ?_ 2 _ rfl; (with_reducible repeat (first | refine blk_drewN ?_ _ | refine blk_drew ?_ | refine blk_alloc ?_ _)); refine blk_put (cs := #[.slice Ao21 t1501.length co21, .slice none 0 0, .slice none 0 0]) ?_ 1 _ rfl; (with_reducible repeat (first | refine blk_drewN ?_ _ | refine blk_drew ?_ | refine blk_alloc ?_ _)); refine blk_put (cs := #[.slice none 0 0, .slice none 0 0, .slice none 0 0]) ?_ 0 _ rfl; (with_reducible repeat (first | refine blk_drewN ?_ _ | refine blk_drew ?_ | refine blk_alloc ?_ _)); exact BK1514.out) hb); replace HB := bst_ HB hb; clear hb))
   go_meet
   case rel => exact ⟨_, (true), (by first | rfl | (simp; done) | (simp [*]; done)), H', ⟨by first | omega | exact Nat.le_refl _⟩, rm_ HO1495 (fun _ hk => hk.2), rm_ HO1500 (fun _ hk => trivial), rm_ HO1512 (fun _ hk => hk.2), rm_ HO1486 (fun _ hk => ⟨hk.1.1, ⟨hk.1.2, hk.2⟩⟩), rm_ HO1489 (fun _ hk => ⟨hk.1.1, ⟨hk.1.2, hk.2⟩⟩), rm_ HO1492 (fun _ hk => hk.2), rm_ HO1503 (fun _ hk => ⟨hk.1.2, ⟨hk.2, hk.1.1⟩⟩), rm_ HO1506 (fun _ hk => ⟨hk.1.2, ⟨hk.2, hk.1.1⟩⟩), rm_ HO1509 (fun _ hk => hk.2), ⟨by (with_reducible repeat (first | refine blk_drewN ?_ _ | refine blk_drew ?_ | refine blk_alloc ?_ _)); exact BK1497.out⟩, ⟨by (with_reducible repeat (first | refine blk_drewN ?_ _ | refine blk_drew ?_ | refine blk_alloc ?_ _)); exact BK1514.out⟩, ⟨hB HB⟩⟩
  subst c27
  rw [if_pos rfl] at H
  replace H := Option.bind_eq_some_iff.mp H
  obtain ⟨t1516, A280, H⟩ := H
  replace H : (if t1516 = true then (laws_FnExactPlayPair.j0 k l0 t1493 t1496 t1498 t1510 t1513 (t1513 != t1496) t1484 t1487 t1490 t1501 t1504 t1507) else (laws_FnExactPlayPair.j0 k l0 t1493 t1496 t1498 t1510 t1513 true t1484 t1487 t1490 t1501 t1504 t1507)) = some r := H
  have A28 := Aside0.mk A280
  clear A280
  by_cases c29 : t1516 = true
  ·subst c29
   rw [if_pos rfl] at H
   have H' := Aside0.mk H
   clear H
   have hnb30 := NB1514_1497.out
   have hnc30 := NB1497_1514.out
   have hcz31_0 : w20.cell? ⟨gb1514, 0, none⟩ = some (.slice none 0 0) := bc_ BK1514 0
   have hcz31_1 : w20.cell? ⟨gb1514, 1, none⟩ = some (.slice none 0 0) := bc_ BK1514 1
   have hcz31_2 : w20.cell? ⟨gb1514, 2, none⟩ = some (.slice none 0 0) := bc_ BK1514 2
   have hfz31_0 := blk_frozen BK1514.out 0
   have hfz31_1 := blk_frozen BK1514.out 1
   have hfz31_2 := blk_frozen BK1514.out 2
   have hcz32_0 : w20.cell? ⟨gb1497, 0, none⟩ = some (.slice Ao13 t1484.length co13) := bc_ BK1497 0
   have hcz32_1 : w20.cell? ⟨gb1497, 1, none⟩ = some (.slice Ao15 t1487.length co15) := bc_ BK1497 1
   have hcz32_2 : w20.cell? ⟨gb1497, 2, none⟩ = some (.slice Ao16 t1490.length co16) := bc_ BK1497 2
   have hfz32_0 := blk_frozen BK1497.out 0
   have hfz32_1 := blk_frozen BK1497.out 1
   have hfz32_2 := blk_frozen BK1497.out 2
   go_wp2_with (first | ((with_reducible refine gate_callee (f := 34) rfl ?_); refine goesL_ (some 39) rfl rfl Try.func34 (by kernel_rfl) rfl #[.agg #[.slice Ao21 t1501.length co21, .slice Ao24 t1504.length co24, .slice Ao25 t1507.length co25], .agg #[.slice Ao13 t1484.length co13, .slice Ao15 t1487.length co15, .slice Ao16 t1490.length co16]] rfl tm_ ?_; (with_reducible refine (laws_eqPair.calls k _ _ t1501 _ _ t1504 _ _ t1507 _ _ t1484 _ _ t1487 _ _ t1490 true _ ?side1 ?side2 ?side3 ?side4 ?side5 ?side6 ?side7 ?side8 ?side9 ?side10 ?side11 ?side12 A26.out).mono ?_); (case side1 => exact rr_ (fm3_ HO1503 BK1514)); (case side2 => exact (Kd.R_reads' HO1503.out).2.1); (case side3 => exact rr_ (fm3_ HO1506 BK1514)); (case side4 => exact (Kd.R_reads' HO1506.out).2.1); (case side5 => exact rr_ (fm3_ HO1509 BK1514)); (case side6 => exact (Kd.R_reads' HO1509.out).2.1); (case side7 => exact rr_ (fm3_ HO1486 BK1514)); (case side8 => exact (Kd.R_reads' HO1486.out).2.1); (case side9 => exact rr_ (fm3_ HO1489 BK1514)); (case side10 => exact (Kd.R_reads' HO1489.out).2.1); (case side11 => exact rr_ (fm3_ HO1492 BK1514)); (case side12 => exact (Kd.R_reads' HO1492.out).2.1); rintro e w33 ⟨rfl, hb⟩; refine ⟨_, rfl, ?_⟩; replace HO1483 := rb3_ HO1483 BK1514 hb; replace HO1486 := rb3_ HO1486 BK1514 hb; replace HO1489 := rb3_ HO1489 BK1514 hb; replace HO1492 := rb3_ HO1492 BK1514 hb; replace HO1495 := rb3_ HO1495 BK1514 hb; replace HO1500 := rb3_ HO1500 BK1514 hb; replace HO1503 := rb3_ HO1503 BK1514 hb; replace HO1506 := rb3_ HO1506 BK1514 hb; replace HO1509 := rb3_ HO1509 BK1514 hb; replace HO1512 := rb3_ HO1512 BK1514 hb; replace BK1497 := Aside0.mk (blk_below (bx BK1497) hb); replace BK1514 := Aside0.mk (blk_below (g := gb1514) (o := .cells #[.slice Ao21 t1501.length co21, .slice Ao24 t1504.length co24, .slice Ao25 t1507.length co25] 47 (0, 0)) (by (with_reducible repeat (first | refine blk_drewN ?_ _ | refine blk_drew ?_ | refine blk_alloc ?_ _)); refine blk_put (cs := #[.slice Ao21 t1501.length co21, .slice Ao24 t1504.length co24, .slice none 0 0]) ?_ 2 _ rfl; (with_reducible repeat (first | refine blk_drewN ?_ _ | refine blk_drew ?_ | refine blk_alloc ?_ _)); refine blk_put (cs := #[.slice Ao21 t1501.length co21, .slice none 0 0, .slice none 0 0]) ?_ 1 _ rfl; (with_reducible repeat (first | refine blk_drewN ?_ _ | refine blk_drew ?_ | refine blk_alloc ?_ _)); refine blk_put (cs := #[.slice none 0 0, .slice none 0 0, .slice none 0 0]) ?_ 0 _ rfl; (with_reducible repeat (first | refine blk_drewN ?_ _ | refine blk_drew ?_ | refine blk_alloc ?_ _)); exact BK1514.out) hb); replace HB := bst_ HB hb; clear hb; obtain ⟨Ao34, co34, eo34⟩ := Kd.R_slice HO1512.out; subst eo34; obtain ⟨Ao35, co35, eo35⟩ := Kd.R_slice HO1495.out; subst eo35) | (go_at_call 57; (with_reducible refine (laws_eqBoolS.calls k _ _ t1510 _ _ t1493 true _ ?side1 ?side2 ?side3 ?side4 A28.out).mono ?_); (case side1 => exact ca (Kd.R_reads' HO1512.out).2.2); (case side2 => exact (Kd.R_reads' HO1512.out).2.1); (case side3 => exact ca (Kd.R_reads' HO1495.out).2.2); (case side4 => exact (Kd.R_reads' HO1495.out).2.1); rintro e w' ⟨rfl, ⟨nd, rfl⟩⟩))
   go_meet
   case rel => exact ⟨_, ((t1513 != t1496)), (by first | rfl | (simp; done) | (simp [*]; done)), H', ⟨by first | omega | exact Nat.le_refl _⟩, rm_ HO1495 (fun _ hk => hk.2), rm_ HO1500 (fun _ hk => trivial), rm_ HO1512 (fun _ hk => hk.2), rm_ HO1486 (fun _ hk => ⟨hk.1.1, ⟨hk.1.2, hk.2⟩⟩), rm_ HO1489 (fun _ hk => ⟨hk.1.1, ⟨hk.1.2, hk.2⟩⟩), rm_ HO1492 (fun _ hk => hk.2), rm_ HO1503 (fun _ hk => ⟨hk.1.2, ⟨hk.2, hk.1.1⟩⟩), rm_ HO1506 (fun _ hk => ⟨hk.1.2, ⟨hk.2, hk.1.1⟩⟩), rm_ HO1509 (fun _ hk => hk.2), ⟨by (with_reducible repeat (first | refine blk_drewN ?_ _ | refine blk_drew ?_ | refine blk_alloc ?_ _)); exact BK1497.out⟩, ⟨by (with_reducible repeat (first | refine blk_drewN ?_ _ | refine blk_drew ?_ | refine blk_alloc ?_ _)); exact BK1514.out⟩, ⟨hB HB⟩⟩
  replace c29 := Bool.eq_false_iff.mpr c29
  subst c29
  rw [if_neg (show ¬ (false = true) by decide)] at H
  have H' := Aside0.mk H
  clear H
  have hnb36 := NB1514_1497.out
  have hnc36 := NB1497_1514.out
  have hcz37_0 : w20.cell? ⟨gb1514, 0, none⟩ = some (.slice none 0 0) := bc_ BK1514 0
  have hcz37_1 : w20.cell? ⟨gb1514, 1, none⟩ = some (.slice none 0 0) := bc_ BK1514 1
  have hcz37_2 : w20.cell? ⟨gb1514, 2, none⟩ = some (.slice none 0 0) := bc_ BK1514 2
  have hfz37_0 := blk_frozen BK1514.out 0
  have hfz37_1 := blk_frozen BK1514.out 1
  have hfz37_2 := blk_frozen BK1514.out 2
  have hcz38_0 : w20.cell? ⟨gb1497, 0, none⟩ = some (.slice Ao13 t1484.length co13) := bc_ BK1497 0
  have hcz38_1 : w20.cell? ⟨gb1497, 1, none⟩ = some (.slice Ao15 t1487.length co15) := bc_ BK1497 1
  have hcz38_2 : w20.cell? ⟨gb1497, 2, none⟩ = some (.slice Ao16 t1490.length co16) := bc_ BK1497 2
  have hfz38_0 := blk_frozen BK1497.out 0
  have hfz38_1 := blk_frozen BK1497.out 1
  have hfz38_2 := blk_frozen BK1497.out 2
  go_wp2_with (first | ((with_reducible refine gate_callee (f := 34) rfl ?_); refine goesL_ (some 39) rfl rfl Try.func34 (by kernel_rfl) rfl #[.agg #[.slice Ao21 t1501.length co21, .slice Ao24 t1504.length co24, .slice Ao25 t1507.length co25], .agg #[.slice Ao13 t1484.length co13, .slice Ao15 t1487.length co15, .slice Ao16 t1490.length co16]] rfl tm_ ?_; (with_reducible refine (laws_eqPair.calls k _ _ t1501 _ _ t1504 _ _ t1507 _ _ t1484 _ _ t1487 _ _ t1490 true _ ?side1 ?side2 ?side3 ?side4 ?side5 ?side6 ?side7 ?side8 ?side9 ?side10 ?side11 ?side12 A26.out).mono ?_); (case side1 => exact rr_ (fm3_ HO1503 BK1514)); (case side2 => exact (Kd.R_reads' HO1503.out).2.1); (case side3 => exact rr_ (fm3_ HO1506 BK1514)); (case side4 => exact (Kd.R_reads' HO1506.out).2.1); (case side5 => exact rr_ (fm3_ HO1509 BK1514)); (case side6 => exact (Kd.R_reads' HO1509.out).2.1); (case side7 => exact rr_ (fm3_ HO1486 BK1514)); (case side8 => exact (Kd.R_reads' HO1486.out).2.1); (case side9 => exact rr_ (fm3_ HO1489 BK1514)); (case side10 => exact (Kd.R_reads' HO1489.out).2.1); (case side11 => exact rr_ (fm3_ HO1492 BK1514)); (case side12 => exact (Kd.R_reads' HO1492.out).2.1); rintro e w39 ⟨rfl, hb⟩; refine ⟨_, rfl, ?_⟩; replace HO1483 := rb3_ HO1483 BK1514 hb; replace HO1486 := rb3_ HO1486 BK1514 hb; replace HO1489 := rb3_ HO1489 BK1514 hb; replace HO1492 := rb3_ HO1492 BK1514 hb; replace HO1495 := rb3_ HO1495 BK1514 hb; replace HO1500 := rb3_ HO1500 BK1514 hb; replace HO1503 := rb3_ HO1503 BK1514 hb; replace HO1506 := rb3_ HO1506 BK1514 hb; replace HO1509 := rb3_ HO1509 BK1514 hb; replace HO1512 := rb3_ HO1512 BK1514 hb; replace BK1497 := Aside0.mk (blk_below (bx BK1497) hb); replace BK1514 := Aside0.mk (blk_below (g := gb1514) (o := .cells #[.slice Ao21 t1501.length co21, .slice Ao24 t1504.length co24, .slice Ao25 t1507.length co25] 47 (0, 0)) (by (with_reducible repeat (first | refine blk_drewN ?_ _ | refine blk_drew ?_ | refine blk_alloc ?_ _)); refine blk_put (cs := #[.slice Ao21 t1501.length co21, .slice Ao24 t1504.length co24, .slice none 0 0]) ?_ 2 _ rfl; (with_reducible repeat (first | refine blk_drewN ?_ _ | refine blk_drew ?_ | refine blk_alloc ?_ _)); refine blk_put (cs := #[.slice Ao21 t1501.length co21, .slice none 0 0, .slice none 0 0]) ?_ 1 _ rfl; (with_reducible repeat (first | refine blk_drewN ?_ _ | refine blk_drew ?_ | refine blk_alloc ?_ _)); refine blk_put (cs := #[.slice none 0 0, .slice none 0 0, .slice none 0 0]) ?_ 0 _ rfl; (with_reducible repeat (first | refine blk_drewN ?_ _ | refine blk_drew ?_ | refine blk_alloc ?_ _)); exact BK1514.out) hb); replace HB := bst_ HB hb; clear hb; obtain ⟨Ao40, co40, eo40⟩ := Kd.R_slice HO1512.out; subst eo40; obtain ⟨Ao41, co41, eo41⟩ := Kd.R_slice HO1495.out; subst eo41) | (go_at_call 57; (with_reducible refine (laws_eqBoolS.calls k _ _ t1510 _ _ t1493 false _ ?side1 ?side2 ?side3 ?side4 A28.out).mono ?_); (case side1 => exact ca (Kd.R_reads' HO1512.out).2.2); (case side2 => exact (Kd.R_reads' HO1512.out).2.1); (case side3 => exact ca (Kd.R_reads' HO1495.out).2.2); (case side4 => exact (Kd.R_reads' HO1495.out).2.1); rintro e w' ⟨rfl, ⟨nd, rfl⟩⟩))
  go_meet
  case rel => exact ⟨_, (true), (by first | rfl | (simp; done) | (simp [*]; done)), H', ⟨by first | omega | exact Nat.le_refl _⟩, rm_ HO1495 (fun _ hk => hk.2), rm_ HO1500 (fun _ hk => trivial), rm_ HO1512 (fun _ hk => hk.2), rm_ HO1486 (fun _ hk => ⟨hk.1.1, ⟨hk.1.2, hk.2⟩⟩), rm_ HO1489 (fun _ hk => ⟨hk.1.1, ⟨hk.1.2, hk.2⟩⟩), rm_ HO1492 (fun _ hk => hk.2), rm_ HO1503 (fun _ hk => ⟨hk.1.2, ⟨hk.2, hk.1.1⟩⟩), rm_ HO1506 (fun _ hk => ⟨hk.1.2, ⟨hk.2, hk.1.1⟩⟩), rm_ HO1509 (fun _ hk => hk.2), ⟨by (with_reducible repeat (first | refine blk_drewN ?_ _ | refine blk_drew ?_ | refine blk_alloc ?_ _)); exact BK1497.out⟩, ⟨by (with_reducible repeat (first | refine blk_drewN ?_ _ | refine blk_drew ?_ | refine blk_alloc ?_ _)); exact BK1514.out⟩, ⟨hB HB⟩⟩
 case rest =>
  clear HC8
  try clear c3
  try clear c3b0
  try clear hcz14_0
  try clear hcz14_1
  try clear hcz14_2
  try clear hcz23_0
  try clear hcz23_1
  try clear hcz23_2
  try clear hfz14_0
  try clear hfz14_1
  try clear hfz14_2
  try clear hfz23_0
  try clear hfz23_1
  try clear hfz23_2
  obtain ⟨kq, x51_7, rfl, HA, HJ7, HO_5, HO_7, HO_9, HO_1498000, HO_1498001, HO_1498002, HO_1515000, HO_1515001, HO_1515002, BK1497, BK1514, HB⟩ := hcut
  cases kq with
  | zero => exact absurd HA.out (by simp [laws_FnExactPlayPair.j0])
  | succ kj7 =>
   have H := HA.out
   clear HA
   simp only [laws_FnExactPlayPair.j0] at H
   by_cases c46 : x51_7 = true
   ·subst c46
    rw [if_pos rfl] at H
    obtain rfl := Option.some.inj H
    go_wp2
    go_ret
    exact ⟨by first | rfl | (simp [errW_none, errW_some] <;> rfl) | (simp [*, errW_none, errW_some] <;> rfl), by repeat (first | (with_reducible first | exact HB.out | apply below_alloc | apply pw_below_drewN | apply below_drew1 | refine below_set ?_ GE1497.out | refine below_set ?_ GE1514.out) | exact HB.out)⟩
   replace c46 := Bool.eq_false_iff.mpr c46
   subst c46
   rw [if_neg (show ¬ (false = true) by decide)] at H
   replace H := Option.bind_eq_some_iff.mp H
   obtain ⟨t1517, A470, H⟩ := H
   replace H : ((laws_eqPairStepS.f kj7 t1498 t1517).bind fun t1520 => (if t1520 = true then ((laws_markPairStepS.f kj7 t1498 1).bind fun bt1521 => (if bt1521.1 < 0 then (laws_FnExactPlayPair.j1 kj7 l0 t1493 t1496 t1510 true t1484 t1487 t1490 t1501 t1504 t1507) else ((laws_eqPair.f kj7 t1501 t1504 t1507 t1484 t1487 t1490).bind fun t1523 => (if t1523 = true then ((laws_eqBoolS.f kj7 t1510 t1493).bind fun t1524 => (if t1524 = true then (laws_FnExactPlayPair.j1 kj7 l0 t1493 t1496 t1510 (t1513 != t1496) t1484 t1487 t1490 t1501 t1504 t1507) else (laws_FnExactPlayPair.j1 kj7 l0 t1493 t1496 t1510 true t1484 t1487 t1490 t1501 t1504 t1507))) else (laws_FnExactPlayPair.j1 kj7 l0 t1493 t1496 t1510 true t1484 t1487 t1490 t1501 t1504 t1507))))) else (some false))) = some r := H
   have A47 := Aside0.mk A470
   clear A470
   replace H := Option.bind_eq_some_iff.mp H
   obtain ⟨t1520, A480, H⟩ := H
   replace H : (if t1520 = true then ((laws_markPairStepS.f kj7 t1498 1).bind fun bt1521 => (if bt1521.1 < 0 then (laws_FnExactPlayPair.j1 kj7 l0 t1493 t1496 t1510 true t1484 t1487 t1490 t1501 t1504 t1507) else ((laws_eqPair.f kj7 t1501 t1504 t1507 t1484 t1487 t1490).bind fun t1523 => (if t1523 = true then ((laws_eqBoolS.f kj7 t1510 t1493).bind fun t1524 => (if t1524 = true then (laws_FnExactPlayPair.j1 kj7 l0 t1493 t1496 t1510 (t1513 != t1496) t1484 t1487 t1490 t1501 t1504 t1507) else (laws_FnExactPlayPair.j1 kj7 l0 t1493 t1496 t1510 true t1484 t1487 t1490 t1501 t1504 t1507))) else (laws_FnExactPlayPair.j1 kj7 l0 t1493 t1496 t1510 true t1484 t1487 t1490 t1501 t1504 t1507))))) else (some false)) = some r := H
   have A48 := Aside0.mk A480
   clear A480
   by_cases c49 : t1520 = true
   rotate_left
   ·replace c49 := Bool.eq_false_iff.mpr c49
    subst c49
    rw [if_neg (show ¬ (false = true) by decide)] at H
    obtain rfl := Option.some.inj H
    go_wp2_with (first | ((with_reducible refine gate_callee (f := 55) rfl ?_); refine goesL_ (some 54) rfl rfl Try.func55 (by kernel_rfl) rfl #[.slice A0 l0.length c0] rfl tm_ ?_; (with_reducible refine (laws_toPairStepS.calls kj7 _ _ l0 t1517 _ ?side1 ?side2 A47.out).mono ?_); (case side1 => exact ca (Kd.C_below HR0.out HB.out)); (case side2 => exact HC0.out); rintro e w174 ⟨v1518, rfl, ho0, hb⟩; refine ⟨_, rfl, ?_⟩; have HO1519 := Aside0.mk (Kd.R_lower (Kd.R_new' ho0 (rl_ HO_7)) (below_size (hB HB))); replace HO_5 := rb_ HO_5 hb; replace HO_7 := re_ HO_7 ho0 hb; replace HO_9 := rb_ HO_9 hb; replace HO_1498000 := rb_ HO_1498000 hb; replace HO_1498001 := rb_ HO_1498001 hb; replace HO_1498002 := rb_ HO_1498002 hb; replace HO_1515000 := rb_ HO_1515000 hb; replace HO_1515001 := rb_ HO_1515001 hb; replace HO_1515002 := rb_ HO_1515002 hb; replace BK1497 := bb_ BK1497 hb; replace BK1514 := bb_ BK1514 hb; replace HB := bst_ HB hb; clear hb ho0; obtain ⟨Ao175, co175, eo175⟩ := Kd.R_slice HO1519.out; subst eo175) | ((with_reducible refine gate_callee (f := 58) rfl ?_); refine goesL_ (some 55) rfl rfl Try.func58 (by kernel_rfl) rfl #[.slice Ao18 t1498.length co18, .slice Ao175 t1517.length co175] rfl tm_ ?_; (with_reducible refine (laws_eqPairStepS.calls kj7 _ _ t1498 _ _ t1517 false _ ?side1 ?side2 ?side3 ?side4 A48.out).mono ?_); (case side1 => exact ca (Kd.R_reads' HO_7.out).2.2); (case side2 => exact (Kd.R_reads' HO_7.out).2.1); (case side3 => exact ca (Kd.R_reads' HO1519.out).2.2); (case side4 => exact (Kd.R_reads' HO1519.out).2.1); rintro e w176 ⟨rfl, hb⟩; refine ⟨_, rfl, ?_⟩; replace HO_5 := rb_ HO_5 hb; replace HO_7 := rb_ HO_7 hb; replace HO_9 := rb_ HO_9 hb; replace HO_1498000 := rb_ HO_1498000 hb; replace HO_1498001 := rb_ HO_1498001 hb; replace HO_1498002 := rb_ HO_1498002 hb; replace HO_1515000 := rb_ HO_1515000 hb; replace HO_1515001 := rb_ HO_1515001 hb; replace HO_1515002 := rb_ HO_1515002 hb; replace HO1519 := rb_ HO1519 hb; replace BK1497 := bb_ BK1497 hb; replace BK1514 := bb_ BK1514 hb; replace HB := bst_ HB hb; clear hb))
    go_ret
    exact ⟨by first | rfl | (simp [errW_none, errW_some] <;> rfl) | (simp [*, errW_none, errW_some] <;> rfl), by repeat (first | (with_reducible first | exact HB.out | apply below_alloc | apply pw_below_drewN | apply below_drew1 | refine below_set ?_ GE1497.out | refine below_set ?_ GE1514.out) | exact HB.out)⟩
   subst c49
   rw [if_pos rfl] at H
   replace H := Option.bind_eq_some_iff.mp H
   obtain ⟨⟨t1521, t1522⟩, A500, H⟩ := H
   replace H : (if t1521 < 0 then (laws_FnExactPlayPair.j1 kj7 l0 t1493 t1496 t1510 true t1484 t1487 t1490 t1501 t1504 t1507) else ((laws_eqPair.f kj7 t1501 t1504 t1507 t1484 t1487 t1490).bind fun t1523 => (if t1523 = true then ((laws_eqBoolS.f kj7 t1510 t1493).bind fun t1524 => (if t1524 = true then (laws_FnExactPlayPair.j1 kj7 l0 t1493 t1496 t1510 (t1513 != t1496) t1484 t1487 t1490 t1501 t1504 t1507) else (laws_FnExactPlayPair.j1 kj7 l0 t1493 t1496 t1510 true t1484 t1487 t1490 t1501 t1504 t1507))) else (laws_FnExactPlayPair.j1 kj7 l0 t1493 t1496 t1510 true t1484 t1487 t1490 t1501 t1504 t1507)))) = some r := H
   have A50 := Aside0.mk A500
   clear A500
   have HC51 := Aside0.mk H
   clear H
   go_upto_region 14 with (first | ((with_reducible refine gate_callee (f := 55) rfl ?_); refine goesL_ (some 54) rfl rfl Try.func55 (by kernel_rfl) rfl #[.slice A0 l0.length c0] rfl tm_ ?_; (with_reducible refine (laws_toPairStepS.calls kj7 _ _ l0 t1517 _ ?side1 ?side2 A47.out).mono ?_); (case side1 => exact ca (Kd.C_below HR0.out HB.out)); (case side2 => exact HC0.out); rintro e w52 ⟨v1518, rfl, ho0, hb⟩; refine ⟨_, rfl, ?_⟩; have HO1519 := Aside0.mk (Kd.R_lower (Kd.R_new' ho0 (rl_ HO_7)) (below_size (hB HB))); replace HO_5 := rb_ HO_5 hb; replace HO_7 := re_ HO_7 ho0 hb; replace HO_9 := rb_ HO_9 hb; replace HO_1498000 := rb_ HO_1498000 hb; replace HO_1498001 := rb_ HO_1498001 hb; replace HO_1498002 := rb_ HO_1498002 hb; replace HO_1515000 := rb_ HO_1515000 hb; replace HO_1515001 := rb_ HO_1515001 hb; replace HO_1515002 := rb_ HO_1515002 hb; replace BK1497 := bb_ BK1497 hb; replace BK1514 := bb_ BK1514 hb; replace HB := bst_ HB hb; clear hb ho0; obtain ⟨Ao53, co53, eo53⟩ := Kd.R_slice HO1519.out; subst eo53) | ((with_reducible refine gate_callee (f := 58) rfl ?_); refine goesL_ (some 55) rfl rfl Try.func58 (by kernel_rfl) rfl #[.slice Ao18 t1498.length co18, .slice Ao53 t1517.length co53] rfl tm_ ?_; (with_reducible refine (laws_eqPairStepS.calls kj7 _ _ t1498 _ _ t1517 true _ ?side1 ?side2 ?side3 ?side4 A48.out).mono ?_); (case side1 => exact ca (Kd.R_reads' HO_7.out).2.2); (case side2 => exact (Kd.R_reads' HO_7.out).2.1); (case side3 => exact ca (Kd.R_reads' HO1519.out).2.2); (case side4 => exact (Kd.R_reads' HO1519.out).2.1); rintro e w54 ⟨rfl, hb⟩; refine ⟨_, rfl, ?_⟩; replace HO_5 := rb_ HO_5 hb; replace HO_7 := rb_ HO_7 hb; replace HO_9 := rb_ HO_9 hb; replace HO_1498000 := rb_ HO_1498000 hb; replace HO_1498001 := rb_ HO_1498001 hb; replace HO_1498002 := rb_ HO_1498002 hb; replace HO_1515000 := rb_ HO_1515000 hb; replace HO_1515001 := rb_ HO_1515001 hb; replace HO_1515002 := rb_ HO_1515002 hb; replace HO1519 := rb_ HO1519 hb; replace BK1497 := bb_ BK1497 hb; replace BK1514 := bb_ BK1514 hb; replace HB := bst_ HB hb; clear hb) | ((with_reducible refine gate_callee (f := 59) rfl ?_); refine goesL_ (some 59) rfl rfl Try.func59 (by kernel_rfl) rfl #[.slice Ao18 t1498.length co18, .int .i64 1] rfl tm_ ?_; (with_reducible refine (laws_markPairStepS.calls kj7 (fun k_ => some k_ = (.slice Ao18 t1498.length co18 : Value).ownBlock) (.slice Ao18 t1498.length co18) t1498 1 t1521 t1522 w _ ?side1 ?side2 A50.out).mono ?_); (case side1 => repeat (first | (with_reducible first | exact HB.out | apply below_alloc | apply pw_below_drewN | apply below_drew1 | refine below_set ?_ GE1497.out | refine below_set ?_ GE1514.out) | exact HB.out)); (case side2 => exact Kd.R_tight rfl HO_7.out); rintro e w55 ⟨rfl, hy0, hb, hkp⟩; refine ⟨_, rfl, ?_⟩; replace HO_5 := Aside0.mk (Kd.R_mono (ok' := fun k_ => no_ v1511 k_) (Kd.R_keptB ((Kd.R_apart' HO_5.out (Kd.R_typed HO_7.out) (by decide))) hkp (fun k_ hk_ hs_ => (hk_.2) hs_)) (fun k_ hk_ => hk_.1.1)); replace HO_9 := Aside0.mk (Kd.R_mono (ok' := fun k_ => no_ v1494 k_) (Kd.R_keptB ((Kd.R_apart' HO_9.out (Kd.R_typed HO_7.out) (by decide))) hkp (fun k_ hk_ hs_ => (hk_.2) hs_)) (fun k_ hk_ => hk_.1.1)); replace HO_1498000 := Aside0.mk (Kd.R_mono (ok' := fun k_ => no_ (.slice Ao15 t1487.length co15) k_ ∧ no_ (.slice Ao21 t1501.length co21) k_ ∧ no_ (.slice Ao24 t1504.length co24) k_) (Kd.R_keptB ((Kd.R_apart' HO_1498000.out (Kd.R_typed HO_7.out) (by decide))) hkp (fun k_ hk_ hs_ => (hk_.2) hs_)) (fun k_ hk_ => ⟨hk_.1.1.1, hk_.1.1.2.1, hk_.1.1.2.2⟩)); replace HO_1498001 := Aside0.mk (Kd.R_mono (ok' := fun k_ => no_ (.slice Ao13 t1484.length co13) k_ ∧ no_ (.slice Ao21 t1501.length co21) k_ ∧ no_ (.slice Ao24 t1504.length co24) k_) (Kd.R_keptB ((Kd.R_apart' HO_1498001.out (Kd.R_typed HO_7.out) (by decide))) hkp (fun k_ hk_ hs_ => (hk_.2) hs_)) (fun k_ hk_ => ⟨hk_.1.1.1, hk_.1.1.2.1, hk_.1.1.2.2⟩)); replace HO_1498002 := Aside0.mk (Kd.R_mono (ok' := fun k_ => no_ (.slice Ao25 t1507.length co25) k_) (Kd.R_keptB ((Kd.R_apart' HO_1498002.out (Kd.R_typed HO_7.out) (by decide))) hkp (fun k_ hk_ hs_ => (hk_.2) hs_)) (fun k_ hk_ => hk_.1.1)); replace HO_1515000 := Aside0.mk (Kd.R_mono (ok' := fun k_ => no_ (.slice Ao13 t1484.length co13) k_ ∧ no_ (.slice Ao15 t1487.length co15) k_ ∧ no_ (.slice Ao24 t1504.length co24) k_) (Kd.R_keptB ((Kd.R_apart' HO_1515000.out (Kd.R_typed HO_7.out) (by decide))) hkp (fun k_ hk_ hs_ => (hk_.2) hs_)) (fun k_ hk_ => ⟨hk_.1.1.1, hk_.1.1.2.1, hk_.1.1.2.2⟩)); replace HO_1515001 := Aside0.mk (Kd.R_mono (ok' := fun k_ => no_ (.slice Ao13 t1484.length co13) k_ ∧ no_ (.slice Ao15 t1487.length co15) k_ ∧ no_ (.slice Ao21 t1501.length co21) k_) (Kd.R_keptB ((Kd.R_apart' HO_1515001.out (Kd.R_typed HO_7.out) (by decide))) hkp (fun k_ hk_ hs_ => (hk_.2) hs_)) (fun k_ hk_ => ⟨hk_.1.1.1, hk_.1.1.2.1, hk_.1.1.2.2⟩)); replace HO_1515002 := Aside0.mk (Kd.R_mono (ok' := fun k_ => no_ (.slice Ao16 t1490.length co16) k_) (Kd.R_keptB ((Kd.R_apart' HO_1515002.out (Kd.R_typed HO_7.out) (by decide))) hkp (fun k_ hk_ hs_ => (hk_.2) hs_)) (fun k_ hk_ => hk_.1.1)); replace BK1497 := Aside0.mk (blk_kept (ba BK1497.out) hkp (fun hs_ => (fun e_ => (Kd.R_ne HO_7.out BK1497.out (by decide)) e_) hs_)); replace BK1514 := Aside0.mk (blk_kept (ba BK1514.out) hkp (fun hs_ => (fun e_ => (Kd.R_ne HO_7.out BK1514.out (by decide)) e_) hs_)); replace HO_7 := Aside0.mk (Kd.R_reok rfl hy0 (fun k_ e_ => HO_7.out.1 k_ e_)); replace HO1519 := Aside0.mk (Kd.R_mono (ok' := fun k_ => no_ (.slice Ao18 t1498.length co18) k_) (Kd.R_keptB (HO1519.out) hkp (fun k_ hk_ hs_ => (hk_.2) hs_)) (fun k_ hk_ => hk_.1.2)); replace HB := Aside0.mk (hb); clear hb))
   (try simp only [Act.put, List.setIfInBounds_toArray, List.set_cons_zero, List.set_cons_succ])
   go_cut [78] (fun v78 wc => ∃ (kq : Nat) (x78_50 : Bool), v78 = .bool x78_50 ∧ Aside0 (laws_FnExactPlayPair.j1 kq l0 t1493 t1496 t1510 x78_50 t1484 t1487 t1490 t1501 t1504 t1507 = some r) ∧ Aside0 (kq ≤ kj7) ∧ Aside0 (Kd.R Kd.bool 4 wc w.heap.size (fun k_ => no_ v1511 k_) v1494 t1493) ∧ Aside0 (Kd.R Kd.bool 4 wc w.heap.size (fun k_ => no_ v1494 k_) v1511 t1510) ∧ Aside0 (Kd.R (Kd.int .i64) 3 wc w.heap.size (fun k_ => no_ (.slice Ao15 t1487.length co15) k_ ∧ no_ (.slice Ao21 t1501.length co21) k_ ∧ no_ (.slice Ao24 t1504.length co24) k_) (.slice Ao13 t1484.length co13) t1484) ∧ Aside0 (Kd.R (Kd.int .i64) 3 wc w.heap.size (fun k_ => no_ (.slice Ao13 t1484.length co13) k_ ∧ no_ (.slice Ao21 t1501.length co21) k_ ∧ no_ (.slice Ao24 t1504.length co24) k_) (.slice Ao15 t1487.length co15) t1487) ∧ Aside0 (Kd.R k127 127 wc w.heap.size (fun k_ => no_ (.slice Ao25 t1507.length co25) k_) (.slice Ao16 t1490.length co16) t1490) ∧ Aside0 (Kd.R (Kd.int .i64) 3 wc w.heap.size (fun k_ => no_ (.slice Ao13 t1484.length co13) k_ ∧ no_ (.slice Ao15 t1487.length co15) k_ ∧ no_ (.slice Ao24 t1504.length co24) k_) (.slice Ao21 t1501.length co21) t1501) ∧ Aside0 (Kd.R (Kd.int .i64) 3 wc w.heap.size (fun k_ => no_ (.slice Ao13 t1484.length co13) k_ ∧ no_ (.slice Ao15 t1487.length co15) k_ ∧ no_ (.slice Ao21 t1501.length co21) k_) (.slice Ao24 t1504.length co24) t1504) ∧ Aside0 (Kd.R k127 127 wc w.heap.size (fun k_ => no_ (.slice Ao16 t1490.length co16) k_) (.slice Ao25 t1507.length co25) t1507) ∧ Aside0 (wc.heap[gb1497]? = some (.cells #[(.slice Ao13 t1484.length co13), (.slice Ao15 t1487.length co15), (.slice Ao16 t1490.length co16)] 47 (0, 0))) ∧ Aside0 (wc.heap[gb1514]? = some (.cells #[(.slice Ao21 t1501.length co21), (.slice Ao24 t1504.length co24), (.slice Ao25 t1507.length co25)] 47 (0, 0))) ∧ Aside0 (Below w.heap.size w wc))
   case first =>
    have H := HC51.out
    clear HC51
    by_cases c56 : t1521 < 0
    ·rw [if_pos c56] at H
     have c56b0 : decide (t1521 < 0) = true := decide_eq_true c56
     clear c56
     (first | rw [c56b0] | (simp only [i64_w, i32_w]; rw [c56b0]) | skip)
     have H' := Aside0.mk H
     clear H
     go_wp2
     go_meet
     case rel => exact ⟨_, (true), (by first | rfl | (simp; done) | (simp [*]; done)), H', ⟨by have := HJ7.out; first | omega | exact Nat.le_refl _⟩, ⟨ra HO_5.out⟩, ⟨ra HO_9.out⟩, ⟨ra HO_1498000.out⟩, ⟨ra HO_1498001.out⟩, ⟨ra HO_1498002.out⟩, ⟨ra HO_1515000.out⟩, ⟨ra HO_1515001.out⟩, ⟨ra HO_1515002.out⟩, ⟨by (with_reducible repeat (first | refine blk_drewN ?_ _ | refine blk_drew ?_ | refine blk_alloc ?_ _)); exact BK1497.out⟩, ⟨by (with_reducible repeat (first | refine blk_drewN ?_ _ | refine blk_drew ?_ | refine blk_alloc ?_ _)); exact BK1514.out⟩, ⟨hB HB⟩⟩
    rw [if_neg c56] at H
    have c56b0 : decide (t1521 < 0) = false := decide_eq_false c56
    clear c56
    (first | rw [c56b0] | (simp only [i64_w, i32_w]; rw [c56b0]) | skip)
    replace H := Option.bind_eq_some_iff.mp H
    obtain ⟨t1523, A570, H⟩ := H
    replace H : (if t1523 = true then ((laws_eqBoolS.f kj7 t1510 t1493).bind fun t1524 => (if t1524 = true then (laws_FnExactPlayPair.j1 kj7 l0 t1493 t1496 t1510 (t1513 != t1496) t1484 t1487 t1490 t1501 t1504 t1507) else (laws_FnExactPlayPair.j1 kj7 l0 t1493 t1496 t1510 true t1484 t1487 t1490 t1501 t1504 t1507))) else (laws_FnExactPlayPair.j1 kj7 l0 t1493 t1496 t1510 true t1484 t1487 t1490 t1501 t1504 t1507)) = some r := H
    have A57 := Aside0.mk A570
    clear A570
    by_cases c58 : t1523 = true
    rotate_left
    ·replace c58 := Bool.eq_false_iff.mpr c58
     subst c58
     rw [if_neg (show ¬ (false = true) by decide)] at H
     have H' := Aside0.mk H
     clear H
     have hnb73 := NB1514_1497.out
     have hnc73 := NB1497_1514.out
     have hcz74_0 : w55.cell? ⟨gb1514, 0, none⟩ = some (.slice Ao21 t1501.length co21) := bc_ BK1514 0
     have hcz74_1 : w55.cell? ⟨gb1514, 1, none⟩ = some (.slice Ao24 t1504.length co24) := bc_ BK1514 1
     have hcz74_2 : w55.cell? ⟨gb1514, 2, none⟩ = some (.slice Ao25 t1507.length co25) := bc_ BK1514 2
     have hfz74_0 := blk_frozen BK1514.out 0
     have hfz74_1 := blk_frozen BK1514.out 1
     have hfz74_2 := blk_frozen BK1514.out 2
     have hcz75_0 : w55.cell? ⟨gb1497, 0, none⟩ = some (.slice Ao13 t1484.length co13) := bc_ BK1497 0
     have hcz75_1 : w55.cell? ⟨gb1497, 1, none⟩ = some (.slice Ao15 t1487.length co15) := bc_ BK1497 1
     have hcz75_2 : w55.cell? ⟨gb1497, 2, none⟩ = some (.slice Ao16 t1490.length co16) := bc_ BK1497 2
     have hfz75_0 := blk_frozen BK1497.out 0
     have hfz75_1 := blk_frozen BK1497.out 1
     have hfz75_2 := blk_frozen BK1497.out 2
     go_wp2_with (first | (go_at_call 34; (with_reducible refine (laws_eqPair.calls kj7 _ _ t1501 _ _ t1504 _ _ t1507 _ _ t1484 _ _ t1487 _ _ t1490 false _ ?side1 ?side2 ?side3 ?side4 ?side5 ?side6 ?side7 ?side8 ?side9 ?side10 ?side11 ?side12 A57.out).mono ?_); (case side1 => exact ca (Kd.R_reads' HO_1515000.out).2.2); (case side2 => exact (Kd.R_reads' HO_1515000.out).2.1); (case side3 => exact ca (Kd.R_reads' HO_1515001.out).2.2); (case side4 => exact (Kd.R_reads' HO_1515001.out).2.1); (case side5 => exact ca (Kd.R_reads' HO_1515002.out).2.2); (case side6 => exact (Kd.R_reads' HO_1515002.out).2.1); (case side7 => exact ca (Kd.R_reads' HO_1498000.out).2.2); (case side8 => exact (Kd.R_reads' HO_1498000.out).2.1); (case side9 => exact ca (Kd.R_reads' HO_1498001.out).2.2); (case side10 => exact (Kd.R_reads' HO_1498001.out).2.1); (case side11 => exact ca (Kd.R_reads' HO_1498002.out).2.2); (case side12 => exact (Kd.R_reads' HO_1498002.out).2.1); rintro e w76 ⟨rfl, hb⟩; replace HO_5 := rb_ HO_5 hb; replace HO_7 := rb_ HO_7 hb; replace HO_9 := rb_ HO_9 hb; replace HO_1498000 := rb_ HO_1498000 hb; replace HO_1498001 := rb_ HO_1498001 hb; replace HO_1498002 := rb_ HO_1498002 hb; replace HO_1515000 := rb_ HO_1515000 hb; replace HO_1515001 := rb_ HO_1515001 hb; replace HO_1515002 := rb_ HO_1515002 hb; replace HO1519 := rb_ HO1519 hb; replace BK1497 := bb_ BK1497 hb; replace BK1514 := bb_ BK1514 hb; replace HB := bst_ HB hb; clear hb))
     go_meet
     case rel => exact ⟨_, (true), (by first | rfl | (simp; done) | (simp [*]; done)), H', ⟨by have := HJ7.out; first | omega | exact Nat.le_refl _⟩, ⟨ra HO_5.out⟩, ⟨ra HO_9.out⟩, ⟨ra HO_1498000.out⟩, ⟨ra HO_1498001.out⟩, ⟨ra HO_1498002.out⟩, ⟨ra HO_1515000.out⟩, ⟨ra HO_1515001.out⟩, ⟨ra HO_1515002.out⟩, ⟨by (with_reducible repeat (first | refine blk_drewN ?_ _ | refine blk_drew ?_ | refine blk_alloc ?_ _)); exact BK1497.out⟩, ⟨by (with_reducible repeat (first | refine blk_drewN ?_ _ | refine blk_drew ?_ | refine blk_alloc ?_ _)); exact BK1514.out⟩, ⟨hB HB⟩⟩
    subst c58
    rw [if_pos rfl] at H
    replace H := Option.bind_eq_some_iff.mp H
    obtain ⟨t1524, A590, H⟩ := H
    replace H : (if t1524 = true then (laws_FnExactPlayPair.j1 kj7 l0 t1493 t1496 t1510 (t1513 != t1496) t1484 t1487 t1490 t1501 t1504 t1507) else (laws_FnExactPlayPair.j1 kj7 l0 t1493 t1496 t1510 true t1484 t1487 t1490 t1501 t1504 t1507)) = some r := H
    have A59 := Aside0.mk A590
    clear A590
    by_cases c60 : t1524 = true
    ·subst c60
     rw [if_pos rfl] at H
     have H' := Aside0.mk H
     clear H
     have hnb61 := NB1514_1497.out
     have hnc61 := NB1497_1514.out
     have hcz62_0 : w55.cell? ⟨gb1514, 0, none⟩ = some (.slice Ao21 t1501.length co21) := bc_ BK1514 0
     have hcz62_1 : w55.cell? ⟨gb1514, 1, none⟩ = some (.slice Ao24 t1504.length co24) := bc_ BK1514 1
     have hcz62_2 : w55.cell? ⟨gb1514, 2, none⟩ = some (.slice Ao25 t1507.length co25) := bc_ BK1514 2
     have hfz62_0 := blk_frozen BK1514.out 0
     have hfz62_1 := blk_frozen BK1514.out 1
     have hfz62_2 := blk_frozen BK1514.out 2
     have hcz63_0 : w55.cell? ⟨gb1497, 0, none⟩ = some (.slice Ao13 t1484.length co13) := bc_ BK1497 0
     have hcz63_1 : w55.cell? ⟨gb1497, 1, none⟩ = some (.slice Ao15 t1487.length co15) := bc_ BK1497 1
     have hcz63_2 : w55.cell? ⟨gb1497, 2, none⟩ = some (.slice Ao16 t1490.length co16) := bc_ BK1497 2
     have hfz63_0 := blk_frozen BK1497.out 0
     have hfz63_1 := blk_frozen BK1497.out 1
     have hfz63_2 := blk_frozen BK1497.out 2
     go_wp2_with (first | (go_at_call 34; (with_reducible refine (laws_eqPair.calls kj7 _ _ t1501 _ _ t1504 _ _ t1507 _ _ t1484 _ _ t1487 _ _ t1490 true _ ?side1 ?side2 ?side3 ?side4 ?side5 ?side6 ?side7 ?side8 ?side9 ?side10 ?side11 ?side12 A57.out).mono ?_); (case side1 => exact ca (Kd.R_reads' HO_1515000.out).2.2); (case side2 => exact (Kd.R_reads' HO_1515000.out).2.1); (case side3 => exact ca (Kd.R_reads' HO_1515001.out).2.2); (case side4 => exact (Kd.R_reads' HO_1515001.out).2.1); (case side5 => exact ca (Kd.R_reads' HO_1515002.out).2.2); (case side6 => exact (Kd.R_reads' HO_1515002.out).2.1); (case side7 => exact ca (Kd.R_reads' HO_1498000.out).2.2); (case side8 => exact (Kd.R_reads' HO_1498000.out).2.1); (case side9 => exact ca (Kd.R_reads' HO_1498001.out).2.2); (case side10 => exact (Kd.R_reads' HO_1498001.out).2.1); (case side11 => exact ca (Kd.R_reads' HO_1498002.out).2.2); (case side12 => exact (Kd.R_reads' HO_1498002.out).2.1); rintro e w64 ⟨rfl, hb⟩; replace HO_5 := rb_ HO_5 hb; replace HO_7 := rb_ HO_7 hb; replace HO_9 := rb_ HO_9 hb; replace HO_1498000 := rb_ HO_1498000 hb; replace HO_1498001 := rb_ HO_1498001 hb; replace HO_1498002 := rb_ HO_1498002 hb; replace HO_1515000 := rb_ HO_1515000 hb; replace HO_1515001 := rb_ HO_1515001 hb; replace HO_1515002 := rb_ HO_1515002 hb; replace HO1519 := rb_ HO1519 hb; replace BK1497 := bb_ BK1497 hb; replace BK1514 := bb_ BK1514 hb; replace HB := bst_ HB hb; clear hb; obtain ⟨Ao65, co65, eo65⟩ := Kd.R_slice HO_9.out; subst eo65; obtain ⟨Ao66, co66, eo66⟩ := Kd.R_slice HO_5.out; subst eo66) | (go_at_call 57; (with_reducible refine (laws_eqBoolS.calls kj7 _ _ t1510 _ _ t1493 true _ ?side1 ?side2 ?side3 ?side4 A59.out).mono ?_); (case side1 => exact ca (Kd.R_reads' HO_9.out).2.2); (case side2 => exact (Kd.R_reads' HO_9.out).2.1); (case side3 => exact ca (Kd.R_reads' HO_5.out).2.2); (case side4 => exact (Kd.R_reads' HO_5.out).2.1); rintro e w' ⟨rfl, ⟨nd, rfl⟩⟩))
     go_meet
     case rel => exact ⟨_, ((t1513 != t1496)), (by first | rfl | (simp; done) | (simp [*]; done)), H', ⟨by have := HJ7.out; first | omega | exact Nat.le_refl _⟩, ⟨ra HO_5.out⟩, ⟨ra HO_9.out⟩, ⟨ra HO_1498000.out⟩, ⟨ra HO_1498001.out⟩, ⟨ra HO_1498002.out⟩, ⟨ra HO_1515000.out⟩, ⟨ra HO_1515001.out⟩, ⟨ra HO_1515002.out⟩, ⟨by (with_reducible repeat (first | refine blk_drewN ?_ _ | refine blk_drew ?_ | refine blk_alloc ?_ _)); exact BK1497.out⟩, ⟨by (with_reducible repeat (first | refine blk_drewN ?_ _ | refine blk_drew ?_ | refine blk_alloc ?_ _)); exact BK1514.out⟩, ⟨hB HB⟩⟩
    replace c60 := Bool.eq_false_iff.mpr c60
    subst c60
    rw [if_neg (show ¬ (false = true) by decide)] at H
    have H' := Aside0.mk H
    clear H
    have hnb67 := NB1514_1497.out
    have hnc67 := NB1497_1514.out
    have hcz68_0 : w55.cell? ⟨gb1514, 0, none⟩ = some (.slice Ao21 t1501.length co21) := bc_ BK1514 0
    have hcz68_1 : w55.cell? ⟨gb1514, 1, none⟩ = some (.slice Ao24 t1504.length co24) := bc_ BK1514 1
    have hcz68_2 : w55.cell? ⟨gb1514, 2, none⟩ = some (.slice Ao25 t1507.length co25) := bc_ BK1514 2
    have hfz68_0 := blk_frozen BK1514.out 0
    have hfz68_1 := blk_frozen BK1514.out 1
    have hfz68_2 := blk_frozen BK1514.out 2
    have hcz69_0 : w55.cell? ⟨gb1497, 0, none⟩ = some (.slice Ao13 t1484.length co13) := bc_ BK1497 0
    have hcz69_1 : w55.cell? ⟨gb1497, 1, none⟩ = some (.slice Ao15 t1487.length co15) := bc_ BK1497 1
    have hcz69_2 : w55.cell? ⟨gb1497, 2, none⟩ = some (.slice Ao16 t1490.length co16) := bc_ BK1497 2
    have hfz69_0 := blk_frozen BK1497.out 0
    have hfz69_1 := blk_frozen BK1497.out 1
    have hfz69_2 := blk_frozen BK1497.out 2
    go_wp2_with (first | (go_at_call 34; (with_reducible refine (laws_eqPair.calls kj7 _ _ t1501 _ _ t1504 _ _ t1507 _ _ t1484 _ _ t1487 _ _ t1490 true _ ?side1 ?side2 ?side3 ?side4 ?side5 ?side6 ?side7 ?side8 ?side9 ?side10 ?side11 ?side12 A57.out).mono ?_); (case side1 => exact ca (Kd.R_reads' HO_1515000.out).2.2); (case side2 => exact (Kd.R_reads' HO_1515000.out).2.1); (case side3 => exact ca (Kd.R_reads' HO_1515001.out).2.2); (case side4 => exact (Kd.R_reads' HO_1515001.out).2.1); (case side5 => exact ca (Kd.R_reads' HO_1515002.out).2.2); (case side6 => exact (Kd.R_reads' HO_1515002.out).2.1); (case side7 => exact ca (Kd.R_reads' HO_1498000.out).2.2); (case side8 => exact (Kd.R_reads' HO_1498000.out).2.1); (case side9 => exact ca (Kd.R_reads' HO_1498001.out).2.2); (case side10 => exact (Kd.R_reads' HO_1498001.out).2.1); (case side11 => exact ca (Kd.R_reads' HO_1498002.out).2.2); (case side12 => exact (Kd.R_reads' HO_1498002.out).2.1); rintro e w70 ⟨rfl, hb⟩; replace HO_5 := rb_ HO_5 hb; replace HO_7 := rb_ HO_7 hb; replace HO_9 := rb_ HO_9 hb; replace HO_1498000 := rb_ HO_1498000 hb; replace HO_1498001 := rb_ HO_1498001 hb; replace HO_1498002 := rb_ HO_1498002 hb; replace HO_1515000 := rb_ HO_1515000 hb; replace HO_1515001 := rb_ HO_1515001 hb; replace HO_1515002 := rb_ HO_1515002 hb; replace HO1519 := rb_ HO1519 hb; replace BK1497 := bb_ BK1497 hb; replace BK1514 := bb_ BK1514 hb; replace HB := bst_ HB hb; clear hb; obtain ⟨Ao71, co71, eo71⟩ := Kd.R_slice HO_9.out; subst eo71; obtain ⟨Ao72, co72, eo72⟩ := Kd.R_slice HO_5.out; subst eo72) | (go_at_call 57; (with_reducible refine (laws_eqBoolS.calls kj7 _ _ t1510 _ _ t1493 false _ ?side1 ?side2 ?side3 ?side4 A59.out).mono ?_); (case side1 => exact ca (Kd.R_reads' HO_9.out).2.2); (case side2 => exact (Kd.R_reads' HO_9.out).2.1); (case side3 => exact ca (Kd.R_reads' HO_5.out).2.2); (case side4 => exact (Kd.R_reads' HO_5.out).2.1); rintro e w' ⟨rfl, ⟨nd, rfl⟩⟩))
    go_meet
    case rel => exact ⟨_, (true), (by first | rfl | (simp; done) | (simp [*]; done)), H', ⟨by have := HJ7.out; first | omega | exact Nat.le_refl _⟩, ⟨ra HO_5.out⟩, ⟨ra HO_9.out⟩, ⟨ra HO_1498000.out⟩, ⟨ra HO_1498001.out⟩, ⟨ra HO_1498002.out⟩, ⟨ra HO_1515000.out⟩, ⟨ra HO_1515001.out⟩, ⟨ra HO_1515002.out⟩, ⟨by (with_reducible repeat (first | refine blk_drewN ?_ _ | refine blk_drew ?_ | refine blk_alloc ?_ _)); exact BK1497.out⟩, ⟨by (with_reducible repeat (first | refine blk_drewN ?_ _ | refine blk_drew ?_ | refine blk_alloc ?_ _)); exact BK1514.out⟩, ⟨hB HB⟩⟩
   case rest =>
    clear HC51
    try clear c3
    try clear c3b0
    try clear c46
    try clear c49
    try clear hcz14_0
    try clear hcz14_1
    try clear hcz14_2
    try clear hcz23_0
    try clear hcz23_1
    try clear hcz23_2
    try clear hfz14_0
    try clear hfz14_1
    try clear hfz14_2
    try clear hfz23_0
    try clear hfz23_1
    try clear hfz23_2
    obtain ⟨kq, x78_50, rfl, HA, HJ50, HO_5, HO_9, HO_1498000, HO_1498001, HO_1498002, HO_1515000, HO_1515001, HO_1515002, BK1497, BK1514, HB⟩ := hcut
    cases kq with
    | zero => exact absurd HA.out (by simp [laws_FnExactPlayPair.j1])
    | succ kj50 =>
     have H := HA.out
     clear HA
     simp only [laws_FnExactPlayPair.j1] at H
     by_cases c77 : x78_50 = true
     ·subst c77
      rw [if_pos rfl] at H
      obtain rfl := Option.some.inj H
      go_wp2
      go_ret
      exact ⟨by first | rfl | (simp [errW_none, errW_some] <;> rfl) | (simp [*, errW_none, errW_some] <;> rfl), by repeat (first | (with_reducible first | exact HB.out | apply below_alloc | apply pw_below_drewN | apply below_drew1 | refine below_set ?_ GE1497.out | refine below_set ?_ GE1514.out) | exact HB.out)⟩
     replace c77 := Bool.eq_false_iff.mpr c77
     subst c77
     rw [if_neg (show ¬ (false = true) by decide)] at H
     replace H := Option.bind_eq_some_iff.mp H
     obtain ⟨⟨t1525, t1526, t1527, t1528⟩, A780, H⟩ := H
     replace H : ((laws_markBoolS.f kj50 t1510 t1525).bind fun bt1529 => ((laws_heldPair.f kj50 t1526 t1527 t1528 1).bind fun t1531 => (if t1531 < 0 then (some false) else ((laws_heldBoolS.f kj50 bt1529.2 t1531).bind fun t1532 => (if t1532 < 0 then (some false) else (if t1532 = bt1529.1 then ((laws_toPairStepS.f kj50 l0).bind fun t1533 => ((impl_PlayPair.f kj50 t1533).bind fun bt1536 => ((laws_eqPair.f kj50 bt1536.1 bt1536.2.1 bt1536.2.2.1 t1484 t1487 t1490).bind fun t1550 => (if t1550 = true then ((laws_eqBoolS.f kj50 bt1536.2.2.2.1 t1493).bind fun t1551 => (if t1551 = true then (laws_FnExactPlayPair.j2 kj50 bt1529.2 bt1529.1 (bt1536.2.2.2.2 != t1496) t1526 t1527 t1528) else (laws_FnExactPlayPair.j2 kj50 bt1529.2 bt1529.1 true t1526 t1527 t1528))) else (laws_FnExactPlayPair.j2 kj50 bt1529.2 bt1529.1 true t1526 t1527 t1528))))) else (some false))))))) = some r := H
     have A78 := Aside0.mk A780
     clear A780
     replace H := Option.bind_eq_some_iff.mp H
     obtain ⟨⟨t1529, t1530⟩, A790, H⟩ := H
     replace H : ((laws_heldPair.f kj50 t1526 t1527 t1528 1).bind fun t1531 => (if t1531 < 0 then (some false) else ((laws_heldBoolS.f kj50 t1530 t1531).bind fun t1532 => (if t1532 < 0 then (some false) else (if t1532 = t1529 then ((laws_toPairStepS.f kj50 l0).bind fun t1533 => ((impl_PlayPair.f kj50 t1533).bind fun bt1536 => ((laws_eqPair.f kj50 bt1536.1 bt1536.2.1 bt1536.2.2.1 t1484 t1487 t1490).bind fun t1550 => (if t1550 = true then ((laws_eqBoolS.f kj50 bt1536.2.2.2.1 t1493).bind fun t1551 => (if t1551 = true then (laws_FnExactPlayPair.j2 kj50 t1530 t1529 (bt1536.2.2.2.2 != t1496) t1526 t1527 t1528) else (laws_FnExactPlayPair.j2 kj50 t1530 t1529 true t1526 t1527 t1528))) else (laws_FnExactPlayPair.j2 kj50 t1530 t1529 true t1526 t1527 t1528))))) else (some false)))))) = some r := H
     have A79 := Aside0.mk A790
     clear A790
     replace H := Option.bind_eq_some_iff.mp H
     obtain ⟨t1531, A800, H⟩ := H
     replace H : (if t1531 < 0 then (some false) else ((laws_heldBoolS.f kj50 t1530 t1531).bind fun t1532 => (if t1532 < 0 then (some false) else (if t1532 = t1529 then ((laws_toPairStepS.f kj50 l0).bind fun t1533 => ((impl_PlayPair.f kj50 t1533).bind fun bt1536 => ((laws_eqPair.f kj50 bt1536.1 bt1536.2.1 bt1536.2.2.1 t1484 t1487 t1490).bind fun t1550 => (if t1550 = true then ((laws_eqBoolS.f kj50 bt1536.2.2.2.1 t1493).bind fun t1551 => (if t1551 = true then (laws_FnExactPlayPair.j2 kj50 t1530 t1529 (bt1536.2.2.2.2 != t1496) t1526 t1527 t1528) else (laws_FnExactPlayPair.j2 kj50 t1530 t1529 true t1526 t1527 t1528))) else (laws_FnExactPlayPair.j2 kj50 t1530 t1529 true t1526 t1527 t1528))))) else (some false))))) = some r := H
     have A80 := Aside0.mk A800
     clear A800
     by_cases c81 : t1531 < 0
     ·rw [if_pos c81] at H
      have c81b0 : decide (t1531 < 0) = true := decide_eq_true c81
      clear c81
      obtain rfl := Option.some.inj H
      have hnb82 := NB1514_1497.out
      have hnc82 := NB1497_1514.out
      have hcz83_0 : wc.cell? ⟨gb1514, 0, none⟩ = some (.slice Ao21 t1501.length co21) := bc_ BK1514 0
      have hcz83_1 : wc.cell? ⟨gb1514, 1, none⟩ = some (.slice Ao24 t1504.length co24) := bc_ BK1514 1
      have hcz83_2 : wc.cell? ⟨gb1514, 2, none⟩ = some (.slice Ao25 t1507.length co25) := bc_ BK1514 2
      have hfz83_0 := blk_frozen BK1514.out 0
      have hfz83_1 := blk_frozen BK1514.out 1
      have hfz83_2 := blk_frozen BK1514.out 2
      go_wp2_with (first | ((with_reducible refine gate_callee (f := 35) rfl ?_); refine goesL_ (some 81) rfl rfl Try.func35 (by kernel_rfl) rfl #[.agg #[.slice Ao21 t1501.length co21, .slice Ao24 t1504.length co24, .slice Ao25 t1507.length co25], .int .i64 1] rfl tm_ ?_; (with_reducible refine (laws_markPair.calls kj50 (fun k_ => some k_ = (.slice Ao21 t1501.length co21 : Value).ownBlock) (.slice Ao21 t1501.length co21) t1501 (fun k_ => some k_ = (.slice Ao24 t1504.length co24 : Value).ownBlock) (.slice Ao24 t1504.length co24) t1504 (fun k_ => some k_ = (.slice Ao25 t1507.length co25 : Value).ownBlock) (.slice Ao25 t1507.length co25) t1507 1 t1525 t1526 t1527 t1528 w _ ?side1 ?side2 ?side3 ?side4 ?side5 ?side6 A78.out).mono ?_); (case side1 => repeat (first | (with_reducible first | exact HB.out | apply below_alloc | apply pw_below_drewN | apply below_drew1 | refine below_set ?_ GE1497.out | refine below_set ?_ GE1514.out) | exact HB.out)); (case side2 => exact Kd.R_tight rfl HO_1515000.out); (case side3 => exact fun k_ e_ => (HO_1515000.out.1 k_ e_.symm).2.2); (case side4 => exact Kd.R_tight rfl HO_1515001.out); (case side5 => exact fun k_ e_ => (HO_1515001.out.1 k_ e_.symm).2.2); (case side6 => exact Kd.R_tight rfl HO_1515002.out); rintro e w84 ⟨rfl, hy0, hy1, hy2, hb, hkp⟩; refine ⟨_, rfl, ?_⟩; replace HO_5 := Aside0.mk (Kd.R_mono (ok' := fun k_ => no_ v1511 k_) (Kd.R_keptB ((Kd.R_apart' (Kd.R_apart' (Kd.R_apart' HO_5.out (Kd.R_typed HO_1515000.out) (by decide)) (Kd.R_typed HO_1515001.out) (by decide)) (Kd.R_typed HO_1515002.out) (by decide))) hkp (fun k_ hk_ hs_ => Or.elim hs_ (fun e_ => (hk_.1.1.2) e_) (fun e_ => Or.elim e_ (fun e_ => (hk_.1.2) e_) (fun e_ => (hk_.2) e_)))) (fun k_ hk_ => hk_.1.1.1.1)); replace HO_9 := Aside0.mk (Kd.R_mono (ok' := fun k_ => no_ v1494 k_) (Kd.R_keptB ((Kd.R_apart' (Kd.R_apart' (Kd.R_apart' HO_9.out (Kd.R_typed HO_1515000.out) (by decide)) (Kd.R_typed HO_1515001.out) (by decide)) (Kd.R_typed HO_1515002.out) (by decide))) hkp (fun k_ hk_ hs_ => Or.elim hs_ (fun e_ => (hk_.1.1.2) e_) (fun e_ => Or.elim e_ (fun e_ => (hk_.1.2) e_) (fun e_ => (hk_.2) e_)))) (fun k_ hk_ => hk_.1.1.1.1)); replace HO_1498000 := Aside0.mk (Kd.R_mono (ok' := fun k_ => no_ (.slice Ao15 t1487.length co15) k_ ∧ no_ (.slice Ao21 t1501.length co21) k_ ∧ no_ (.slice Ao24 t1504.length co24) k_) (Kd.R_keptB ((Kd.R_apart' HO_1498000.out (Kd.R_typed HO_1515002.out) (by decide))) hkp (fun k_ hk_ hs_ => Or.elim hs_ (fun e_ => (hk_.1.2.1) e_) (fun e_ => Or.elim e_ (fun e_ => (hk_.1.2.2) e_) (fun e_ => (hk_.2) e_)))) (fun k_ hk_ => ⟨hk_.1.1.1, hk_.1.1.2.1, hk_.1.1.2.2⟩)); replace HO_1498001 := Aside0.mk (Kd.R_mono (ok' := fun k_ => no_ (.slice Ao13 t1484.length co13) k_ ∧ no_ (.slice Ao21 t1501.length co21) k_ ∧ no_ (.slice Ao24 t1504.length co24) k_) (Kd.R_keptB ((Kd.R_apart' HO_1498001.out (Kd.R_typed HO_1515002.out) (by decide))) hkp (fun k_ hk_ hs_ => Or.elim hs_ (fun e_ => (hk_.1.2.1) e_) (fun e_ => Or.elim e_ (fun e_ => (hk_.1.2.2) e_) (fun e_ => (hk_.2) e_)))) (fun k_ hk_ => ⟨hk_.1.1.1, hk_.1.1.2.1, hk_.1.1.2.2⟩)); replace HO_1498002 := Aside0.mk (Kd.R_mono (ok' := fun k_ => no_ (.slice Ao25 t1507.length co25) k_) (Kd.R_keptB ((Kd.R_apart' (Kd.R_apart' HO_1498002.out (Kd.R_typed HO_1515000.out) (by decide)) (Kd.R_typed HO_1515001.out) (by decide))) hkp (fun k_ hk_ hs_ => Or.elim hs_ (fun e_ => (hk_.1.2) e_) (fun e_ => Or.elim e_ (fun e_ => (hk_.2) e_) (fun e_ => (hk_.1.1) e_)))) (fun k_ hk_ => hk_.1.1.1)); replace BK1497 := Aside0.mk (blk_kept (ba BK1497.out) hkp (fun hs_ => Or.elim hs_ (kne_ HO_1515000 BK1497) (fun e_ => Or.elim e_ (kne_ HO_1515001 BK1497) (kne_ HO_1515002 BK1497)))); replace BK1514 := Aside0.mk (blk_kept (ba BK1514.out) hkp (fun hs_ => Or.elim hs_ (kne_ HO_1515000 BK1514) (fun e_ => Or.elim e_ (kne_ HO_1515001 BK1514) (kne_ HO_1515002 BK1514)))); replace HO_1515000 := Aside0.mk (Kd.R_reok rfl hy0 (fun k_ e_ => HO_1515000.out.1 k_ e_)); replace HO_1515001 := Aside0.mk (Kd.R_reok rfl hy1 (fun k_ e_ => HO_1515001.out.1 k_ e_)); replace HO_1515002 := Aside0.mk (Kd.R_reok rfl hy2 (fun k_ e_ => HO_1515002.out.1 k_ e_)); replace HB := Aside0.mk (hb); clear hb; obtain ⟨Ao85, co85, eo85⟩ := Kd.R_slice HO_9.out; subst eo85) | ((with_reducible refine gate_callee (f := 60) rfl ?_); refine goesL_ (some 84) rfl rfl Try.func60 (by kernel_rfl) rfl #[.slice Ao85 t1510.length co85, .int .i64 t1525] rfl tm_ ?_; (with_reducible refine (laws_markBoolS.calls kj50 (fun k_ => some k_ = (.slice Ao85 t1510.length co85 : Value).ownBlock) (.slice Ao85 t1510.length co85) t1510 t1525 t1529 t1530 w _ ?side1 ?side2 A79.out).mono ?_); (case side1 => repeat (first | (with_reducible first | exact HB.out | apply below_alloc | apply pw_below_drewN | apply below_drew1 | refine below_set ?_ GE1497.out | refine below_set ?_ GE1514.out) | exact HB.out)); (case side2 => exact Kd.R_tight rfl HO_9.out); rintro e w86 ⟨rfl, hy0, hb, hkp⟩; refine ⟨_, rfl, ?_⟩; replace HO_5 := Aside0.mk (Kd.R_mono (ok' := fun k_ => no_ (.slice Ao85 t1510.length co85) k_) (Kd.R_keptB (HO_5.out) hkp (fun k_ hk_ hs_ => (hk_) hs_)) (fun k_ hk_ => hk_.1)); replace HO_1498000 := Aside0.mk (Kd.R_mono (ok' := fun k_ => no_ (.slice Ao15 t1487.length co15) k_ ∧ no_ (.slice Ao21 t1501.length co21) k_ ∧ no_ (.slice Ao24 t1504.length co24) k_) (Kd.R_keptB ((Kd.R_apart' HO_1498000.out (Kd.R_typed HO_9.out) (by decide))) hkp (fun k_ hk_ hs_ => (hk_.2) hs_)) (fun k_ hk_ => ⟨hk_.1.1.1, hk_.1.1.2.1, hk_.1.1.2.2⟩)); replace HO_1498001 := Aside0.mk (Kd.R_mono (ok' := fun k_ => no_ (.slice Ao13 t1484.length co13) k_ ∧ no_ (.slice Ao21 t1501.length co21) k_ ∧ no_ (.slice Ao24 t1504.length co24) k_) (Kd.R_keptB ((Kd.R_apart' HO_1498001.out (Kd.R_typed HO_9.out) (by decide))) hkp (fun k_ hk_ hs_ => (hk_.2) hs_)) (fun k_ hk_ => ⟨hk_.1.1.1, hk_.1.1.2.1, hk_.1.1.2.2⟩)); replace HO_1498002 := Aside0.mk (Kd.R_mono (ok' := fun k_ => no_ (.slice Ao25 t1507.length co25) k_) (Kd.R_keptB ((Kd.R_apart' HO_1498002.out (Kd.R_typed HO_9.out) (by decide))) hkp (fun k_ hk_ hs_ => (hk_.2) hs_)) (fun k_ hk_ => hk_.1.1)); replace HO_1515000 := Aside0.mk (Kd.R_mono (ok' := fun k_ => no_ (.slice Ao13 t1484.length co13) k_ ∧ no_ (.slice Ao15 t1487.length co15) k_ ∧ no_ (.slice Ao24 t1504.length co24) k_) (Kd.R_keptB ((Kd.R_apart' HO_1515000.out (Kd.R_typed HO_9.out) (by decide))) hkp (fun k_ hk_ hs_ => (hk_.2) hs_)) (fun k_ hk_ => ⟨hk_.1.1.1, hk_.1.1.2.1, hk_.1.1.2.2⟩)); replace HO_1515001 := Aside0.mk (Kd.R_mono (ok' := fun k_ => no_ (.slice Ao13 t1484.length co13) k_ ∧ no_ (.slice Ao15 t1487.length co15) k_ ∧ no_ (.slice Ao21 t1501.length co21) k_) (Kd.R_keptB ((Kd.R_apart' HO_1515001.out (Kd.R_typed HO_9.out) (by decide))) hkp (fun k_ hk_ hs_ => (hk_.2) hs_)) (fun k_ hk_ => ⟨hk_.1.1.1, hk_.1.1.2.1, hk_.1.1.2.2⟩)); replace HO_1515002 := Aside0.mk (Kd.R_mono (ok' := fun k_ => no_ (.slice Ao16 t1490.length co16) k_) (Kd.R_keptB ((Kd.R_apart' HO_1515002.out (Kd.R_typed HO_9.out) (by decide))) hkp (fun k_ hk_ hs_ => (hk_.2) hs_)) (fun k_ hk_ => hk_.1.1)); replace BK1497 := Aside0.mk (blk_kept (ba BK1497.out) hkp (fun hs_ => (fun e_ => (Kd.R_ne HO_9.out BK1497.out (by decide)) e_) hs_)); replace BK1514 := Aside0.mk (blk_kept (ba BK1514.out) hkp (fun hs_ => (fun e_ => (Kd.R_ne HO_9.out BK1514.out (by decide)) e_) hs_)); replace HO_9 := Aside0.mk (Kd.R_reok rfl hy0 (fun k_ e_ => HO_9.out.1 k_ e_)); replace HB := Aside0.mk (hb); clear hb; have hcz87_0 : w86.cell? ⟨gb1514, 0, none⟩ = some (.slice Ao21 t1501.length co21) := bc_ BK1514 0; have hcz87_1 : w86.cell? ⟨gb1514, 1, none⟩ = some (.slice Ao24 t1504.length co24) := bc_ BK1514 1; have hcz87_2 : w86.cell? ⟨gb1514, 2, none⟩ = some (.slice Ao25 t1507.length co25) := bc_ BK1514 2; have hfz87_0 := blk_frozen BK1514.out 0; have hfz87_1 := blk_frozen BK1514.out 1; have hfz87_2 := blk_frozen BK1514.out 2) | ((with_reducible refine gate_callee (f := 36) rfl ?_); refine goesL_ (some 87) rfl rfl Try.func36 (by kernel_rfl) rfl #[.agg #[.slice Ao21 t1526.length co21, .slice Ao24 t1527.length co24, .slice Ao25 t1528.length co25], .int .i64 1] rfl (by (try simp only [List.map_toArray, List.map_cons, List.map_nil]); first | done | (rw [show t1526.length = t1501.length from (Kd.R_reads' HO_1515000.out).1.symm, show t1527.length = t1504.length from (Kd.R_reads' HO_1515001.out).1.symm, show t1528.length = t1507.length from (Kd.R_reads' HO_1515002.out).1.symm] <;> rfl) | rfl | (simp only [List.length_drop, List.length_take]; rfl)) ?_; (with_reducible refine (laws_heldPair.calls kj50 _ _ t1526 _ _ t1527 _ _ t1528 1 t1531 _ ?side1 ?side2 ?side3 ?side4 ?side5 ?side6 A80.out).mono ?_); (case side1 => exact ca (Kd.R_reads' HO_1515000.out).2.2); (case side2 => rw [show t1526.length = t1501.length from (Kd.R_reads' HO_1515000.out).1.symm]; exact (Kd.R_reads' HO_1515000.out).2.1); (case side3 => exact ca (Kd.R_reads' HO_1515001.out).2.2); (case side4 => rw [show t1527.length = t1504.length from (Kd.R_reads' HO_1515001.out).1.symm]; exact (Kd.R_reads' HO_1515001.out).2.1); (case side5 => exact ca (Kd.R_reads' HO_1515002.out).2.2); (case side6 => rw [show t1528.length = t1507.length from (Kd.R_reads' HO_1515002.out).1.symm]; exact (Kd.R_reads' HO_1515002.out).2.1); rintro e w88 ⟨rfl, hb⟩; refine ⟨_, rfl, ?_⟩; replace HO_5 := rb_ HO_5 hb; replace HO_9 := rb_ HO_9 hb; replace HO_1498000 := rb_ HO_1498000 hb; replace HO_1498001 := rb_ HO_1498001 hb; replace HO_1498002 := rb_ HO_1498002 hb; replace HO_1515000 := rb_ HO_1515000 hb; replace HO_1515001 := rb_ HO_1515001 hb; replace HO_1515002 := rb_ HO_1515002 hb; replace BK1497 := bb_ BK1497 hb; replace BK1514 := bb_ BK1514 hb; replace HB := bst_ HB hb; clear hb))
      go_ret
      exact ⟨by first | rfl | (simp [errW_none, errW_some] <;> rfl) | (simp [*, errW_none, errW_some] <;> rfl), by repeat (first | (with_reducible first | exact HB.out | apply below_alloc | apply pw_below_drewN | apply below_drew1 | refine below_set ?_ GE1497.out | refine below_set ?_ GE1514.out) | exact HB.out)⟩
     rw [if_neg c81] at H
     have c81b0 : decide (t1531 < 0) = false := decide_eq_false c81
     clear c81
     replace H := Option.bind_eq_some_iff.mp H
     obtain ⟨t1532, A890, H⟩ := H
     replace H : (if t1532 < 0 then (some false) else (if t1532 = t1529 then ((laws_toPairStepS.f kj50 l0).bind fun t1533 => ((impl_PlayPair.f kj50 t1533).bind fun bt1536 => ((laws_eqPair.f kj50 bt1536.1 bt1536.2.1 bt1536.2.2.1 t1484 t1487 t1490).bind fun t1550 => (if t1550 = true then ((laws_eqBoolS.f kj50 bt1536.2.2.2.1 t1493).bind fun t1551 => (if t1551 = true then (laws_FnExactPlayPair.j2 kj50 t1530 t1529 (bt1536.2.2.2.2 != t1496) t1526 t1527 t1528) else (laws_FnExactPlayPair.j2 kj50 t1530 t1529 true t1526 t1527 t1528))) else (laws_FnExactPlayPair.j2 kj50 t1530 t1529 true t1526 t1527 t1528))))) else (some false))) = some r := H
     have A89 := Aside0.mk A890
     clear A890
     by_cases c90 : t1532 < 0
     ·rw [if_pos c90] at H
      have c90b0 : decide (t1532 < 0) = true := decide_eq_true c90
      clear c90
      obtain rfl := Option.some.inj H
      have hnb91 := NB1514_1497.out
      have hnc91 := NB1497_1514.out
      have hcz92_0 : wc.cell? ⟨gb1514, 0, none⟩ = some (.slice Ao21 t1501.length co21) := bc_ BK1514 0
      have hcz92_1 : wc.cell? ⟨gb1514, 1, none⟩ = some (.slice Ao24 t1504.length co24) := bc_ BK1514 1
      have hcz92_2 : wc.cell? ⟨gb1514, 2, none⟩ = some (.slice Ao25 t1507.length co25) := bc_ BK1514 2
      have hfz92_0 := blk_frozen BK1514.out 0
      have hfz92_1 := blk_frozen BK1514.out 1
      have hfz92_2 := blk_frozen BK1514.out 2
      go_wp2_with (first | ((with_reducible refine gate_callee (f := 35) rfl ?_); refine goesL_ (some 81) rfl rfl Try.func35 (by kernel_rfl) rfl #[.agg #[.slice Ao21 t1501.length co21, .slice Ao24 t1504.length co24, .slice Ao25 t1507.length co25], .int .i64 1] rfl tm_ ?_; (with_reducible refine (laws_markPair.calls kj50 (fun k_ => some k_ = (.slice Ao21 t1501.length co21 : Value).ownBlock) (.slice Ao21 t1501.length co21) t1501 (fun k_ => some k_ = (.slice Ao24 t1504.length co24 : Value).ownBlock) (.slice Ao24 t1504.length co24) t1504 (fun k_ => some k_ = (.slice Ao25 t1507.length co25 : Value).ownBlock) (.slice Ao25 t1507.length co25) t1507 1 t1525 t1526 t1527 t1528 w _ ?side1 ?side2 ?side3 ?side4 ?side5 ?side6 A78.out).mono ?_); (case side1 => repeat (first | (with_reducible first | exact HB.out | apply below_alloc | apply pw_below_drewN | apply below_drew1 | refine below_set ?_ GE1497.out | refine below_set ?_ GE1514.out) | exact HB.out)); (case side2 => exact Kd.R_tight rfl HO_1515000.out); (case side3 => exact fun k_ e_ => (HO_1515000.out.1 k_ e_.symm).2.2); (case side4 => exact Kd.R_tight rfl HO_1515001.out); (case side5 => exact fun k_ e_ => (HO_1515001.out.1 k_ e_.symm).2.2); (case side6 => exact Kd.R_tight rfl HO_1515002.out); rintro e w93 ⟨rfl, hy0, hy1, hy2, hb, hkp⟩; refine ⟨_, rfl, ?_⟩; replace HO_5 := Aside0.mk (Kd.R_mono (ok' := fun k_ => no_ v1511 k_) (Kd.R_keptB ((Kd.R_apart' (Kd.R_apart' (Kd.R_apart' HO_5.out (Kd.R_typed HO_1515000.out) (by decide)) (Kd.R_typed HO_1515001.out) (by decide)) (Kd.R_typed HO_1515002.out) (by decide))) hkp (fun k_ hk_ hs_ => Or.elim hs_ (fun e_ => (hk_.1.1.2) e_) (fun e_ => Or.elim e_ (fun e_ => (hk_.1.2) e_) (fun e_ => (hk_.2) e_)))) (fun k_ hk_ => hk_.1.1.1.1)); replace HO_9 := Aside0.mk (Kd.R_mono (ok' := fun k_ => no_ v1494 k_) (Kd.R_keptB ((Kd.R_apart' (Kd.R_apart' (Kd.R_apart' HO_9.out (Kd.R_typed HO_1515000.out) (by decide)) (Kd.R_typed HO_1515001.out) (by decide)) (Kd.R_typed HO_1515002.out) (by decide))) hkp (fun k_ hk_ hs_ => Or.elim hs_ (fun e_ => (hk_.1.1.2) e_) (fun e_ => Or.elim e_ (fun e_ => (hk_.1.2) e_) (fun e_ => (hk_.2) e_)))) (fun k_ hk_ => hk_.1.1.1.1)); replace HO_1498000 := Aside0.mk (Kd.R_mono (ok' := fun k_ => no_ (.slice Ao15 t1487.length co15) k_ ∧ no_ (.slice Ao21 t1501.length co21) k_ ∧ no_ (.slice Ao24 t1504.length co24) k_) (Kd.R_keptB ((Kd.R_apart' HO_1498000.out (Kd.R_typed HO_1515002.out) (by decide))) hkp (fun k_ hk_ hs_ => Or.elim hs_ (fun e_ => (hk_.1.2.1) e_) (fun e_ => Or.elim e_ (fun e_ => (hk_.1.2.2) e_) (fun e_ => (hk_.2) e_)))) (fun k_ hk_ => ⟨hk_.1.1.1, hk_.1.1.2.1, hk_.1.1.2.2⟩)); replace HO_1498001 := Aside0.mk (Kd.R_mono (ok' := fun k_ => no_ (.slice Ao13 t1484.length co13) k_ ∧ no_ (.slice Ao21 t1501.length co21) k_ ∧ no_ (.slice Ao24 t1504.length co24) k_) (Kd.R_keptB ((Kd.R_apart' HO_1498001.out (Kd.R_typed HO_1515002.out) (by decide))) hkp (fun k_ hk_ hs_ => Or.elim hs_ (fun e_ => (hk_.1.2.1) e_) (fun e_ => Or.elim e_ (fun e_ => (hk_.1.2.2) e_) (fun e_ => (hk_.2) e_)))) (fun k_ hk_ => ⟨hk_.1.1.1, hk_.1.1.2.1, hk_.1.1.2.2⟩)); replace HO_1498002 := Aside0.mk (Kd.R_mono (ok' := fun k_ => no_ (.slice Ao25 t1507.length co25) k_) (Kd.R_keptB ((Kd.R_apart' (Kd.R_apart' HO_1498002.out (Kd.R_typed HO_1515000.out) (by decide)) (Kd.R_typed HO_1515001.out) (by decide))) hkp (fun k_ hk_ hs_ => Or.elim hs_ (fun e_ => (hk_.1.2) e_) (fun e_ => Or.elim e_ (fun e_ => (hk_.2) e_) (fun e_ => (hk_.1.1) e_)))) (fun k_ hk_ => hk_.1.1.1)); replace BK1497 := Aside0.mk (blk_kept (ba BK1497.out) hkp (fun hs_ => Or.elim hs_ (kne_ HO_1515000 BK1497) (fun e_ => Or.elim e_ (kne_ HO_1515001 BK1497) (kne_ HO_1515002 BK1497)))); replace BK1514 := Aside0.mk (blk_kept (ba BK1514.out) hkp (fun hs_ => Or.elim hs_ (kne_ HO_1515000 BK1514) (fun e_ => Or.elim e_ (kne_ HO_1515001 BK1514) (kne_ HO_1515002 BK1514)))); replace HO_1515000 := Aside0.mk (Kd.R_reok rfl hy0 (fun k_ e_ => HO_1515000.out.1 k_ e_)); replace HO_1515001 := Aside0.mk (Kd.R_reok rfl hy1 (fun k_ e_ => HO_1515001.out.1 k_ e_)); replace HO_1515002 := Aside0.mk (Kd.R_reok rfl hy2 (fun k_ e_ => HO_1515002.out.1 k_ e_)); replace HB := Aside0.mk (hb); clear hb; obtain ⟨Ao94, co94, eo94⟩ := Kd.R_slice HO_9.out; subst eo94) | ((with_reducible refine gate_callee (f := 60) rfl ?_); refine goesL_ (some 84) rfl rfl Try.func60 (by kernel_rfl) rfl #[.slice Ao94 t1510.length co94, .int .i64 t1525] rfl tm_ ?_; (with_reducible refine (laws_markBoolS.calls kj50 (fun k_ => some k_ = (.slice Ao94 t1510.length co94 : Value).ownBlock) (.slice Ao94 t1510.length co94) t1510 t1525 t1529 t1530 w _ ?side1 ?side2 A79.out).mono ?_); (case side1 => repeat (first | (with_reducible first | exact HB.out | apply below_alloc | apply pw_below_drewN | apply below_drew1 | refine below_set ?_ GE1497.out | refine below_set ?_ GE1514.out) | exact HB.out)); (case side2 => exact Kd.R_tight rfl HO_9.out); rintro e w95 ⟨rfl, hy0, hb, hkp⟩; refine ⟨_, rfl, ?_⟩; replace HO_5 := Aside0.mk (Kd.R_mono (ok' := fun k_ => no_ (.slice Ao94 t1510.length co94) k_) (Kd.R_keptB (HO_5.out) hkp (fun k_ hk_ hs_ => (hk_) hs_)) (fun k_ hk_ => hk_.1)); replace HO_1498000 := Aside0.mk (Kd.R_mono (ok' := fun k_ => no_ (.slice Ao15 t1487.length co15) k_ ∧ no_ (.slice Ao21 t1501.length co21) k_ ∧ no_ (.slice Ao24 t1504.length co24) k_) (Kd.R_keptB ((Kd.R_apart' HO_1498000.out (Kd.R_typed HO_9.out) (by decide))) hkp (fun k_ hk_ hs_ => (hk_.2) hs_)) (fun k_ hk_ => ⟨hk_.1.1.1, hk_.1.1.2.1, hk_.1.1.2.2⟩)); replace HO_1498001 := Aside0.mk (Kd.R_mono (ok' := fun k_ => no_ (.slice Ao13 t1484.length co13) k_ ∧ no_ (.slice Ao21 t1501.length co21) k_ ∧ no_ (.slice Ao24 t1504.length co24) k_) (Kd.R_keptB ((Kd.R_apart' HO_1498001.out (Kd.R_typed HO_9.out) (by decide))) hkp (fun k_ hk_ hs_ => (hk_.2) hs_)) (fun k_ hk_ => ⟨hk_.1.1.1, hk_.1.1.2.1, hk_.1.1.2.2⟩)); replace HO_1498002 := Aside0.mk (Kd.R_mono (ok' := fun k_ => no_ (.slice Ao25 t1507.length co25) k_) (Kd.R_keptB ((Kd.R_apart' HO_1498002.out (Kd.R_typed HO_9.out) (by decide))) hkp (fun k_ hk_ hs_ => (hk_.2) hs_)) (fun k_ hk_ => hk_.1.1)); replace HO_1515000 := Aside0.mk (Kd.R_mono (ok' := fun k_ => no_ (.slice Ao13 t1484.length co13) k_ ∧ no_ (.slice Ao15 t1487.length co15) k_ ∧ no_ (.slice Ao24 t1504.length co24) k_) (Kd.R_keptB ((Kd.R_apart' HO_1515000.out (Kd.R_typed HO_9.out) (by decide))) hkp (fun k_ hk_ hs_ => (hk_.2) hs_)) (fun k_ hk_ => ⟨hk_.1.1.1, hk_.1.1.2.1, hk_.1.1.2.2⟩)); replace HO_1515001 := Aside0.mk (Kd.R_mono (ok' := fun k_ => no_ (.slice Ao13 t1484.length co13) k_ ∧ no_ (.slice Ao15 t1487.length co15) k_ ∧ no_ (.slice Ao21 t1501.length co21) k_) (Kd.R_keptB ((Kd.R_apart' HO_1515001.out (Kd.R_typed HO_9.out) (by decide))) hkp (fun k_ hk_ hs_ => (hk_.2) hs_)) (fun k_ hk_ => ⟨hk_.1.1.1, hk_.1.1.2.1, hk_.1.1.2.2⟩)); replace HO_1515002 := Aside0.mk (Kd.R_mono (ok' := fun k_ => no_ (.slice Ao16 t1490.length co16) k_) (Kd.R_keptB ((Kd.R_apart' HO_1515002.out (Kd.R_typed HO_9.out) (by decide))) hkp (fun k_ hk_ hs_ => (hk_.2) hs_)) (fun k_ hk_ => hk_.1.1)); replace BK1497 := Aside0.mk (blk_kept (ba BK1497.out) hkp (fun hs_ => (fun e_ => (Kd.R_ne HO_9.out BK1497.out (by decide)) e_) hs_)); replace BK1514 := Aside0.mk (blk_kept (ba BK1514.out) hkp (fun hs_ => (fun e_ => (Kd.R_ne HO_9.out BK1514.out (by decide)) e_) hs_)); replace HO_9 := Aside0.mk (Kd.R_reok rfl hy0 (fun k_ e_ => HO_9.out.1 k_ e_)); replace HB := Aside0.mk (hb); clear hb; have hcz96_0 : w95.cell? ⟨gb1514, 0, none⟩ = some (.slice Ao21 t1501.length co21) := bc_ BK1514 0; have hcz96_1 : w95.cell? ⟨gb1514, 1, none⟩ = some (.slice Ao24 t1504.length co24) := bc_ BK1514 1; have hcz96_2 : w95.cell? ⟨gb1514, 2, none⟩ = some (.slice Ao25 t1507.length co25) := bc_ BK1514 2; have hfz96_0 := blk_frozen BK1514.out 0; have hfz96_1 := blk_frozen BK1514.out 1; have hfz96_2 := blk_frozen BK1514.out 2) | ((with_reducible refine gate_callee (f := 36) rfl ?_); refine goesL_ (some 87) rfl rfl Try.func36 (by kernel_rfl) rfl #[.agg #[.slice Ao21 t1526.length co21, .slice Ao24 t1527.length co24, .slice Ao25 t1528.length co25], .int .i64 1] rfl (by (try simp only [List.map_toArray, List.map_cons, List.map_nil]); first | done | (rw [show t1526.length = t1501.length from (Kd.R_reads' HO_1515000.out).1.symm, show t1527.length = t1504.length from (Kd.R_reads' HO_1515001.out).1.symm, show t1528.length = t1507.length from (Kd.R_reads' HO_1515002.out).1.symm] <;> rfl) | rfl | (simp only [List.length_drop, List.length_take]; rfl)) ?_; (with_reducible refine (laws_heldPair.calls kj50 _ _ t1526 _ _ t1527 _ _ t1528 1 t1531 _ ?side1 ?side2 ?side3 ?side4 ?side5 ?side6 A80.out).mono ?_); (case side1 => exact ca (Kd.R_reads' HO_1515000.out).2.2); (case side2 => rw [show t1526.length = t1501.length from (Kd.R_reads' HO_1515000.out).1.symm]; exact (Kd.R_reads' HO_1515000.out).2.1); (case side3 => exact ca (Kd.R_reads' HO_1515001.out).2.2); (case side4 => rw [show t1527.length = t1504.length from (Kd.R_reads' HO_1515001.out).1.symm]; exact (Kd.R_reads' HO_1515001.out).2.1); (case side5 => exact ca (Kd.R_reads' HO_1515002.out).2.2); (case side6 => rw [show t1528.length = t1507.length from (Kd.R_reads' HO_1515002.out).1.symm]; exact (Kd.R_reads' HO_1515002.out).2.1); rintro e w97 ⟨rfl, hb⟩; refine ⟨_, rfl, ?_⟩; replace HO_5 := rb_ HO_5 hb; replace HO_9 := rb_ HO_9 hb; replace HO_1498000 := rb_ HO_1498000 hb; replace HO_1498001 := rb_ HO_1498001 hb; replace HO_1498002 := rb_ HO_1498002 hb; replace HO_1515000 := rb_ HO_1515000 hb; replace HO_1515001 := rb_ HO_1515001 hb; replace HO_1515002 := rb_ HO_1515002 hb; replace BK1497 := bb_ BK1497 hb; replace BK1514 := bb_ BK1514 hb; replace HB := bst_ HB hb; clear hb) | ((with_reducible refine gate_callee (f := 61) rfl ?_); refine goesL_ (some 92) rfl rfl Try.func61 (by kernel_rfl) rfl #[.slice Ao94 t1530.length co94, .int .i64 t1531] rfl (by (try simp only [List.map_toArray, List.map_cons, List.map_nil]); first | done | (rw [show t1530.length = t1510.length from (Kd.R_reads' HO_9.out).1.symm] <;> rfl) | rfl | (simp only [List.length_drop, List.length_take]; rfl)) ?_; (with_reducible refine (laws_heldBoolS.calls kj50 _ _ t1530 t1531 t1532 _ ?side1 ?side2 A89.out).mono ?_); (case side1 => exact ca (Kd.R_reads' HO_9.out).2.2); (case side2 => rw [show t1530.length = t1510.length from (Kd.R_reads' HO_9.out).1.symm]; exact (Kd.R_reads' HO_9.out).2.1); rintro e w' ⟨rfl, ⟨nd, rfl⟩⟩; refine ⟨_, rfl, ?_⟩))
      go_ret
      exact ⟨by first | rfl | (simp [errW_none, errW_some] <;> rfl) | (simp [*, errW_none, errW_some] <;> rfl), by repeat (first | (with_reducible first | exact HB.out | apply below_alloc | apply pw_below_drewN | apply below_drew1 | refine below_set ?_ GE1497.out | refine below_set ?_ GE1514.out) | exact HB.out)⟩
     rw [if_neg c90] at H
     have c90b0 : decide (t1532 < 0) = false := decide_eq_false c90
     clear c90
     by_cases c98 : t1532 = t1529
     rotate_left
     ·rw [if_neg c98] at H
      have c98b0 : (t1532 == t1529) = false := beq_eq_false_iff_ne.mpr c98
      have c98b1 : (t1532 != t1529) = true := bne_iff_ne.mpr c98
      obtain rfl := Option.some.inj H
      have hnb167 := NB1514_1497.out
      have hnc167 := NB1497_1514.out
      have hcz168_0 : wc.cell? ⟨gb1514, 0, none⟩ = some (.slice Ao21 t1501.length co21) := bc_ BK1514 0
      have hcz168_1 : wc.cell? ⟨gb1514, 1, none⟩ = some (.slice Ao24 t1504.length co24) := bc_ BK1514 1
      have hcz168_2 : wc.cell? ⟨gb1514, 2, none⟩ = some (.slice Ao25 t1507.length co25) := bc_ BK1514 2
      have hfz168_0 := blk_frozen BK1514.out 0
      have hfz168_1 := blk_frozen BK1514.out 1
      have hfz168_2 := blk_frozen BK1514.out 2
      go_wp2_with (first | ((with_reducible refine gate_callee (f := 35) rfl ?_); refine goesL_ (some 81) rfl rfl Try.func35 (by kernel_rfl) rfl #[.agg #[.slice Ao21 t1501.length co21, .slice Ao24 t1504.length co24, .slice Ao25 t1507.length co25], .int .i64 1] rfl tm_ ?_; (with_reducible refine (laws_markPair.calls kj50 (fun k_ => some k_ = (.slice Ao21 t1501.length co21 : Value).ownBlock) (.slice Ao21 t1501.length co21) t1501 (fun k_ => some k_ = (.slice Ao24 t1504.length co24 : Value).ownBlock) (.slice Ao24 t1504.length co24) t1504 (fun k_ => some k_ = (.slice Ao25 t1507.length co25 : Value).ownBlock) (.slice Ao25 t1507.length co25) t1507 1 t1525 t1526 t1527 t1528 w _ ?side1 ?side2 ?side3 ?side4 ?side5 ?side6 A78.out).mono ?_); (case side1 => repeat (first | (with_reducible first | exact HB.out | apply below_alloc | apply pw_below_drewN | apply below_drew1 | refine below_set ?_ GE1497.out | refine below_set ?_ GE1514.out) | exact HB.out)); (case side2 => exact Kd.R_tight rfl HO_1515000.out); (case side3 => exact fun k_ e_ => (HO_1515000.out.1 k_ e_.symm).2.2); (case side4 => exact Kd.R_tight rfl HO_1515001.out); (case side5 => exact fun k_ e_ => (HO_1515001.out.1 k_ e_.symm).2.2); (case side6 => exact Kd.R_tight rfl HO_1515002.out); rintro e w169 ⟨rfl, hy0, hy1, hy2, hb, hkp⟩; refine ⟨_, rfl, ?_⟩; replace HO_5 := Aside0.mk (Kd.R_mono (ok' := fun k_ => no_ v1511 k_) (Kd.R_keptB ((Kd.R_apart' (Kd.R_apart' (Kd.R_apart' HO_5.out (Kd.R_typed HO_1515000.out) (by decide)) (Kd.R_typed HO_1515001.out) (by decide)) (Kd.R_typed HO_1515002.out) (by decide))) hkp (fun k_ hk_ hs_ => Or.elim hs_ (fun e_ => (hk_.1.1.2) e_) (fun e_ => Or.elim e_ (fun e_ => (hk_.1.2) e_) (fun e_ => (hk_.2) e_)))) (fun k_ hk_ => hk_.1.1.1.1)); replace HO_9 := Aside0.mk (Kd.R_mono (ok' := fun k_ => no_ v1494 k_) (Kd.R_keptB ((Kd.R_apart' (Kd.R_apart' (Kd.R_apart' HO_9.out (Kd.R_typed HO_1515000.out) (by decide)) (Kd.R_typed HO_1515001.out) (by decide)) (Kd.R_typed HO_1515002.out) (by decide))) hkp (fun k_ hk_ hs_ => Or.elim hs_ (fun e_ => (hk_.1.1.2) e_) (fun e_ => Or.elim e_ (fun e_ => (hk_.1.2) e_) (fun e_ => (hk_.2) e_)))) (fun k_ hk_ => hk_.1.1.1.1)); replace HO_1498000 := Aside0.mk (Kd.R_mono (ok' := fun k_ => no_ (.slice Ao15 t1487.length co15) k_ ∧ no_ (.slice Ao21 t1501.length co21) k_ ∧ no_ (.slice Ao24 t1504.length co24) k_) (Kd.R_keptB ((Kd.R_apart' HO_1498000.out (Kd.R_typed HO_1515002.out) (by decide))) hkp (fun k_ hk_ hs_ => Or.elim hs_ (fun e_ => (hk_.1.2.1) e_) (fun e_ => Or.elim e_ (fun e_ => (hk_.1.2.2) e_) (fun e_ => (hk_.2) e_)))) (fun k_ hk_ => ⟨hk_.1.1.1, hk_.1.1.2.1, hk_.1.1.2.2⟩)); replace HO_1498001 := Aside0.mk (Kd.R_mono (ok' := fun k_ => no_ (.slice Ao13 t1484.length co13) k_ ∧ no_ (.slice Ao21 t1501.length co21) k_ ∧ no_ (.slice Ao24 t1504.length co24) k_) (Kd.R_keptB ((Kd.R_apart' HO_1498001.out (Kd.R_typed HO_1515002.out) (by decide))) hkp (fun k_ hk_ hs_ => Or.elim hs_ (fun e_ => (hk_.1.2.1) e_) (fun e_ => Or.elim e_ (fun e_ => (hk_.1.2.2) e_) (fun e_ => (hk_.2) e_)))) (fun k_ hk_ => ⟨hk_.1.1.1, hk_.1.1.2.1, hk_.1.1.2.2⟩)); replace HO_1498002 := Aside0.mk (Kd.R_mono (ok' := fun k_ => no_ (.slice Ao25 t1507.length co25) k_) (Kd.R_keptB ((Kd.R_apart' (Kd.R_apart' HO_1498002.out (Kd.R_typed HO_1515000.out) (by decide)) (Kd.R_typed HO_1515001.out) (by decide))) hkp (fun k_ hk_ hs_ => Or.elim hs_ (fun e_ => (hk_.1.2) e_) (fun e_ => Or.elim e_ (fun e_ => (hk_.2) e_) (fun e_ => (hk_.1.1) e_)))) (fun k_ hk_ => hk_.1.1.1)); replace BK1497 := Aside0.mk (blk_kept (ba BK1497.out) hkp (fun hs_ => Or.elim hs_ (kne_ HO_1515000 BK1497) (fun e_ => Or.elim e_ (kne_ HO_1515001 BK1497) (kne_ HO_1515002 BK1497)))); replace BK1514 := Aside0.mk (blk_kept (ba BK1514.out) hkp (fun hs_ => Or.elim hs_ (kne_ HO_1515000 BK1514) (fun e_ => Or.elim e_ (kne_ HO_1515001 BK1514) (kne_ HO_1515002 BK1514)))); replace HO_1515000 := Aside0.mk (Kd.R_reok rfl hy0 (fun k_ e_ => HO_1515000.out.1 k_ e_)); replace HO_1515001 := Aside0.mk (Kd.R_reok rfl hy1 (fun k_ e_ => HO_1515001.out.1 k_ e_)); replace HO_1515002 := Aside0.mk (Kd.R_reok rfl hy2 (fun k_ e_ => HO_1515002.out.1 k_ e_)); replace HB := Aside0.mk (hb); clear hb; obtain ⟨Ao170, co170, eo170⟩ := Kd.R_slice HO_9.out; subst eo170) | ((with_reducible refine gate_callee (f := 60) rfl ?_); refine goesL_ (some 84) rfl rfl Try.func60 (by kernel_rfl) rfl #[.slice Ao170 t1510.length co170, .int .i64 t1525] rfl tm_ ?_; (with_reducible refine (laws_markBoolS.calls kj50 (fun k_ => some k_ = (.slice Ao170 t1510.length co170 : Value).ownBlock) (.slice Ao170 t1510.length co170) t1510 t1525 t1529 t1530 w _ ?side1 ?side2 A79.out).mono ?_); (case side1 => repeat (first | (with_reducible first | exact HB.out | apply below_alloc | apply pw_below_drewN | apply below_drew1 | refine below_set ?_ GE1497.out | refine below_set ?_ GE1514.out) | exact HB.out)); (case side2 => exact Kd.R_tight rfl HO_9.out); rintro e w171 ⟨rfl, hy0, hb, hkp⟩; refine ⟨_, rfl, ?_⟩; replace HO_5 := Aside0.mk (Kd.R_mono (ok' := fun k_ => no_ (.slice Ao170 t1510.length co170) k_) (Kd.R_keptB (HO_5.out) hkp (fun k_ hk_ hs_ => (hk_) hs_)) (fun k_ hk_ => hk_.1)); replace HO_1498000 := Aside0.mk (Kd.R_mono (ok' := fun k_ => no_ (.slice Ao15 t1487.length co15) k_ ∧ no_ (.slice Ao21 t1501.length co21) k_ ∧ no_ (.slice Ao24 t1504.length co24) k_) (Kd.R_keptB ((Kd.R_apart' HO_1498000.out (Kd.R_typed HO_9.out) (by decide))) hkp (fun k_ hk_ hs_ => (hk_.2) hs_)) (fun k_ hk_ => ⟨hk_.1.1.1, hk_.1.1.2.1, hk_.1.1.2.2⟩)); replace HO_1498001 := Aside0.mk (Kd.R_mono (ok' := fun k_ => no_ (.slice Ao13 t1484.length co13) k_ ∧ no_ (.slice Ao21 t1501.length co21) k_ ∧ no_ (.slice Ao24 t1504.length co24) k_) (Kd.R_keptB ((Kd.R_apart' HO_1498001.out (Kd.R_typed HO_9.out) (by decide))) hkp (fun k_ hk_ hs_ => (hk_.2) hs_)) (fun k_ hk_ => ⟨hk_.1.1.1, hk_.1.1.2.1, hk_.1.1.2.2⟩)); replace HO_1498002 := Aside0.mk (Kd.R_mono (ok' := fun k_ => no_ (.slice Ao25 t1507.length co25) k_) (Kd.R_keptB ((Kd.R_apart' HO_1498002.out (Kd.R_typed HO_9.out) (by decide))) hkp (fun k_ hk_ hs_ => (hk_.2) hs_)) (fun k_ hk_ => hk_.1.1)); replace HO_1515000 := Aside0.mk (Kd.R_mono (ok' := fun k_ => no_ (.slice Ao13 t1484.length co13) k_ ∧ no_ (.slice Ao15 t1487.length co15) k_ ∧ no_ (.slice Ao24 t1504.length co24) k_) (Kd.R_keptB ((Kd.R_apart' HO_1515000.out (Kd.R_typed HO_9.out) (by decide))) hkp (fun k_ hk_ hs_ => (hk_.2) hs_)) (fun k_ hk_ => ⟨hk_.1.1.1, hk_.1.1.2.1, hk_.1.1.2.2⟩)); replace HO_1515001 := Aside0.mk (Kd.R_mono (ok' := fun k_ => no_ (.slice Ao13 t1484.length co13) k_ ∧ no_ (.slice Ao15 t1487.length co15) k_ ∧ no_ (.slice Ao21 t1501.length co21) k_) (Kd.R_keptB ((Kd.R_apart' HO_1515001.out (Kd.R_typed HO_9.out) (by decide))) hkp (fun k_ hk_ hs_ => (hk_.2) hs_)) (fun k_ hk_ => ⟨hk_.1.1.1, hk_.1.1.2.1, hk_.1.1.2.2⟩)); replace HO_1515002 := Aside0.mk (Kd.R_mono (ok' := fun k_ => no_ (.slice Ao16 t1490.length co16) k_) (Kd.R_keptB ((Kd.R_apart' HO_1515002.out (Kd.R_typed HO_9.out) (by decide))) hkp (fun k_ hk_ hs_ => (hk_.2) hs_)) (fun k_ hk_ => hk_.1.1)); replace BK1497 := Aside0.mk (blk_kept (ba BK1497.out) hkp (fun hs_ => (fun e_ => (Kd.R_ne HO_9.out BK1497.out (by decide)) e_) hs_)); replace BK1514 := Aside0.mk (blk_kept (ba BK1514.out) hkp (fun hs_ => (fun e_ => (Kd.R_ne HO_9.out BK1514.out (by decide)) e_) hs_)); replace HO_9 := Aside0.mk (Kd.R_reok rfl hy0 (fun k_ e_ => HO_9.out.1 k_ e_)); replace HB := Aside0.mk (hb); clear hb; have hcz172_0 : w171.cell? ⟨gb1514, 0, none⟩ = some (.slice Ao21 t1501.length co21) := bc_ BK1514 0; have hcz172_1 : w171.cell? ⟨gb1514, 1, none⟩ = some (.slice Ao24 t1504.length co24) := bc_ BK1514 1; have hcz172_2 : w171.cell? ⟨gb1514, 2, none⟩ = some (.slice Ao25 t1507.length co25) := bc_ BK1514 2; have hfz172_0 := blk_frozen BK1514.out 0; have hfz172_1 := blk_frozen BK1514.out 1; have hfz172_2 := blk_frozen BK1514.out 2) | ((with_reducible refine gate_callee (f := 36) rfl ?_); refine goesL_ (some 87) rfl rfl Try.func36 (by kernel_rfl) rfl #[.agg #[.slice Ao21 t1526.length co21, .slice Ao24 t1527.length co24, .slice Ao25 t1528.length co25], .int .i64 1] rfl (by (try simp only [List.map_toArray, List.map_cons, List.map_nil]); first | done | (rw [show t1526.length = t1501.length from (Kd.R_reads' HO_1515000.out).1.symm, show t1527.length = t1504.length from (Kd.R_reads' HO_1515001.out).1.symm, show t1528.length = t1507.length from (Kd.R_reads' HO_1515002.out).1.symm] <;> rfl) | rfl | (simp only [List.length_drop, List.length_take]; rfl)) ?_; (with_reducible refine (laws_heldPair.calls kj50 _ _ t1526 _ _ t1527 _ _ t1528 1 t1531 _ ?side1 ?side2 ?side3 ?side4 ?side5 ?side6 A80.out).mono ?_); (case side1 => exact ca (Kd.R_reads' HO_1515000.out).2.2); (case side2 => rw [show t1526.length = t1501.length from (Kd.R_reads' HO_1515000.out).1.symm]; exact (Kd.R_reads' HO_1515000.out).2.1); (case side3 => exact ca (Kd.R_reads' HO_1515001.out).2.2); (case side4 => rw [show t1527.length = t1504.length from (Kd.R_reads' HO_1515001.out).1.symm]; exact (Kd.R_reads' HO_1515001.out).2.1); (case side5 => exact ca (Kd.R_reads' HO_1515002.out).2.2); (case side6 => rw [show t1528.length = t1507.length from (Kd.R_reads' HO_1515002.out).1.symm]; exact (Kd.R_reads' HO_1515002.out).2.1); rintro e w173 ⟨rfl, hb⟩; refine ⟨_, rfl, ?_⟩; replace HO_5 := rb_ HO_5 hb; replace HO_9 := rb_ HO_9 hb; replace HO_1498000 := rb_ HO_1498000 hb; replace HO_1498001 := rb_ HO_1498001 hb; replace HO_1498002 := rb_ HO_1498002 hb; replace HO_1515000 := rb_ HO_1515000 hb; replace HO_1515001 := rb_ HO_1515001 hb; replace HO_1515002 := rb_ HO_1515002 hb; replace BK1497 := bb_ BK1497 hb; replace BK1514 := bb_ BK1514 hb; replace HB := bst_ HB hb; clear hb) | ((with_reducible refine gate_callee (f := 61) rfl ?_); refine goesL_ (some 92) rfl rfl Try.func61 (by kernel_rfl) rfl #[.slice Ao170 t1530.length co170, .int .i64 t1531] rfl (by (try simp only [List.map_toArray, List.map_cons, List.map_nil]); first | done | (rw [show t1530.length = t1510.length from (Kd.R_reads' HO_9.out).1.symm] <;> rfl) | rfl | (simp only [List.length_drop, List.length_take]; rfl)) ?_; (with_reducible refine (laws_heldBoolS.calls kj50 _ _ t1530 t1531 t1532 _ ?side1 ?side2 A89.out).mono ?_); (case side1 => exact ca (Kd.R_reads' HO_9.out).2.2); (case side2 => rw [show t1530.length = t1510.length from (Kd.R_reads' HO_9.out).1.symm]; exact (Kd.R_reads' HO_9.out).2.1); rintro e w' ⟨rfl, ⟨nd, rfl⟩⟩; refine ⟨_, rfl, ?_⟩))
      go_ret
      exact ⟨by first | rfl | (simp [errW_none, errW_some] <;> rfl) | (simp [*, errW_none, errW_some] <;> rfl), by repeat (first | (with_reducible first | exact HB.out | apply below_alloc | apply pw_below_drewN | apply below_drew1 | refine below_set ?_ GE1497.out | refine below_set ?_ GE1514.out) | exact HB.out)⟩
     rw [if_pos c98] at H
     have c98b0 : (t1532 == t1529) = true := beq_iff_eq.mpr c98
     have c98b1 : (t1532 != t1529) = false := bne_eq_false_iff_eq.mpr c98
     clear c98
     replace H := Option.bind_eq_some_iff.mp H
     obtain ⟨t1533, A990, H⟩ := H
     replace H : ((impl_PlayPair.f kj50 t1533).bind fun bt1536 => ((laws_eqPair.f kj50 bt1536.1 bt1536.2.1 bt1536.2.2.1 t1484 t1487 t1490).bind fun t1550 => (if t1550 = true then ((laws_eqBoolS.f kj50 bt1536.2.2.2.1 t1493).bind fun t1551 => (if t1551 = true then (laws_FnExactPlayPair.j2 kj50 t1530 t1529 (bt1536.2.2.2.2 != t1496) t1526 t1527 t1528) else (laws_FnExactPlayPair.j2 kj50 t1530 t1529 true t1526 t1527 t1528))) else (laws_FnExactPlayPair.j2 kj50 t1530 t1529 true t1526 t1527 t1528)))) = some r := H
     have A99 := Aside0.mk A990
     clear A990
     replace H := Option.bind_eq_some_iff.mp H
     obtain ⟨⟨t1536, t1539, t1542, t1545, t1548⟩, A1000, H⟩ := H
     replace H : ((laws_eqPair.f kj50 t1536 t1539 t1542 t1484 t1487 t1490).bind fun t1550 => (if t1550 = true then ((laws_eqBoolS.f kj50 t1545 t1493).bind fun t1551 => (if t1551 = true then (laws_FnExactPlayPair.j2 kj50 t1530 t1529 (t1548 != t1496) t1526 t1527 t1528) else (laws_FnExactPlayPair.j2 kj50 t1530 t1529 true t1526 t1527 t1528))) else (laws_FnExactPlayPair.j2 kj50 t1530 t1529 true t1526 t1527 t1528))) = some r := H
     have A100 := Aside0.mk A1000
     clear A1000
     have HC101 := Aside0.mk H
     clear H
     have hnb102 := NB1514_1497.out
     have hnc102 := NB1497_1514.out
     have hcz103_0 : wc.cell? ⟨gb1514, 0, none⟩ = some (.slice Ao21 t1501.length co21) := bc_ BK1514 0
     have hcz103_1 : wc.cell? ⟨gb1514, 1, none⟩ = some (.slice Ao24 t1504.length co24) := bc_ BK1514 1
     have hcz103_2 : wc.cell? ⟨gb1514, 2, none⟩ = some (.slice Ao25 t1507.length co25) := bc_ BK1514 2
     have hfz103_0 := blk_frozen BK1514.out 0
     have hfz103_1 := blk_frozen BK1514.out 1
     have hfz103_2 := blk_frozen BK1514.out 2
     go_upto_region 29 with (first | ((with_reducible refine gate_callee (f := 35) rfl ?_); refine goesL_ (some 81) rfl rfl Try.func35 (by kernel_rfl) rfl #[.agg #[.slice Ao21 t1501.length co21, .slice Ao24 t1504.length co24, .slice Ao25 t1507.length co25], .int .i64 1] rfl tm_ ?_; (with_reducible refine (laws_markPair.calls kj50 (fun k_ => some k_ = (.slice Ao21 t1501.length co21 : Value).ownBlock) (.slice Ao21 t1501.length co21) t1501 (fun k_ => some k_ = (.slice Ao24 t1504.length co24 : Value).ownBlock) (.slice Ao24 t1504.length co24) t1504 (fun k_ => some k_ = (.slice Ao25 t1507.length co25 : Value).ownBlock) (.slice Ao25 t1507.length co25) t1507 1 t1525 t1526 t1527 t1528 w _ ?side1 ?side2 ?side3 ?side4 ?side5 ?side6 A78.out).mono ?_); (case side1 => repeat (first | (with_reducible first | exact HB.out | apply below_alloc | apply pw_below_drewN | apply below_drew1 | refine below_set ?_ GE1497.out | refine below_set ?_ GE1514.out) | exact HB.out)); (case side2 => exact Kd.R_tight rfl HO_1515000.out); (case side3 => exact fun k_ e_ => (HO_1515000.out.1 k_ e_.symm).2.2); (case side4 => exact Kd.R_tight rfl HO_1515001.out); (case side5 => exact fun k_ e_ => (HO_1515001.out.1 k_ e_.symm).2.2); (case side6 => exact Kd.R_tight rfl HO_1515002.out); rintro e w104 ⟨rfl, hy0, hy1, hy2, hb, hkp⟩; refine ⟨_, rfl, ?_⟩; replace HO_5 := Aside0.mk (Kd.R_mono (ok' := fun k_ => no_ v1511 k_) (Kd.R_keptB ((Kd.R_apart' (Kd.R_apart' (Kd.R_apart' HO_5.out (Kd.R_typed HO_1515000.out) (by decide)) (Kd.R_typed HO_1515001.out) (by decide)) (Kd.R_typed HO_1515002.out) (by decide))) hkp (fun k_ hk_ hs_ => Or.elim hs_ (fun e_ => (hk_.1.1.2) e_) (fun e_ => Or.elim e_ (fun e_ => (hk_.1.2) e_) (fun e_ => (hk_.2) e_)))) (fun k_ hk_ => hk_.1.1.1.1)); replace HO_9 := Aside0.mk (Kd.R_mono (ok' := fun k_ => no_ v1494 k_) (Kd.R_keptB ((Kd.R_apart' (Kd.R_apart' (Kd.R_apart' HO_9.out (Kd.R_typed HO_1515000.out) (by decide)) (Kd.R_typed HO_1515001.out) (by decide)) (Kd.R_typed HO_1515002.out) (by decide))) hkp (fun k_ hk_ hs_ => Or.elim hs_ (fun e_ => (hk_.1.1.2) e_) (fun e_ => Or.elim e_ (fun e_ => (hk_.1.2) e_) (fun e_ => (hk_.2) e_)))) (fun k_ hk_ => hk_.1.1.1.1)); replace HO_1498000 := Aside0.mk (Kd.R_mono (ok' := fun k_ => no_ (.slice Ao15 t1487.length co15) k_ ∧ no_ (.slice Ao21 t1501.length co21) k_ ∧ no_ (.slice Ao24 t1504.length co24) k_) (Kd.R_keptB ((Kd.R_apart' HO_1498000.out (Kd.R_typed HO_1515002.out) (by decide))) hkp (fun k_ hk_ hs_ => Or.elim hs_ (fun e_ => (hk_.1.2.1) e_) (fun e_ => Or.elim e_ (fun e_ => (hk_.1.2.2) e_) (fun e_ => (hk_.2) e_)))) (fun k_ hk_ => ⟨hk_.1.1.1, hk_.1.1.2.1, hk_.1.1.2.2⟩)); replace HO_1498001 := Aside0.mk (Kd.R_mono (ok' := fun k_ => no_ (.slice Ao13 t1484.length co13) k_ ∧ no_ (.slice Ao21 t1501.length co21) k_ ∧ no_ (.slice Ao24 t1504.length co24) k_) (Kd.R_keptB ((Kd.R_apart' HO_1498001.out (Kd.R_typed HO_1515002.out) (by decide))) hkp (fun k_ hk_ hs_ => Or.elim hs_ (fun e_ => (hk_.1.2.1) e_) (fun e_ => Or.elim e_ (fun e_ => (hk_.1.2.2) e_) (fun e_ => (hk_.2) e_)))) (fun k_ hk_ => ⟨hk_.1.1.1, hk_.1.1.2.1, hk_.1.1.2.2⟩)); replace HO_1498002 := Aside0.mk (Kd.R_mono (ok' := fun k_ => no_ (.slice Ao25 t1507.length co25) k_) (Kd.R_keptB ((Kd.R_apart' (Kd.R_apart' HO_1498002.out (Kd.R_typed HO_1515000.out) (by decide)) (Kd.R_typed HO_1515001.out) (by decide))) hkp (fun k_ hk_ hs_ => Or.elim hs_ (fun e_ => (hk_.1.2) e_) (fun e_ => Or.elim e_ (fun e_ => (hk_.2) e_) (fun e_ => (hk_.1.1) e_)))) (fun k_ hk_ => hk_.1.1.1)); replace BK1497 := Aside0.mk (blk_kept (ba BK1497.out) hkp (fun hs_ => Or.elim hs_ (kne_ HO_1515000 BK1497) (fun e_ => Or.elim e_ (kne_ HO_1515001 BK1497) (kne_ HO_1515002 BK1497)))); replace BK1514 := Aside0.mk (blk_kept (ba BK1514.out) hkp (fun hs_ => Or.elim hs_ (kne_ HO_1515000 BK1514) (fun e_ => Or.elim e_ (kne_ HO_1515001 BK1514) (kne_ HO_1515002 BK1514)))); replace HO_1515000 := Aside0.mk (Kd.R_reok rfl hy0 (fun k_ e_ => HO_1515000.out.1 k_ e_)); replace HO_1515001 := Aside0.mk (Kd.R_reok rfl hy1 (fun k_ e_ => HO_1515001.out.1 k_ e_)); replace HO_1515002 := Aside0.mk (Kd.R_reok rfl hy2 (fun k_ e_ => HO_1515002.out.1 k_ e_)); replace HB := Aside0.mk (hb); clear hb; obtain ⟨Ao105, co105, eo105⟩ := Kd.R_slice HO_9.out; subst eo105) | ((with_reducible refine gate_callee (f := 60) rfl ?_); refine goesL_ (some 84) rfl rfl Try.func60 (by kernel_rfl) rfl #[.slice Ao105 t1510.length co105, .int .i64 t1525] rfl tm_ ?_; (with_reducible refine (laws_markBoolS.calls kj50 (fun k_ => some k_ = (.slice Ao105 t1510.length co105 : Value).ownBlock) (.slice Ao105 t1510.length co105) t1510 t1525 t1529 t1530 w _ ?side1 ?side2 A79.out).mono ?_); (case side1 => repeat (first | (with_reducible first | exact HB.out | apply below_alloc | apply pw_below_drewN | apply below_drew1 | refine below_set ?_ GE1497.out | refine below_set ?_ GE1514.out) | exact HB.out)); (case side2 => exact Kd.R_tight rfl HO_9.out); rintro e w106 ⟨rfl, hy0, hb, hkp⟩; refine ⟨_, rfl, ?_⟩; replace HO_5 := Aside0.mk (Kd.R_mono (ok' := fun k_ => no_ (.slice Ao105 t1510.length co105) k_) (Kd.R_keptB (HO_5.out) hkp (fun k_ hk_ hs_ => (hk_) hs_)) (fun k_ hk_ => hk_.1)); replace HO_1498000 := Aside0.mk (Kd.R_mono (ok' := fun k_ => no_ (.slice Ao15 t1487.length co15) k_ ∧ no_ (.slice Ao21 t1501.length co21) k_ ∧ no_ (.slice Ao24 t1504.length co24) k_) (Kd.R_keptB ((Kd.R_apart' HO_1498000.out (Kd.R_typed HO_9.out) (by decide))) hkp (fun k_ hk_ hs_ => (hk_.2) hs_)) (fun k_ hk_ => ⟨hk_.1.1.1, hk_.1.1.2.1, hk_.1.1.2.2⟩)); replace HO_1498001 := Aside0.mk (Kd.R_mono (ok' := fun k_ => no_ (.slice Ao13 t1484.length co13) k_ ∧ no_ (.slice Ao21 t1501.length co21) k_ ∧ no_ (.slice Ao24 t1504.length co24) k_) (Kd.R_keptB ((Kd.R_apart' HO_1498001.out (Kd.R_typed HO_9.out) (by decide))) hkp (fun k_ hk_ hs_ => (hk_.2) hs_)) (fun k_ hk_ => ⟨hk_.1.1.1, hk_.1.1.2.1, hk_.1.1.2.2⟩)); replace HO_1498002 := Aside0.mk (Kd.R_mono (ok' := fun k_ => no_ (.slice Ao25 t1507.length co25) k_) (Kd.R_keptB ((Kd.R_apart' HO_1498002.out (Kd.R_typed HO_9.out) (by decide))) hkp (fun k_ hk_ hs_ => (hk_.2) hs_)) (fun k_ hk_ => hk_.1.1)); replace HO_1515000 := Aside0.mk (Kd.R_mono (ok' := fun k_ => no_ (.slice Ao13 t1484.length co13) k_ ∧ no_ (.slice Ao15 t1487.length co15) k_ ∧ no_ (.slice Ao24 t1504.length co24) k_) (Kd.R_keptB ((Kd.R_apart' HO_1515000.out (Kd.R_typed HO_9.out) (by decide))) hkp (fun k_ hk_ hs_ => (hk_.2) hs_)) (fun k_ hk_ => ⟨hk_.1.1.1, hk_.1.1.2.1, hk_.1.1.2.2⟩)); replace HO_1515001 := Aside0.mk (Kd.R_mono (ok' := fun k_ => no_ (.slice Ao13 t1484.length co13) k_ ∧ no_ (.slice Ao15 t1487.length co15) k_ ∧ no_ (.slice Ao21 t1501.length co21) k_) (Kd.R_keptB ((Kd.R_apart' HO_1515001.out (Kd.R_typed HO_9.out) (by decide))) hkp (fun k_ hk_ hs_ => (hk_.2) hs_)) (fun k_ hk_ => ⟨hk_.1.1.1, hk_.1.1.2.1, hk_.1.1.2.2⟩)); replace HO_1515002 := Aside0.mk (Kd.R_mono (ok' := fun k_ => no_ (.slice Ao16 t1490.length co16) k_) (Kd.R_keptB ((Kd.R_apart' HO_1515002.out (Kd.R_typed HO_9.out) (by decide))) hkp (fun k_ hk_ hs_ => (hk_.2) hs_)) (fun k_ hk_ => hk_.1.1)); replace BK1497 := Aside0.mk (blk_kept (ba BK1497.out) hkp (fun hs_ => (fun e_ => (Kd.R_ne HO_9.out BK1497.out (by decide)) e_) hs_)); replace BK1514 := Aside0.mk (blk_kept (ba BK1514.out) hkp (fun hs_ => (fun e_ => (Kd.R_ne HO_9.out BK1514.out (by decide)) e_) hs_)); replace HO_9 := Aside0.mk (Kd.R_reok rfl hy0 (fun k_ e_ => HO_9.out.1 k_ e_)); replace HB := Aside0.mk (hb); clear hb; have hcz107_0 : w106.cell? ⟨gb1514, 0, none⟩ = some (.slice Ao21 t1501.length co21) := bc_ BK1514 0; have hcz107_1 : w106.cell? ⟨gb1514, 1, none⟩ = some (.slice Ao24 t1504.length co24) := bc_ BK1514 1; have hcz107_2 : w106.cell? ⟨gb1514, 2, none⟩ = some (.slice Ao25 t1507.length co25) := bc_ BK1514 2; have hfz107_0 := blk_frozen BK1514.out 0; have hfz107_1 := blk_frozen BK1514.out 1; have hfz107_2 := blk_frozen BK1514.out 2) | ((with_reducible refine gate_callee (f := 36) rfl ?_); refine goesL_ (some 87) rfl rfl Try.func36 (by kernel_rfl) rfl #[.agg #[.slice Ao21 t1526.length co21, .slice Ao24 t1527.length co24, .slice Ao25 t1528.length co25], .int .i64 1] rfl (by (try simp only [List.map_toArray, List.map_cons, List.map_nil]); first | done | (rw [show t1526.length = t1501.length from (Kd.R_reads' HO_1515000.out).1.symm, show t1527.length = t1504.length from (Kd.R_reads' HO_1515001.out).1.symm, show t1528.length = t1507.length from (Kd.R_reads' HO_1515002.out).1.symm] <;> rfl) | rfl | (simp only [List.length_drop, List.length_take]; rfl)) ?_; (with_reducible refine (laws_heldPair.calls kj50 _ _ t1526 _ _ t1527 _ _ t1528 1 t1531 _ ?side1 ?side2 ?side3 ?side4 ?side5 ?side6 A80.out).mono ?_); (case side1 => exact ca (Kd.R_reads' HO_1515000.out).2.2); (case side2 => rw [show t1526.length = t1501.length from (Kd.R_reads' HO_1515000.out).1.symm]; exact (Kd.R_reads' HO_1515000.out).2.1); (case side3 => exact ca (Kd.R_reads' HO_1515001.out).2.2); (case side4 => rw [show t1527.length = t1504.length from (Kd.R_reads' HO_1515001.out).1.symm]; exact (Kd.R_reads' HO_1515001.out).2.1); (case side5 => exact ca (Kd.R_reads' HO_1515002.out).2.2); (case side6 => rw [show t1528.length = t1507.length from (Kd.R_reads' HO_1515002.out).1.symm]; exact (Kd.R_reads' HO_1515002.out).2.1); rintro e w108 ⟨rfl, hb⟩; refine ⟨_, rfl, ?_⟩; replace HO_5 := rb_ HO_5 hb; replace HO_9 := rb_ HO_9 hb; replace HO_1498000 := rb_ HO_1498000 hb; replace HO_1498001 := rb_ HO_1498001 hb; replace HO_1498002 := rb_ HO_1498002 hb; replace HO_1515000 := rb_ HO_1515000 hb; replace HO_1515001 := rb_ HO_1515001 hb; replace HO_1515002 := rb_ HO_1515002 hb; replace BK1497 := bb_ BK1497 hb; replace BK1514 := bb_ BK1514 hb; replace HB := bst_ HB hb; clear hb) | ((with_reducible refine gate_callee (f := 61) rfl ?_); refine goesL_ (some 92) rfl rfl Try.func61 (by kernel_rfl) rfl #[.slice Ao105 t1530.length co105, .int .i64 t1531] rfl (by (try simp only [List.map_toArray, List.map_cons, List.map_nil]); first | done | (rw [show t1530.length = t1510.length from (Kd.R_reads' HO_9.out).1.symm] <;> rfl) | rfl | (simp only [List.length_drop, List.length_take]; rfl)) ?_; (with_reducible refine (laws_heldBoolS.calls kj50 _ _ t1530 t1531 t1532 _ ?side1 ?side2 A89.out).mono ?_); (case side1 => exact ca (Kd.R_reads' HO_9.out).2.2); (case side2 => rw [show t1530.length = t1510.length from (Kd.R_reads' HO_9.out).1.symm]; exact (Kd.R_reads' HO_9.out).2.1); rintro e w' ⟨rfl, ⟨nd, rfl⟩⟩; refine ⟨_, rfl, ?_⟩; (try (rw [drewN_self w108]; generalize hq_ : World.drewN w108 _ = w108; have n0_ : Aside0 (Kd.R (Kd.int .i64) 3 w108 w.heap.size (fun k_ => no_ (.slice Ao15 t1487.length co15) k_ ∧ no_ (.slice Ao21 t1501.length co21) k_ ∧ no_ (.slice Ao24 t1504.length co24) k_) (.slice Ao13 t1484.length co13) t1484) := ⟨by rw [← hq_]; exact (ra HO_1498000.out)⟩; have n1_ : Aside0 (Kd.R (Kd.int .i64) 3 w108 w.heap.size (fun k_ => no_ (.slice Ao13 t1484.length co13) k_ ∧ no_ (.slice Ao21 t1501.length co21) k_ ∧ no_ (.slice Ao24 t1504.length co24) k_) (.slice Ao15 t1487.length co15) t1487) := ⟨by rw [← hq_]; exact (ra HO_1498001.out)⟩; have n2_ : Aside0 (Kd.R k127 127 w108 w.heap.size (fun k_ => no_ (.slice Ao25 t1507.length co25) k_) (.slice Ao16 t1490.length co16) t1490) := ⟨by rw [← hq_]; exact (ra HO_1498002.out)⟩; have n3_ : Aside0 (Kd.R (Kd.int .i64) 3 w108 w.heap.size (fun k_ => no_ (.slice Ao13 t1484.length co13) k_ ∧ no_ (.slice Ao15 t1487.length co15) k_ ∧ no_ (.slice Ao24 t1504.length co24) k_) (.slice Ao21 t1501.length co21) t1526) := ⟨by rw [← hq_]; exact (ra HO_1515000.out)⟩; have n4_ : Aside0 (Kd.R (Kd.int .i64) 3 w108 w.heap.size (fun k_ => no_ (.slice Ao13 t1484.length co13) k_ ∧ no_ (.slice Ao15 t1487.length co15) k_ ∧ no_ (.slice Ao21 t1501.length co21) k_) (.slice Ao24 t1504.length co24) t1527) := ⟨by rw [← hq_]; exact (ra HO_1515001.out)⟩; have n5_ : Aside0 (Kd.R k127 127 w108 w.heap.size (fun k_ => no_ (.slice Ao16 t1490.length co16) k_) (.slice Ao25 t1507.length co25) t1528) := ⟨by rw [← hq_]; exact (ra HO_1515002.out)⟩; have n6_ : Aside0 (Kd.R Kd.bool 4 w108 w.heap.size (fun k_ => no_ (.slice Ao105 t1510.length co105) k_) v1494 t1493) := ⟨by rw [← hq_]; exact (ra HO_5.out)⟩; have n7_ : Aside0 (Kd.R Kd.bool 4 w108 w.heap.size (fun k_ => no_ v1494 k_) (.slice Ao105 t1510.length co105) t1530) := ⟨by rw [← hq_]; exact (ra HO_9.out)⟩; have n8_ : Aside0 (w108.heap[gb1497]? = some (.cells #[.slice Ao13 t1484.length co13, .slice Ao15 t1487.length co15, .slice Ao16 t1490.length co16] 47 (0, 0))) := ⟨by rw [← hq_]; exact (ba BK1497.out)⟩; have n9_ : Aside0 (w108.heap[gb1514]? = some (.cells #[.slice Ao21 t1501.length co21, .slice Ao24 t1504.length co24, .slice Ao25 t1507.length co25] 47 (0, 0))) := ⟨by rw [← hq_]; exact (ba BK1514.out)⟩; have n10_ : Aside0 (Below w.heap.size w w108) := ⟨by rw [← hq_]; exact (hB HB)⟩; clear HO_1498000 HO_1498001 HO_1498002 HO_1515000 HO_1515001 HO_1515002 HO_5 HO_9 BK1497 BK1514 HB hq_; have HO_1498000 := n0_; have HO_1498001 := n1_; have HO_1498002 := n2_; have HO_1515000 := n3_; have HO_1515001 := n4_; have HO_1515002 := n5_; have HO_5 := n6_; have HO_9 := n7_; have BK1497 := n8_; have BK1514 := n9_; have HB := n10_; clear n0_ n1_ n2_ n3_ n4_ n5_ n6_ n7_ n8_ n9_ n10_))) | ((with_reducible refine gate_callee (f := 55) rfl ?_); refine goesL_ (some 100) rfl rfl Try.func55 (by kernel_rfl) rfl #[.slice A0 l0.length c0] rfl tm_ ?_; (with_reducible refine (laws_toPairStepS.calls kj50 _ _ l0 t1533 _ ?side1 ?side2 A99.out).mono ?_); (case side1 => exact ca (Kd.C_below HR0.out HB.out)); (case side2 => exact HC0.out); rintro e w109 ⟨v1534, rfl, ho0, hb⟩; refine ⟨_, rfl, ?_⟩; have HO1535 := Aside0.mk (Kd.R_lower ho0 (below_size (hB HB))); replace HO_5 := rb_ HO_5 hb; replace HO_9 := rb_ HO_9 hb; replace HO_1498000 := rb_ HO_1498000 hb; replace HO_1498001 := rb_ HO_1498001 hb; replace HO_1498002 := rb_ HO_1498002 hb; replace HO_1515000 := rb_ HO_1515000 hb; replace HO_1515001 := rb_ HO_1515001 hb; replace HO_1515002 := rb_ HO_1515002 hb; replace BK1497 := bb_ BK1497 hb; replace BK1514 := bb_ BK1514 hb; replace HB := bst_ HB hb; clear hb ho0; obtain ⟨Ao110, co110, eo110⟩ := Kd.R_slice HO1535.out; subst eo110) | ((with_reducible refine gate_callee (f := 56) rfl ?_); refine goesL_ (some 101) rfl rfl Try.func56 (by kernel_rfl) rfl #[.slice Ao110 t1533.length co110] rfl tm_ ?_; (with_reducible refine (impl_PlayPair.calls kj50 _ _ t1533 t1536 t1539 t1542 t1545 t1548 _ ?side1 ?side2 A100.out).mono ?_); (case side1 => exact ca (Kd.R_reads' HO1535.out).2.2); (case side2 => exact (Kd.R_reads' HO1535.out).2.1); rintro e w111 ⟨v1537, v1540, v1543, v1546, rfl, ho0, ho1, ho2, ho3, hb⟩; refine ⟨_, rfl, ?_⟩; have HO1538 := Aside0.mk (Kd.R_lower (Kd.R_new' (Kd.R_new' (Kd.R_new' (Kd.R_new' ho0 (rl_ HO_1498000)) (rl_ HO_1498001)) (rl_ HO_1515000)) (rl_ HO_1515001)) (below_size (hB HB))); have HO1541 := Aside0.mk (Kd.R_lower (Kd.R_new' (Kd.R_new' (Kd.R_new' (Kd.R_new' ho1 (rl_ HO_1498000)) (rl_ HO_1498001)) (rl_ HO_1515000)) (rl_ HO_1515001)) (below_size (hB HB))); have HO1544 := Aside0.mk (Kd.R_lower (Kd.R_new' (Kd.R_new' ho2 (rl_ HO_1498002)) (rl_ HO_1515002)) (below_size (hB HB))); have HO1547 := Aside0.mk (Kd.R_lower (Kd.R_new' (Kd.R_new' ho3 (rl_ HO_5)) (rl_ HO_9)) (below_size (hB HB))); replace HO_5 := re_ HO_5 ho3 hb; replace HO_9 := re_ HO_9 ho3 hb; replace HO_1498000 := rt2_ HO_1498000 hb ho0 ho1; replace HO_1498001 := rt2_ HO_1498001 hb ho0 ho1; replace HO_1498002 := re_ HO_1498002 ho2 hb; replace HO_1515000 := rt2_ HO_1515000 hb ho0 ho1; replace HO_1515001 := rt2_ HO_1515001 hb ho0 ho1; replace HO_1515002 := re_ HO_1515002 ho2 hb; replace HO1535 := rb_ HO1535 hb; replace BK1497 := bb_ BK1497 hb; replace BK1514 := bb_ BK1514 hb; replace HB := bst_ HB hb; clear hb ho0 ho1 ho2 ho3) | ((with_reducible refine gate_dst (N := 14) rfl ?_); refine box_event ?hg (N := 14) ?hd (cs := #[.slice none 0 0, .slice none 0 0, .slice none 0 0]) (t := 47) ?hr ?_; (case hd => rfl); (case hg => rfl); (case hr => first | (go_simp; done) | (go_simp; rfl)); intro gb1549 hg w112 hbox hb; have BK1549 := Aside0.mk (hbox); have GW1549 := gw_ hg HB; have GE1549 := gw_ hg HB; have NB1497_1549 := nl_ hg BK1497; have NB1549_1497 := ng_ hg BK1497; have NB1514_1549 := nl_ hg BK1514; have NB1549_1514 := ng_ hg BK1514; replace HO_5 := rb_ HO_5 hb; replace HO_9 := rb_ HO_9 hb; replace HO_1498000 := rb_ HO_1498000 hb; replace HO_1498001 := rb_ HO_1498001 hb; replace HO_1498002 := rb_ HO_1498002 hb; replace HO_1515000 := rb_ HO_1515000 hb; replace HO_1515001 := rb_ HO_1515001 hb; replace HO_1515002 := rb_ HO_1515002 hb; replace HO1535 := rb_ HO1535 hb; replace HO1538 := rb_ HO1538 hb; replace HO1541 := rb_ HO1541 hb; replace HO1544 := rb_ HO1544 hb; replace HO1547 := rb_ HO1547 hb; replace BK1497 := bb_ BK1497 hb; replace BK1514 := bb_ BK1514 hb; replace HB := bst_ HB hb; clear hb hbox hg; obtain ⟨Ao113, co113, eo113⟩ := Kd.R_slice HO1538.out; subst eo113; have hnb114 := NB1549_1497.out; have hnc114 := NB1497_1549.out; have hnb115 := NB1549_1514.out; have hnc115 := NB1514_1549.out; have hcz116_0 : w112.cell? ⟨gb1549, 0, none⟩ = some (.slice none 0 0) := bc_ BK1549 0; have hcz116_1 : w112.cell? ⟨gb1549, 1, none⟩ = some (.slice none 0 0) := bc_ BK1549 1; have hcz116_2 : w112.cell? ⟨gb1549, 2, none⟩ = some (.slice none 0 0) := bc_ BK1549 2; have hfz116_0 := blk_frozen BK1549.out 0; have hfz116_1 := blk_frozen BK1549.out 1; have hfz116_2 := blk_frozen BK1549.out 2; obtain ⟨Ao117, co117, eo117⟩ := Kd.R_slice HO1541.out; subst eo117; obtain ⟨Ao118, co118, eo118⟩ := Kd.R_slice HO1544.out; subst eo118))
     (try simp only [Act.put, List.setIfInBounds_toArray, List.set_cons_zero, List.set_cons_succ])
     go_cut [119] (fun v119 wc => ∃ (kq : Nat) (x119_100 : Bool), v119 = .bool x119_100 ∧ Aside0 (laws_FnExactPlayPair.j2 kq t1530 t1529 x119_100 t1526 t1527 t1528 = some r) ∧ Aside0 (kq ≤ kj50) ∧ Aside0 (Kd.R Kd.bool 4 wc w.heap.size (fun _ => True) (.slice Ao105 t1510.length co105) t1530) ∧ Aside0 (Kd.R (Kd.int .i64) 3 wc w.heap.size (fun k_ => no_ (.slice Ao15 t1487.length co15) k_ ∧ no_ (.slice Ao21 t1501.length co21) k_ ∧ no_ (.slice Ao24 t1504.length co24) k_ ∧ no_ (.slice Ao113 t1536.length co113) k_ ∧ no_ (.slice Ao117 t1539.length co117) k_) (.slice Ao13 t1484.length co13) t1484) ∧ Aside0 (Kd.R (Kd.int .i64) 3 wc w.heap.size (fun k_ => no_ (.slice Ao13 t1484.length co13) k_ ∧ no_ (.slice Ao21 t1501.length co21) k_ ∧ no_ (.slice Ao24 t1504.length co24) k_ ∧ no_ (.slice Ao113 t1536.length co113) k_ ∧ no_ (.slice Ao117 t1539.length co117) k_) (.slice Ao15 t1487.length co15) t1487) ∧ Aside0 (Kd.R k127 127 wc w.heap.size (fun k_ => no_ (.slice Ao25 t1507.length co25) k_ ∧ no_ (.slice Ao118 t1542.length co118) k_) (.slice Ao16 t1490.length co16) t1490) ∧ Aside0 (Kd.R (Kd.int .i64) 3 wc w.heap.size (fun k_ => no_ (.slice Ao13 t1484.length co13) k_ ∧ no_ (.slice Ao15 t1487.length co15) k_ ∧ no_ (.slice Ao24 t1504.length co24) k_ ∧ no_ (.slice Ao113 t1536.length co113) k_ ∧ no_ (.slice Ao117 t1539.length co117) k_) (.slice Ao21 t1501.length co21) t1526) ∧ Aside0 (Kd.R (Kd.int .i64) 3 wc w.heap.size (fun k_ => no_ (.slice Ao13 t1484.length co13) k_ ∧ no_ (.slice Ao15 t1487.length co15) k_ ∧ no_ (.slice Ao21 t1501.length co21) k_ ∧ no_ (.slice Ao113 t1536.length co113) k_ ∧ no_ (.slice Ao117 t1539.length co117) k_) (.slice Ao24 t1504.length co24) t1527) ∧ Aside0 (Kd.R k127 127 wc w.heap.size (fun k_ => no_ (.slice Ao16 t1490.length co16) k_ ∧ no_ (.slice Ao118 t1542.length co118) k_) (.slice Ao25 t1507.length co25) t1528) ∧ Aside0 (Kd.R (Kd.int .i64) 3 wc w.heap.size (fun k_ => no_ (.slice Ao13 t1484.length co13) k_ ∧ no_ (.slice Ao15 t1487.length co15) k_ ∧ no_ (.slice Ao21 t1501.length co21) k_ ∧ no_ (.slice Ao24 t1504.length co24) k_ ∧ no_ (.slice Ao117 t1539.length co117) k_) (.slice Ao113 t1536.length co113) t1536) ∧ Aside0 (Kd.R (Kd.int .i64) 3 wc w.heap.size (fun k_ => no_ (.slice Ao13 t1484.length co13) k_ ∧ no_ (.slice Ao15 t1487.length co15) k_ ∧ no_ (.slice Ao21 t1501.length co21) k_ ∧ no_ (.slice Ao24 t1504.length co24) k_ ∧ no_ (.slice Ao113 t1536.length co113) k_) (.slice Ao117 t1539.length co117) t1539) ∧ Aside0 (Kd.R k127 127 wc w.heap.size (fun k_ => no_ (.slice Ao16 t1490.length co16) k_ ∧ no_ (.slice Ao25 t1507.length co25) k_) (.slice Ao118 t1542.length co118) t1542) ∧ Aside0 (wc.heap[gb1497]? = some (.cells #[(.slice Ao13 t1484.length co13), (.slice Ao15 t1487.length co15), (.slice Ao16 t1490.length co16)] 47 (0, 0))) ∧ Aside0 (wc.heap[gb1514]? = some (.cells #[(.slice Ao21 t1501.length co21), (.slice Ao24 t1504.length co24), (.slice Ao25 t1507.length co25)] 47 (0, 0))) ∧ Aside0 (wc.heap[gb1549]? = some (.cells #[(.slice Ao113 t1536.length co113), (.slice Ao117 t1539.length co117), (.slice Ao118 t1542.length co118)] 47 (0, 0))) ∧ Aside0 (Below w.heap.size w wc))
     case first =>
      have H := HC101.out
      clear HC101
      replace H := Option.bind_eq_some_iff.mp H
      obtain ⟨t1550, A1190, H⟩ := H
      replace H : (if t1550 = true then ((laws_eqBoolS.f kj50 t1545 t1493).bind fun t1551 => (if t1551 = true then (laws_FnExactPlayPair.j2 kj50 t1530 t1529 (t1548 != t1496) t1526 t1527 t1528) else (laws_FnExactPlayPair.j2 kj50 t1530 t1529 true t1526 t1527 t1528))) else (laws_FnExactPlayPair.j2 kj50 t1530 t1529 true t1526 t1527 t1528)) = some r := H
      have A119 := Aside0.mk A1190
      clear A1190
      by_cases c120 : t1550 = true
      rotate_left
      ·replace c120 := Bool.eq_false_iff.mpr c120
       subst c120
       rw [if_neg (show ¬ (false = true) by decide)] at H
       have H' := Aside0.mk H
       clear H
       have hnb139 := NB1549_1497.out
       have hnc139 := NB1497_1549.out
       have hnb140 := NB1549_1514.out
       have hnc140 := NB1514_1549.out
       have hcz141_0 : w112.cell? ⟨gb1549, 0, none⟩ = some (.slice none 0 0) := bc_ BK1549 0
       have hcz141_1 : w112.cell? ⟨gb1549, 1, none⟩ = some (.slice none 0 0) := bc_ BK1549 1
       have hcz141_2 : w112.cell? ⟨gb1549, 2, none⟩ = some (.slice none 0 0) := bc_ BK1549 2
       have hfz141_0 := blk_frozen BK1549.out 0
       have hfz141_1 := blk_frozen BK1549.out 1
       have hfz141_2 := blk_frozen BK1549.out 2
       have hnb142 := NB1497_1514.out
       have hnc142 := NB1514_1497.out
       have hcz143_0 : w112.cell? ⟨gb1497, 0, none⟩ = some (.slice Ao13 t1484.length co13) := bc_ BK1497 0
       have hcz143_1 : w112.cell? ⟨gb1497, 1, none⟩ = some (.slice Ao15 t1487.length co15) := bc_ BK1497 1
       have hcz143_2 : w112.cell? ⟨gb1497, 2, none⟩ = some (.slice Ao16 t1490.length co16) := bc_ BK1497 2
       have hfz143_0 := blk_frozen BK1497.out 0
       have hfz143_1 := blk_frozen BK1497.out 1
       have hfz143_2 := blk_frozen BK1497.out 2
       go_wp2_with (first | ((with_reducible refine gate_callee (f := 34) rfl ?_); refine goesL_ (some 107) rfl rfl Try.func34 (by kernel_rfl) rfl #[.agg #[.slice Ao113 t1536.length co113, .slice Ao117 t1539.length co117, .slice Ao118 t1542.length co118], .agg #[.slice Ao13 t1484.length co13, .slice Ao15 t1487.length co15, .slice Ao16 t1490.length co16]] rfl tm_ ?_; (with_reducible refine (laws_eqPair.calls kj50 _ _ t1536 _ _ t1539 _ _ t1542 _ _ t1484 _ _ t1487 _ _ t1490 false _ ?side1 ?side2 ?side3 ?side4 ?side5 ?side6 ?side7 ?side8 ?side9 ?side10 ?side11 ?side12 A119.out).mono ?_); (case side1 => exact rr_ (fm3_ HO1538 BK1549)); (case side2 => exact (Kd.R_reads' HO1538.out).2.1); (case side3 => exact rr_ (fm3_ HO1541 BK1549)); (case side4 => exact (Kd.R_reads' HO1541.out).2.1); (case side5 => exact rr_ (fm3_ HO1544 BK1549)); (case side6 => exact (Kd.R_reads' HO1544.out).2.1); (case side7 => exact rr_ (fm3_ HO_1498000 BK1549)); (case side8 => exact (Kd.R_reads' HO_1498000.out).2.1); (case side9 => exact rr_ (fm3_ HO_1498001 BK1549)); (case side10 => exact (Kd.R_reads' HO_1498001.out).2.1); (case side11 => exact rr_ (fm3_ HO_1498002 BK1549)); (case side12 => exact (Kd.R_reads' HO_1498002.out).2.1); rintro e w144 ⟨rfl, hb⟩; refine ⟨_, rfl, ?_⟩; replace HO_5 := rb3_ HO_5 BK1549 hb; replace HO_9 := rb3_ HO_9 BK1549 hb; replace HO_1498000 := rb3_ HO_1498000 BK1549 hb; replace HO_1498001 := rb3_ HO_1498001 BK1549 hb; replace HO_1498002 := rb3_ HO_1498002 BK1549 hb; replace HO_1515000 := rb3_ HO_1515000 BK1549 hb; replace HO_1515001 := rb3_ HO_1515001 BK1549 hb; replace HO_1515002 := rb3_ HO_1515002 BK1549 hb; replace HO1535 := rb3_ HO1535 BK1549 hb; replace HO1538 := rb3_ HO1538 BK1549 hb; replace HO1541 := rb3_ HO1541 BK1549 hb; replace HO1544 := rb3_ HO1544 BK1549 hb; replace HO1547 := rb3_ HO1547 BK1549 hb; replace BK1497 := Aside0.mk (blk_below (bx BK1497) hb); replace BK1514 := Aside0.mk (blk_below (bx BK1514) hb); replace BK1549 := Aside0.mk (blk_below (g := gb1549) (o := .cells #[.slice Ao113 t1536.length co113, .slice Ao117 t1539.length co117, .slice Ao118 t1542.length co118] 47 (0, 0)) (by (with_reducible repeat (first | refine blk_drewN ?_ _ | refine blk_drew ?_ | refine blk_alloc ?_ _)); refine blk_put (cs := #[.slice Ao113 t1536.length co113, .slice Ao117 t1539.length co117, .slice none 0 0]) ?_ 2 _ rfl; (with_reducible repeat (first | refine blk_drewN ?_ _ | refine blk_drew ?_ | refine blk_alloc ?_ _)); refine blk_put (cs := #[.slice Ao113 t1536.length co113, .slice none 0 0, .slice none 0 0]) ?_ 1 _ rfl; (with_reducible repeat (first | refine blk_drewN ?_ _ | refine blk_drew ?_ | refine blk_alloc ?_ _)); refine blk_put (cs := #[.slice none 0 0, .slice none 0 0, .slice none 0 0]) ?_ 0 _ rfl; (with_reducible repeat (first | refine blk_drewN ?_ _ | refine blk_drew ?_ | refine blk_alloc ?_ _)); exact BK1549.out) hb); replace HB := bst_ HB hb; clear hb))
       go_meet
       case rel => exact ⟨_, (true), (by first | rfl | (simp; done) | (simp [*]; done)), H', ⟨by have := HJ7.out; have := HJ50.out; first | omega | exact Nat.le_refl _⟩, rm_ HO_9 (fun _ hk => trivial), rm_ HO_1498000 (fun _ hk => ⟨hk.1.1.1, ⟨hk.1.1.2.1, ⟨hk.1.1.2.2, ⟨hk.1.2, hk.2⟩⟩⟩⟩), rm_ HO_1498001 (fun _ hk => ⟨hk.1.1.1, ⟨hk.1.1.2.1, ⟨hk.1.1.2.2, ⟨hk.1.2, hk.2⟩⟩⟩⟩), ⟨ra HO_1498002.out⟩, rm_ HO_1515000 (fun _ hk => ⟨hk.1.1.1, ⟨hk.1.1.2.1, ⟨hk.1.1.2.2, ⟨hk.1.2, hk.2⟩⟩⟩⟩), rm_ HO_1515001 (fun _ hk => ⟨hk.1.1.1, ⟨hk.1.1.2.1, ⟨hk.1.1.2.2, ⟨hk.1.2, hk.2⟩⟩⟩⟩), ⟨ra HO_1515002.out⟩, rm_ HO1538 (fun _ hk => ⟨hk.1.1.1.2, ⟨hk.1.1.2, ⟨hk.1.2, ⟨hk.2, hk.1.1.1.1⟩⟩⟩⟩), rm_ HO1541 (fun _ hk => ⟨hk.1.1.1.2, ⟨hk.1.1.2, ⟨hk.1.2, ⟨hk.2, hk.1.1.1.1⟩⟩⟩⟩), rm_ HO1544 (fun _ hk => ⟨hk.1.2, hk.2⟩), ⟨by (with_reducible repeat (first | refine blk_drewN ?_ _ | refine blk_drew ?_ | refine blk_alloc ?_ _)); exact BK1497.out⟩, ⟨by (with_reducible repeat (first | refine blk_drewN ?_ _ | refine blk_drew ?_ | refine blk_alloc ?_ _)); exact BK1514.out⟩, ⟨by (with_reducible repeat (first | refine blk_drewN ?_ _ | refine blk_drew ?_ | refine blk_alloc ?_ _)); exact BK1549.out⟩, ⟨hB HB⟩⟩
      subst c120
      rw [if_pos rfl] at H
      replace H := Option.bind_eq_some_iff.mp H
      obtain ⟨t1551, A1210, H⟩ := H
      replace H : (if t1551 = true then (laws_FnExactPlayPair.j2 kj50 t1530 t1529 (t1548 != t1496) t1526 t1527 t1528) else (laws_FnExactPlayPair.j2 kj50 t1530 t1529 true t1526 t1527 t1528)) = some r := H
      have A121 := Aside0.mk A1210
      clear A1210
      by_cases c122 : t1551 = true
      ·subst c122
       rw [if_pos rfl] at H
       have H' := Aside0.mk H
       clear H
       have hnb123 := NB1549_1497.out
       have hnc123 := NB1497_1549.out
       have hnb124 := NB1549_1514.out
       have hnc124 := NB1514_1549.out
       have hcz125_0 : w112.cell? ⟨gb1549, 0, none⟩ = some (.slice none 0 0) := bc_ BK1549 0
       have hcz125_1 : w112.cell? ⟨gb1549, 1, none⟩ = some (.slice none 0 0) := bc_ BK1549 1
       have hcz125_2 : w112.cell? ⟨gb1549, 2, none⟩ = some (.slice none 0 0) := bc_ BK1549 2
       have hfz125_0 := blk_frozen BK1549.out 0
       have hfz125_1 := blk_frozen BK1549.out 1
       have hfz125_2 := blk_frozen BK1549.out 2
       have hnb126 := NB1497_1514.out
       have hnc126 := NB1514_1497.out
       have hcz127_0 : w112.cell? ⟨gb1497, 0, none⟩ = some (.slice Ao13 t1484.length co13) := bc_ BK1497 0
       have hcz127_1 : w112.cell? ⟨gb1497, 1, none⟩ = some (.slice Ao15 t1487.length co15) := bc_ BK1497 1
       have hcz127_2 : w112.cell? ⟨gb1497, 2, none⟩ = some (.slice Ao16 t1490.length co16) := bc_ BK1497 2
       have hfz127_0 := blk_frozen BK1497.out 0
       have hfz127_1 := blk_frozen BK1497.out 1
       have hfz127_2 := blk_frozen BK1497.out 2
       go_wp2_with (first | ((with_reducible refine gate_callee (f := 34) rfl ?_); refine goesL_ (some 107) rfl rfl Try.func34 (by kernel_rfl) rfl #[.agg #[.slice Ao113 t1536.length co113, .slice Ao117 t1539.length co117, .slice Ao118 t1542.length co118], .agg #[.slice Ao13 t1484.length co13, .slice Ao15 t1487.length co15, .slice Ao16 t1490.length co16]] rfl tm_ ?_; (with_reducible refine (laws_eqPair.calls kj50 _ _ t1536 _ _ t1539 _ _ t1542 _ _ t1484 _ _ t1487 _ _ t1490 true _ ?side1 ?side2 ?side3 ?side4 ?side5 ?side6 ?side7 ?side8 ?side9 ?side10 ?side11 ?side12 A119.out).mono ?_); (case side1 => exact rr_ (fm3_ HO1538 BK1549)); (case side2 => exact (Kd.R_reads' HO1538.out).2.1); (case side3 => exact rr_ (fm3_ HO1541 BK1549)); (case side4 => exact (Kd.R_reads' HO1541.out).2.1); (case side5 => exact rr_ (fm3_ HO1544 BK1549)); (case side6 => exact (Kd.R_reads' HO1544.out).2.1); (case side7 => exact rr_ (fm3_ HO_1498000 BK1549)); (case side8 => exact (Kd.R_reads' HO_1498000.out).2.1); (case side9 => exact rr_ (fm3_ HO_1498001 BK1549)); (case side10 => exact (Kd.R_reads' HO_1498001.out).2.1); (case side11 => exact rr_ (fm3_ HO_1498002 BK1549)); (case side12 => exact (Kd.R_reads' HO_1498002.out).2.1); rintro e w128 ⟨rfl, hb⟩; refine ⟨_, rfl, ?_⟩; replace HO_5 := rb3_ HO_5 BK1549 hb; replace HO_9 := rb3_ HO_9 BK1549 hb; replace HO_1498000 := rb3_ HO_1498000 BK1549 hb; replace HO_1498001 := rb3_ HO_1498001 BK1549 hb; replace HO_1498002 := rb3_ HO_1498002 BK1549 hb; replace HO_1515000 := rb3_ HO_1515000 BK1549 hb; replace HO_1515001 := rb3_ HO_1515001 BK1549 hb; replace HO_1515002 := rb3_ HO_1515002 BK1549 hb; replace HO1535 := rb3_ HO1535 BK1549 hb; replace HO1538 := rb3_ HO1538 BK1549 hb; replace HO1541 := rb3_ HO1541 BK1549 hb; replace HO1544 := rb3_ HO1544 BK1549 hb; replace HO1547 := rb3_ HO1547 BK1549 hb; replace BK1497 := Aside0.mk (blk_below (bx BK1497) hb); replace BK1514 := Aside0.mk (blk_below (bx BK1514) hb); replace BK1549 := Aside0.mk (blk_below (g := gb1549) (o := .cells #[.slice Ao113 t1536.length co113, .slice Ao117 t1539.length co117, .slice Ao118 t1542.length co118] 47 (0, 0)) (by (with_reducible repeat (first | refine blk_drewN ?_ _ | refine blk_drew ?_ | refine blk_alloc ?_ _)); refine blk_put (cs := #[.slice Ao113 t1536.length co113, .slice Ao117 t1539.length co117, .slice none 0 0]) ?_ 2 _ rfl; (with_reducible repeat (first | refine blk_drewN ?_ _ | refine blk_drew ?_ | refine blk_alloc ?_ _)); refine blk_put (cs := #[.slice Ao113 t1536.length co113, .slice none 0 0, .slice none 0 0]) ?_ 1 _ rfl; (with_reducible repeat (first | refine blk_drewN ?_ _ | refine blk_drew ?_ | refine blk_alloc ?_ _)); refine blk_put (cs := #[.slice none 0 0, .slice none 0 0, .slice none 0 0]) ?_ 0 _ rfl; (with_reducible repeat (first | refine blk_drewN ?_ _ | refine blk_drew ?_ | refine blk_alloc ?_ _)); exact BK1549.out) hb); replace HB := bst_ HB hb; clear hb; obtain ⟨Ao129, co129, eo129⟩ := Kd.R_slice HO1547.out; subst eo129; obtain ⟨Ao130, co130, eo130⟩ := Kd.R_slice HO_5.out; subst eo130) | (go_at_call 57; (with_reducible refine (laws_eqBoolS.calls kj50 _ _ t1545 _ _ t1493 true _ ?side1 ?side2 ?side3 ?side4 A121.out).mono ?_); (case side1 => exact ca (Kd.R_reads' HO1547.out).2.2); (case side2 => exact (Kd.R_reads' HO1547.out).2.1); (case side3 => exact ca (Kd.R_reads' HO_5.out).2.2); (case side4 => exact (Kd.R_reads' HO_5.out).2.1); rintro e w' ⟨rfl, ⟨nd, rfl⟩⟩))
       go_meet
       case rel => exact ⟨_, ((t1548 != t1496)), (by first | rfl | (simp; done) | (simp [*]; done)), H', ⟨by have := HJ7.out; have := HJ50.out; first | omega | exact Nat.le_refl _⟩, rm_ HO_9 (fun _ hk => trivial), rm_ HO_1498000 (fun _ hk => ⟨hk.1.1.1, ⟨hk.1.1.2.1, ⟨hk.1.1.2.2, ⟨hk.1.2, hk.2⟩⟩⟩⟩), rm_ HO_1498001 (fun _ hk => ⟨hk.1.1.1, ⟨hk.1.1.2.1, ⟨hk.1.1.2.2, ⟨hk.1.2, hk.2⟩⟩⟩⟩), ⟨ra HO_1498002.out⟩, rm_ HO_1515000 (fun _ hk => ⟨hk.1.1.1, ⟨hk.1.1.2.1, ⟨hk.1.1.2.2, ⟨hk.1.2, hk.2⟩⟩⟩⟩), rm_ HO_1515001 (fun _ hk => ⟨hk.1.1.1, ⟨hk.1.1.2.1, ⟨hk.1.1.2.2, ⟨hk.1.2, hk.2⟩⟩⟩⟩), ⟨ra HO_1515002.out⟩, rm_ HO1538 (fun _ hk => ⟨hk.1.1.1.2, ⟨hk.1.1.2, ⟨hk.1.2, ⟨hk.2, hk.1.1.1.1⟩⟩⟩⟩), rm_ HO1541 (fun _ hk => ⟨hk.1.1.1.2, ⟨hk.1.1.2, ⟨hk.1.2, ⟨hk.2, hk.1.1.1.1⟩⟩⟩⟩), rm_ HO1544 (fun _ hk => ⟨hk.1.2, hk.2⟩), ⟨by (with_reducible repeat (first | refine blk_drewN ?_ _ | refine blk_drew ?_ | refine blk_alloc ?_ _)); exact BK1497.out⟩, ⟨by (with_reducible repeat (first | refine blk_drewN ?_ _ | refine blk_drew ?_ | refine blk_alloc ?_ _)); exact BK1514.out⟩, ⟨by (with_reducible repeat (first | refine blk_drewN ?_ _ | refine blk_drew ?_ | refine blk_alloc ?_ _)); exact BK1549.out⟩, ⟨hB HB⟩⟩
      replace c122 := Bool.eq_false_iff.mpr c122
      subst c122
      rw [if_neg (show ¬ (false = true) by decide)] at H
      have H' := Aside0.mk H
      clear H
      have hnb131 := NB1549_1497.out
      have hnc131 := NB1497_1549.out
      have hnb132 := NB1549_1514.out
      have hnc132 := NB1514_1549.out
      have hcz133_0 : w112.cell? ⟨gb1549, 0, none⟩ = some (.slice none 0 0) := bc_ BK1549 0
      have hcz133_1 : w112.cell? ⟨gb1549, 1, none⟩ = some (.slice none 0 0) := bc_ BK1549 1
      have hcz133_2 : w112.cell? ⟨gb1549, 2, none⟩ = some (.slice none 0 0) := bc_ BK1549 2
      have hfz133_0 := blk_frozen BK1549.out 0
      have hfz133_1 := blk_frozen BK1549.out 1
      have hfz133_2 := blk_frozen BK1549.out 2
      have hnb134 := NB1497_1514.out
      have hnc134 := NB1514_1497.out
      have hcz135_0 : w112.cell? ⟨gb1497, 0, none⟩ = some (.slice Ao13 t1484.length co13) := bc_ BK1497 0
      have hcz135_1 : w112.cell? ⟨gb1497, 1, none⟩ = some (.slice Ao15 t1487.length co15) := bc_ BK1497 1
      have hcz135_2 : w112.cell? ⟨gb1497, 2, none⟩ = some (.slice Ao16 t1490.length co16) := bc_ BK1497 2
      have hfz135_0 := blk_frozen BK1497.out 0
      have hfz135_1 := blk_frozen BK1497.out 1
      have hfz135_2 := blk_frozen BK1497.out 2
      go_wp2_with (first | ((with_reducible refine gate_callee (f := 34) rfl ?_); refine goesL_ (some 107) rfl rfl Try.func34 (by kernel_rfl) rfl #[.agg #[.slice Ao113 t1536.length co113, .slice Ao117 t1539.length co117, .slice Ao118 t1542.length co118], .agg #[.slice Ao13 t1484.length co13, .slice Ao15 t1487.length co15, .slice Ao16 t1490.length co16]] rfl tm_ ?_; (with_reducible refine (laws_eqPair.calls kj50 _ _ t1536 _ _ t1539 _ _ t1542 _ _ t1484 _ _ t1487 _ _ t1490 true _ ?side1 ?side2 ?side3 ?side4 ?side5 ?side6 ?side7 ?side8 ?side9 ?side10 ?side11 ?side12 A119.out).mono ?_); (case side1 => exact rr_ (fm3_ HO1538 BK1549)); (case side2 => exact (Kd.R_reads' HO1538.out).2.1); (case side3 => exact rr_ (fm3_ HO1541 BK1549)); (case side4 => exact (Kd.R_reads' HO1541.out).2.1); (case side5 => exact rr_ (fm3_ HO1544 BK1549)); (case side6 => exact (Kd.R_reads' HO1544.out).2.1); (case side7 => exact rr_ (fm3_ HO_1498000 BK1549)); (case side8 => exact (Kd.R_reads' HO_1498000.out).2.1); (case side9 => exact rr_ (fm3_ HO_1498001 BK1549)); (case side10 => exact (Kd.R_reads' HO_1498001.out).2.1); (case side11 => exact rr_ (fm3_ HO_1498002 BK1549)); (case side12 => exact (Kd.R_reads' HO_1498002.out).2.1); rintro e w136 ⟨rfl, hb⟩; refine ⟨_, rfl, ?_⟩; replace HO_5 := rb3_ HO_5 BK1549 hb; replace HO_9 := rb3_ HO_9 BK1549 hb; replace HO_1498000 := rb3_ HO_1498000 BK1549 hb; replace HO_1498001 := rb3_ HO_1498001 BK1549 hb; replace HO_1498002 := rb3_ HO_1498002 BK1549 hb; replace HO_1515000 := rb3_ HO_1515000 BK1549 hb; replace HO_1515001 := rb3_ HO_1515001 BK1549 hb; replace HO_1515002 := rb3_ HO_1515002 BK1549 hb; replace HO1535 := rb3_ HO1535 BK1549 hb; replace HO1538 := rb3_ HO1538 BK1549 hb; replace HO1541 := rb3_ HO1541 BK1549 hb; replace HO1544 := rb3_ HO1544 BK1549 hb; replace HO1547 := rb3_ HO1547 BK1549 hb; replace BK1497 := Aside0.mk (blk_below (bx BK1497) hb); replace BK1514 := Aside0.mk (blk_below (bx BK1514) hb); replace BK1549 := Aside0.mk (blk_below (g := gb1549) (o := .cells #[.slice Ao113 t1536.length co113, .slice Ao117 t1539.length co117, .slice Ao118 t1542.length co118] 47 (0, 0)) (by (with_reducible repeat (first | refine blk_drewN ?_ _ | refine blk_drew ?_ | refine blk_alloc ?_ _)); refine blk_put (cs := #[.slice Ao113 t1536.length co113, .slice Ao117 t1539.length co117, .slice none 0 0]) ?_ 2 _ rfl; (with_reducible repeat (first | refine blk_drewN ?_ _ | refine blk_drew ?_ | refine blk_alloc ?_ _)); refine blk_put (cs := #[.slice Ao113 t1536.length co113, .slice none 0 0, .slice none 0 0]) ?_ 1 _ rfl; (with_reducible repeat (first | refine blk_drewN ?_ _ | refine blk_drew ?_ | refine blk_alloc ?_ _)); refine blk_put (cs := #[.slice none 0 0, .slice none 0 0, .slice none 0 0]) ?_ 0 _ rfl; (with_reducible repeat (first | refine blk_drewN ?_ _ | refine blk_drew ?_ | refine blk_alloc ?_ _)); exact BK1549.out) hb); replace HB := bst_ HB hb; clear hb; obtain ⟨Ao137, co137, eo137⟩ := Kd.R_slice HO1547.out; subst eo137; obtain ⟨Ao138, co138, eo138⟩ := Kd.R_slice HO_5.out; subst eo138) | (go_at_call 57; (with_reducible refine (laws_eqBoolS.calls kj50 _ _ t1545 _ _ t1493 false _ ?side1 ?side2 ?side3 ?side4 A121.out).mono ?_); (case side1 => exact ca (Kd.R_reads' HO1547.out).2.2); (case side2 => exact (Kd.R_reads' HO1547.out).2.1); (case side3 => exact ca (Kd.R_reads' HO_5.out).2.2); (case side4 => exact (Kd.R_reads' HO_5.out).2.1); rintro e w' ⟨rfl, ⟨nd, rfl⟩⟩))
      go_meet
      case rel => exact ⟨_, (true), (by first | rfl | (simp; done) | (simp [*]; done)), H', ⟨by have := HJ7.out; have := HJ50.out; first | omega | exact Nat.le_refl _⟩, rm_ HO_9 (fun _ hk => trivial), rm_ HO_1498000 (fun _ hk => ⟨hk.1.1.1, ⟨hk.1.1.2.1, ⟨hk.1.1.2.2, ⟨hk.1.2, hk.2⟩⟩⟩⟩), rm_ HO_1498001 (fun _ hk => ⟨hk.1.1.1, ⟨hk.1.1.2.1, ⟨hk.1.1.2.2, ⟨hk.1.2, hk.2⟩⟩⟩⟩), ⟨ra HO_1498002.out⟩, rm_ HO_1515000 (fun _ hk => ⟨hk.1.1.1, ⟨hk.1.1.2.1, ⟨hk.1.1.2.2, ⟨hk.1.2, hk.2⟩⟩⟩⟩), rm_ HO_1515001 (fun _ hk => ⟨hk.1.1.1, ⟨hk.1.1.2.1, ⟨hk.1.1.2.2, ⟨hk.1.2, hk.2⟩⟩⟩⟩), ⟨ra HO_1515002.out⟩, rm_ HO1538 (fun _ hk => ⟨hk.1.1.1.2, ⟨hk.1.1.2, ⟨hk.1.2, ⟨hk.2, hk.1.1.1.1⟩⟩⟩⟩), rm_ HO1541 (fun _ hk => ⟨hk.1.1.1.2, ⟨hk.1.1.2, ⟨hk.1.2, ⟨hk.2, hk.1.1.1.1⟩⟩⟩⟩), rm_ HO1544 (fun _ hk => ⟨hk.1.2, hk.2⟩), ⟨by (with_reducible repeat (first | refine blk_drewN ?_ _ | refine blk_drew ?_ | refine blk_alloc ?_ _)); exact BK1497.out⟩, ⟨by (with_reducible repeat (first | refine blk_drewN ?_ _ | refine blk_drew ?_ | refine blk_alloc ?_ _)); exact BK1514.out⟩, ⟨by (with_reducible repeat (first | refine blk_drewN ?_ _ | refine blk_drew ?_ | refine blk_alloc ?_ _)); exact BK1549.out⟩, ⟨hB HB⟩⟩
     case rest =>
      clear HC101
      try clear c3
      try clear c3b0
      try clear c46
      try clear c49
      try clear c77
      try clear c81
      try clear c81b0
      try clear c90
      try clear c90b0
      try clear c98
      try clear c98b0
      try clear c98b1
      try clear hcz103_0
      try clear hcz103_1
      try clear hcz103_2
      try clear hcz107_0
      try clear hcz107_1
      try clear hcz107_2
      try clear hcz116_0
      try clear hcz116_1
      try clear hcz116_2
      try clear hcz14_0
      try clear hcz14_1
      try clear hcz14_2
      try clear hcz23_0
      try clear hcz23_1
      try clear hcz23_2
      try clear hfz103_0
      try clear hfz103_1
      try clear hfz103_2
      try clear hfz107_0
      try clear hfz107_1
      try clear hfz107_2
      try clear hfz116_0
      try clear hfz116_1
      try clear hfz116_2
      try clear hfz14_0
      try clear hfz14_1
      try clear hfz14_2
      try clear hfz23_0
      try clear hfz23_1
      try clear hfz23_2
      obtain ⟨kq, x119_100, rfl, HA, HJ100, HO_9, HO_1498000, HO_1498001, HO_1498002, HO_1515000, HO_1515001, HO_1515002, HO_1550000, HO_1550001, HO_1550002, BK1497, BK1514, BK1549, HB⟩ := hcut
      have hl9_100 := (Kd.R_reads' HO_9.out).1
      rw [hl9_100] at HO_9
      (try simp only [hl9_100])
      (try simp only [hl9_100] at BK1497)
      (try simp only [hl9_100] at BK1514)
      (try simp only [hl9_100] at BK1549)
      (try simp only [hl9_100] at HO_1498000)
      (try simp only [hl9_100] at HO_1498001)
      (try simp only [hl9_100] at HO_1498002)
      (try simp only [hl9_100] at HO_1515000)
      (try simp only [hl9_100] at HO_1515001)
      (try simp only [hl9_100] at HO_1515002)
      (try simp only [hl9_100] at HO_1550000)
      (try simp only [hl9_100] at HO_1550001)
      (try simp only [hl9_100] at HO_1550002)
      have hl1515000_100 := (Kd.R_reads' HO_1515000.out).1
      rw [hl1515000_100] at HO_1515000
      (try simp only [hl1515000_100])
      (try simp only [hl1515000_100] at BK1497)
      (try simp only [hl1515000_100] at BK1514)
      (try simp only [hl1515000_100] at BK1549)
      (try simp only [hl1515000_100] at HO_9)
      (try simp only [hl1515000_100] at HO_1498000)
      (try simp only [hl1515000_100] at HO_1498001)
      (try simp only [hl1515000_100] at HO_1498002)
      (try simp only [hl1515000_100] at HO_1515001)
      (try simp only [hl1515000_100] at HO_1515002)
      (try simp only [hl1515000_100] at HO_1550000)
      (try simp only [hl1515000_100] at HO_1550001)
      (try simp only [hl1515000_100] at HO_1550002)
      have hl1515001_100 := (Kd.R_reads' HO_1515001.out).1
      rw [hl1515001_100] at HO_1515001
      (try simp only [hl1515001_100])
      (try simp only [hl1515001_100] at BK1497)
      (try simp only [hl1515001_100] at BK1514)
      (try simp only [hl1515001_100] at BK1549)
      (try simp only [hl1515001_100] at HO_9)
      (try simp only [hl1515001_100] at HO_1498000)
      (try simp only [hl1515001_100] at HO_1498001)
      (try simp only [hl1515001_100] at HO_1498002)
      (try simp only [hl1515001_100] at HO_1515000)
      (try simp only [hl1515001_100] at HO_1515002)
      (try simp only [hl1515001_100] at HO_1550000)
      (try simp only [hl1515001_100] at HO_1550001)
      (try simp only [hl1515001_100] at HO_1550002)
      have hl1515002_100 := (Kd.R_reads' HO_1515002.out).1
      rw [hl1515002_100] at HO_1515002
      (try simp only [hl1515002_100])
      (try simp only [hl1515002_100] at BK1497)
      (try simp only [hl1515002_100] at BK1514)
      (try simp only [hl1515002_100] at BK1549)
      (try simp only [hl1515002_100] at HO_9)
      (try simp only [hl1515002_100] at HO_1498000)
      (try simp only [hl1515002_100] at HO_1498001)
      (try simp only [hl1515002_100] at HO_1498002)
      (try simp only [hl1515002_100] at HO_1515000)
      (try simp only [hl1515002_100] at HO_1515001)
      (try simp only [hl1515002_100] at HO_1550000)
      (try simp only [hl1515002_100] at HO_1550001)
      (try simp only [hl1515002_100] at HO_1550002)
      cases kq with
      | zero => exact absurd HA.out (by simp [laws_FnExactPlayPair.j2])
      | succ kj100 =>
       have H := HA.out
       clear HA
       simp only [laws_FnExactPlayPair.j2] at H
       by_cases c145 : x119_100 = true
       ·subst c145
        rw [if_pos rfl] at H
        obtain rfl := Option.some.inj H
        go_wp2
        go_ret
        exact ⟨by first | rfl | (simp [errW_none, errW_some] <;> rfl) | (simp [*, errW_none, errW_some] <;> rfl), by repeat (first | (with_reducible first | exact HB.out | apply below_alloc | apply pw_below_drewN | apply below_drew1 | refine below_set ?_ GE1497.out | refine below_set ?_ GE1514.out | refine below_set ?_ GE1549.out) | exact HB.out)⟩
       replace c145 := Bool.eq_false_iff.mpr c145
       subst c145
       rw [if_neg (show ¬ (false = true) by decide)] at H
       replace H := Option.bind_eq_some_iff.mp H
       obtain ⟨t1552, A1460, H⟩ := H
       replace H : (if t1552 < 0 then (some false) else ((laws_heldBoolS.f kj100 t1530 t1552).bind fun t1553 => (if t1553 < 0 then (some false) else (if t1553 = t1529 then (some true) else (some false))))) = some r := H
       have A146 := Aside0.mk A1460
       clear A1460
       by_cases c147 : t1552 < 0
       ·rw [if_pos c147] at H
        have c147b0 : decide (t1552 < 0) = true := decide_eq_true c147
        clear c147
        obtain rfl := Option.some.inj H
        have hnb148 := NB1514_1497.out
        have hnc148 := NB1497_1514.out
        have hnb149 := NB1514_1549.out
        have hnc149 := NB1549_1514.out
        have hcz150_0 : wc.cell? ⟨gb1514, 0, none⟩ = some (.slice Ao21 t1526.length co21) := bc_ BK1514 0
        have hcz150_1 : wc.cell? ⟨gb1514, 1, none⟩ = some (.slice Ao24 t1527.length co24) := bc_ BK1514 1
        have hcz150_2 : wc.cell? ⟨gb1514, 2, none⟩ = some (.slice Ao25 t1528.length co25) := bc_ BK1514 2
        have hfz150_0 := blk_frozen BK1514.out 0
        have hfz150_1 := blk_frozen BK1514.out 1
        have hfz150_2 := blk_frozen BK1514.out 2
        go_wp2_with (first | ((with_reducible refine gate_callee (f := 36) rfl ?_); refine goesL_ (some 122) rfl rfl Try.func36 (by kernel_rfl) rfl #[.agg #[.slice Ao21 t1526.length co21, .slice Ao24 t1527.length co24, .slice Ao25 t1528.length co25], .int .i64 1] rfl tm_ ?_; (with_reducible refine (laws_heldPair.calls kj100 _ _ t1526 _ _ t1527 _ _ t1528 1 t1552 _ ?side1 ?side2 ?side3 ?side4 ?side5 ?side6 A146.out).mono ?_); (case side1 => exact ca (Kd.R_reads' HO_1515000.out).2.2); (case side2 => exact (Kd.R_reads' HO_1515000.out).2.1); (case side3 => exact ca (Kd.R_reads' HO_1515001.out).2.2); (case side4 => exact (Kd.R_reads' HO_1515001.out).2.1); (case side5 => exact ca (Kd.R_reads' HO_1515002.out).2.2); (case side6 => exact (Kd.R_reads' HO_1515002.out).2.1); rintro e w151 ⟨rfl, hb⟩; refine ⟨_, rfl, ?_⟩; replace HO_9 := rb_ HO_9 hb; replace HO_1498000 := rb_ HO_1498000 hb; replace HO_1498001 := rb_ HO_1498001 hb; replace HO_1498002 := rb_ HO_1498002 hb; replace HO_1515000 := rb_ HO_1515000 hb; replace HO_1515001 := rb_ HO_1515001 hb; replace HO_1515002 := rb_ HO_1515002 hb; replace HO_1550000 := rb_ HO_1550000 hb; replace HO_1550001 := rb_ HO_1550001 hb; replace HO_1550002 := rb_ HO_1550002 hb; replace BK1497 := bb_ BK1497 hb; replace BK1514 := bb_ BK1514 hb; replace BK1549 := bb_ BK1549 hb; replace HB := bst_ HB hb; clear hb))
        go_ret
        exact ⟨by first | rfl | (simp [errW_none, errW_some] <;> rfl) | (simp [*, errW_none, errW_some] <;> rfl), by repeat (first | (with_reducible first | exact HB.out | apply below_alloc | apply pw_below_drewN | apply below_drew1 | refine below_set ?_ GE1497.out | refine below_set ?_ GE1514.out | refine below_set ?_ GE1549.out) | exact HB.out)⟩
       rw [if_neg c147] at H
       have c147b0 : decide (t1552 < 0) = false := decide_eq_false c147
       clear c147
       replace H := Option.bind_eq_some_iff.mp H
       obtain ⟨t1553, A1520, H⟩ := H
       replace H : (if t1553 < 0 then (some false) else (if t1553 = t1529 then (some true) else (some false))) = some r := H
       have A152 := Aside0.mk A1520
       clear A1520
       by_cases c153 : t1553 < 0
       ·rw [if_pos c153] at H
        have c153b0 : decide (t1553 < 0) = true := decide_eq_true c153
        clear c153
        obtain rfl := Option.some.inj H
        have hnb154 := NB1514_1497.out
        have hnc154 := NB1497_1514.out
        have hnb155 := NB1514_1549.out
        have hnc155 := NB1549_1514.out
        have hcz156_0 : wc.cell? ⟨gb1514, 0, none⟩ = some (.slice Ao21 t1526.length co21) := bc_ BK1514 0
        have hcz156_1 : wc.cell? ⟨gb1514, 1, none⟩ = some (.slice Ao24 t1527.length co24) := bc_ BK1514 1
        have hcz156_2 : wc.cell? ⟨gb1514, 2, none⟩ = some (.slice Ao25 t1528.length co25) := bc_ BK1514 2
        have hfz156_0 := blk_frozen BK1514.out 0
        have hfz156_1 := blk_frozen BK1514.out 1
        have hfz156_2 := blk_frozen BK1514.out 2
        go_wp2_with (first | ((with_reducible refine gate_callee (f := 36) rfl ?_); refine goesL_ (some 122) rfl rfl Try.func36 (by kernel_rfl) rfl #[.agg #[.slice Ao21 t1526.length co21, .slice Ao24 t1527.length co24, .slice Ao25 t1528.length co25], .int .i64 1] rfl tm_ ?_; (with_reducible refine (laws_heldPair.calls kj100 _ _ t1526 _ _ t1527 _ _ t1528 1 t1552 _ ?side1 ?side2 ?side3 ?side4 ?side5 ?side6 A146.out).mono ?_); (case side1 => exact ca (Kd.R_reads' HO_1515000.out).2.2); (case side2 => exact (Kd.R_reads' HO_1515000.out).2.1); (case side3 => exact ca (Kd.R_reads' HO_1515001.out).2.2); (case side4 => exact (Kd.R_reads' HO_1515001.out).2.1); (case side5 => exact ca (Kd.R_reads' HO_1515002.out).2.2); (case side6 => exact (Kd.R_reads' HO_1515002.out).2.1); rintro e w157 ⟨rfl, hb⟩; refine ⟨_, rfl, ?_⟩; replace HO_9 := rb_ HO_9 hb; replace HO_1498000 := rb_ HO_1498000 hb; replace HO_1498001 := rb_ HO_1498001 hb; replace HO_1498002 := rb_ HO_1498002 hb; replace HO_1515000 := rb_ HO_1515000 hb; replace HO_1515001 := rb_ HO_1515001 hb; replace HO_1515002 := rb_ HO_1515002 hb; replace HO_1550000 := rb_ HO_1550000 hb; replace HO_1550001 := rb_ HO_1550001 hb; replace HO_1550002 := rb_ HO_1550002 hb; replace BK1497 := bb_ BK1497 hb; replace BK1514 := bb_ BK1514 hb; replace BK1549 := bb_ BK1549 hb; replace HB := bst_ HB hb; clear hb) | ((with_reducible refine gate_callee (f := 61) rfl ?_); refine goesL_ (some 127) rfl rfl Try.func61 (by kernel_rfl) rfl #[.slice Ao105 t1530.length co105, .int .i64 t1552] rfl tm_ ?_; (with_reducible refine (laws_heldBoolS.calls kj100 _ _ t1530 t1552 t1553 _ ?side1 ?side2 A152.out).mono ?_); (case side1 => exact ca (Kd.R_reads' HO_9.out).2.2); (case side2 => exact (Kd.R_reads' HO_9.out).2.1); rintro e w' ⟨rfl, ⟨nd, rfl⟩⟩; refine ⟨_, rfl, ?_⟩))
        go_ret
        exact ⟨by first | rfl | (simp [errW_none, errW_some] <;> rfl) | (simp [*, errW_none, errW_some] <;> rfl), by repeat (first | (with_reducible first | exact HB.out | apply below_alloc | apply pw_below_drewN | apply below_drew1 | refine below_set ?_ GE1497.out | refine below_set ?_ GE1514.out | refine below_set ?_ GE1549.out) | exact HB.out)⟩
       rw [if_neg c153] at H
       have c153b0 : decide (t1553 < 0) = false := decide_eq_false c153
       clear c153
       by_cases c158 : t1553 = t1529
       rotate_left
       ·rw [if_neg c158] at H
        have c158b0 : (t1553 == t1529) = false := beq_eq_false_iff_ne.mpr c158
        have c158b1 : (t1553 != t1529) = true := bne_iff_ne.mpr c158
        obtain rfl := Option.some.inj H
        have hnb163 := NB1514_1497.out
        have hnc163 := NB1497_1514.out
        have hnb164 := NB1514_1549.out
        have hnc164 := NB1549_1514.out
        have hcz165_0 : wc.cell? ⟨gb1514, 0, none⟩ = some (.slice Ao21 t1526.length co21) := bc_ BK1514 0
        have hcz165_1 : wc.cell? ⟨gb1514, 1, none⟩ = some (.slice Ao24 t1527.length co24) := bc_ BK1514 1
        have hcz165_2 : wc.cell? ⟨gb1514, 2, none⟩ = some (.slice Ao25 t1528.length co25) := bc_ BK1514 2
        have hfz165_0 := blk_frozen BK1514.out 0
        have hfz165_1 := blk_frozen BK1514.out 1
        have hfz165_2 := blk_frozen BK1514.out 2
        go_wp2_with (first | ((with_reducible refine gate_callee (f := 36) rfl ?_); refine goesL_ (some 122) rfl rfl Try.func36 (by kernel_rfl) rfl #[.agg #[.slice Ao21 t1526.length co21, .slice Ao24 t1527.length co24, .slice Ao25 t1528.length co25], .int .i64 1] rfl tm_ ?_; (with_reducible refine (laws_heldPair.calls kj100 _ _ t1526 _ _ t1527 _ _ t1528 1 t1552 _ ?side1 ?side2 ?side3 ?side4 ?side5 ?side6 A146.out).mono ?_); (case side1 => exact ca (Kd.R_reads' HO_1515000.out).2.2); (case side2 => exact (Kd.R_reads' HO_1515000.out).2.1); (case side3 => exact ca (Kd.R_reads' HO_1515001.out).2.2); (case side4 => exact (Kd.R_reads' HO_1515001.out).2.1); (case side5 => exact ca (Kd.R_reads' HO_1515002.out).2.2); (case side6 => exact (Kd.R_reads' HO_1515002.out).2.1); rintro e w166 ⟨rfl, hb⟩; refine ⟨_, rfl, ?_⟩; replace HO_9 := rb_ HO_9 hb; replace HO_1498000 := rb_ HO_1498000 hb; replace HO_1498001 := rb_ HO_1498001 hb; replace HO_1498002 := rb_ HO_1498002 hb; replace HO_1515000 := rb_ HO_1515000 hb; replace HO_1515001 := rb_ HO_1515001 hb; replace HO_1515002 := rb_ HO_1515002 hb; replace HO_1550000 := rb_ HO_1550000 hb; replace HO_1550001 := rb_ HO_1550001 hb; replace HO_1550002 := rb_ HO_1550002 hb; replace BK1497 := bb_ BK1497 hb; replace BK1514 := bb_ BK1514 hb; replace BK1549 := bb_ BK1549 hb; replace HB := bst_ HB hb; clear hb) | ((with_reducible refine gate_callee (f := 61) rfl ?_); refine goesL_ (some 127) rfl rfl Try.func61 (by kernel_rfl) rfl #[.slice Ao105 t1530.length co105, .int .i64 t1552] rfl tm_ ?_; (with_reducible refine (laws_heldBoolS.calls kj100 _ _ t1530 t1552 t1553 _ ?side1 ?side2 A152.out).mono ?_); (case side1 => exact ca (Kd.R_reads' HO_9.out).2.2); (case side2 => exact (Kd.R_reads' HO_9.out).2.1); rintro e w' ⟨rfl, ⟨nd, rfl⟩⟩; refine ⟨_, rfl, ?_⟩))
        go_ret
        exact ⟨by first | rfl | (simp [errW_none, errW_some] <;> rfl) | (simp [*, errW_none, errW_some] <;> rfl), by repeat (first | (with_reducible first | exact HB.out | apply below_alloc | apply pw_below_drewN | apply below_drew1 | refine below_set ?_ GE1497.out | refine below_set ?_ GE1514.out | refine below_set ?_ GE1549.out) | exact HB.out)⟩
       rw [if_pos c158] at H
       have c158b0 : (t1553 == t1529) = true := beq_iff_eq.mpr c158
       have c158b1 : (t1553 != t1529) = false := bne_eq_false_iff_eq.mpr c158
       clear c158
       obtain rfl := Option.some.inj H
       have hnb159 := NB1514_1497.out
       have hnc159 := NB1497_1514.out
       have hnb160 := NB1514_1549.out
       have hnc160 := NB1549_1514.out
       have hcz161_0 : wc.cell? ⟨gb1514, 0, none⟩ = some (.slice Ao21 t1526.length co21) := bc_ BK1514 0
       have hcz161_1 : wc.cell? ⟨gb1514, 1, none⟩ = some (.slice Ao24 t1527.length co24) := bc_ BK1514 1
       have hcz161_2 : wc.cell? ⟨gb1514, 2, none⟩ = some (.slice Ao25 t1528.length co25) := bc_ BK1514 2
       have hfz161_0 := blk_frozen BK1514.out 0
       have hfz161_1 := blk_frozen BK1514.out 1
       have hfz161_2 := blk_frozen BK1514.out 2
       go_wp2_with (first | ((with_reducible refine gate_callee (f := 36) rfl ?_); refine goesL_ (some 122) rfl rfl Try.func36 (by kernel_rfl) rfl #[.agg #[.slice Ao21 t1526.length co21, .slice Ao24 t1527.length co24, .slice Ao25 t1528.length co25], .int .i64 1] rfl tm_ ?_; (with_reducible refine (laws_heldPair.calls kj100 _ _ t1526 _ _ t1527 _ _ t1528 1 t1552 _ ?side1 ?side2 ?side3 ?side4 ?side5 ?side6 A146.out).mono ?_); (case side1 => exact ca (Kd.R_reads' HO_1515000.out).2.2); (case side2 => exact (Kd.R_reads' HO_1515000.out).2.1); (case side3 => exact ca (Kd.R_reads' HO_1515001.out).2.2); (case side4 => exact (Kd.R_reads' HO_1515001.out).2.1); (case side5 => exact ca (Kd.R_reads' HO_1515002.out).2.2); (case side6 => exact (Kd.R_reads' HO_1515002.out).2.1); rintro e w162 ⟨rfl, hb⟩; refine ⟨_, rfl, ?_⟩; replace HO_9 := rb_ HO_9 hb; replace HO_1498000 := rb_ HO_1498000 hb; replace HO_1498001 := rb_ HO_1498001 hb; replace HO_1498002 := rb_ HO_1498002 hb; replace HO_1515000 := rb_ HO_1515000 hb; replace HO_1515001 := rb_ HO_1515001 hb; replace HO_1515002 := rb_ HO_1515002 hb; replace HO_1550000 := rb_ HO_1550000 hb; replace HO_1550001 := rb_ HO_1550001 hb; replace HO_1550002 := rb_ HO_1550002 hb; replace BK1497 := bb_ BK1497 hb; replace BK1514 := bb_ BK1514 hb; replace BK1549 := bb_ BK1549 hb; replace HB := bst_ HB hb; clear hb) | ((with_reducible refine gate_callee (f := 61) rfl ?_); refine goesL_ (some 127) rfl rfl Try.func61 (by kernel_rfl) rfl #[.slice Ao105 t1530.length co105, .int .i64 t1552] rfl tm_ ?_; (with_reducible refine (laws_heldBoolS.calls kj100 _ _ t1530 t1552 t1553 _ ?side1 ?side2 A152.out).mono ?_); (case side1 => exact ca (Kd.R_reads' HO_9.out).2.2); (case side2 => exact (Kd.R_reads' HO_9.out).2.1); rintro e w' ⟨rfl, ⟨nd, rfl⟩⟩; refine ⟨_, rfl, ?_⟩))
       go_ret
       exact ⟨by first | rfl | (simp [errW_none, errW_some] <;> rfl) | (simp [*, errW_none, errW_some] <;> rfl), by repeat (first | (with_reducible first | exact HB.out | apply below_alloc | apply pw_below_drewN | apply below_drew1 | refine below_set ?_ GE1497.out | refine below_set ?_ GE1514.out | refine below_set ?_ GE1549.out) | exact HB.out)⟩

end Go.Proofs.Ytolncjkfcmbieaa.P
