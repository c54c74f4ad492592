import Derived.Test.YtnoklicihomfoaaF0
import Derived.Test.YtnoklicihomfoaaF11
import Derived.Test.YtnoklicihomfoaaF13
import Derived.Test.YtnoklicihomfoaaF20
import Derived.Test.YtnoklicihomfoaaF30
import Derived.Test.YtnoklicihomfoaaF32
import Derived.Test.YtnoklicihomfoaaF35
namespace Go.Proofs.Ytnoklicihomfoaa.P
open Go.RowKit Go.Proofs.YtnoklicihomfoaaW.PrintWords Go.Proofs.YtnoklicihomfoaaW.PrintLast Go.Proofs.YtnoklicihomfoaaW.PrintMore
attribute [local go_sem] max2_int min2_int max_two min_two max_three min_three max_four min_four   -- for this text's walks alone
set_option linter.unusedVariables false
set_option linter.unusedSimpArgs false

mutual
def laws_FnExactAskFor.j0 : Nat → List (S106) → List Int → List (S104) → Bool → List (S104) → List Int → List (S104) → Bool → Bool → Int → Int → List (S106) → Int → Int → List (S104) → Option (Bool)
 | 0, _, _, _, _, _, _, _, _, _, _, _, _, _, _, _ => none
 | k + 1, x0, x6, x7, x8, x9, x11, x12, x13, x64, x539000, x539001, x539002, x565000, x565001, x565002 => if x64 = true then (some false) else ((laws_toHaveS.f k x0).bind fun t574 => ((laws_eqHaveS.f k x9 t574).bind fun t577 => (if t577 = true then ((laws_toSummary.f k x539000 x539001 x539002).bind fun bt578 => ((laws_eqSummary.f k x565000 x565001 x565002 bt578.1 bt578.2.1 bt578.2.2).bind fun t583 => (if t583 = true then ((laws_markHaveS.f k x9 1).bind fun bt584 => ((laws_markSummary.f k x565000 x565001 x565002 bt584.1).bind fun bt586 => (if bt586.1 < 0 then (laws_FnExactAskFor.j1 k x0 x6 x7 x8 x11 x12 true x539000 x539001 x539002) else ((laws_eqIntS.f k x11 x6).bind fun t588 => (if t588 = true then ((laws_eqHaveS.f k x12 x7).bind fun t589 => (if t589 = true then (laws_FnExactAskFor.j1 k x0 x6 x7 x8 x11 x12 (x13 != x8) x539000 x539001 x539002) else (laws_FnExactAskFor.j1 k x0 x6 x7 x8 x11 x12 true x539000 x539001 x539002))) else (laws_FnExactAskFor.j1 k x0 x6 x7 x8 x11 x12 true x539000 x539001 x539002)))))) else (some false)))) else (some false))))
def laws_FnExactAskFor.j1 : Nat → List (S106) → List Int → List (S104) → Bool → List Int → List (S104) → Bool → Int → Int → List (S106) → Option (Bool)
 | 0, _, _, _, _, _, _, _, _, _, _ => none
 | k + 1, x0, x6, x7, x8, x11, x12, x99, x539000, x539001, x539002 => if x99 = true then (some false) else ((laws_markIntS.f k x11 1).bind fun bt590 => ((laws_markHaveS.f k x12 bt590.1).bind fun bt592 => ((laws_heldIntS.f k bt590.2 1).bind fun t594 => (if t594 < 0 then (some false) else ((laws_heldHaveS.f k bt592.2 t594).bind fun t595 => (if t595 < 0 then (some false) else (if t595 = bt592.1 then ((laws_toHaveS.f k x0).bind fun t596 => ((laws_toSummary.f k x539000 x539001 x539002).bind fun bt599 => ((impl_AskFor.f k t596 bt599.1 bt599.2.1 bt599.2.2).bind fun bt604 => ((laws_eqIntS.f k bt604.1 x6).bind fun t611 => (if t611 = true then ((laws_eqHaveS.f k bt604.2.1 x7).bind fun t612 => (if t612 = true then (laws_FnExactAskFor.j2 k bt590.2 bt592.2 bt592.1 (bt604.2.2 != x8)) else (laws_FnExactAskFor.j2 k bt590.2 bt592.2 bt592.1 true))) else (laws_FnExactAskFor.j2 k bt590.2 bt592.2 bt592.1 true)))))) else (some false))))))))
def laws_FnExactAskFor.j2 : Nat → List Int → List (S104) → Int → Bool → Option (Bool)
 | 0, _, _, _, _ => none
 | k + 1, x11, x12, x15, x142 => if x142 = true then (some false) else ((laws_heldIntS.f k x11 1).bind fun t613 => (if t613 < 0 then (some false) else ((laws_heldHaveS.f k x12 t613).bind fun t614 => (if t614 < 0 then (some false) else (if t614 = x15 then (some true) else (some false))))))
end
def laws_FnExactAskFor.f (k : Nat) (l0 : List (S106)) (a1_0 : Int) (a1_1 : Int) (l1_2 : List (S106)) : Option (Bool) := (laws_szHaveS.f l0 1048576).bind fun t539 => (if t539 < 0 then (some true) else ((laws_szSummary.f a1_0 a1_1 l1_2 t539).bind fun t540 => (if t540 < 0 then (some true) else ((laws_toHaveS.f k l0).bind fun t541 => ((laws_toSummary.f k a1_0 a1_1 l1_2).bind fun bt544 => ((spec_AskFor.f k t541 bt544.1 bt544.2.1 bt544.2.2).bind fun bt549 => ((laws_toHaveS.f k l0).bind fun t556 => ((laws_toSummary.f k a1_0 a1_1 l1_2).bind fun bt559 => ((impl_AskFor.f k t556 bt559.1 bt559.2.1 bt559.2.2).bind fun bt565 => ((laws_eqIntS.f k bt565.1 bt549.1).bind fun t572 => (if t572 = true then ((laws_eqHaveS.f k bt565.2.1 bt549.2.1).bind fun t573 => (if t573 = true then (laws_FnExactAskFor.j0 k l0 bt549.1 bt549.2.1 bt549.2.2 t556 bt565.1 bt565.2.1 bt565.2.2 (bt565.2.2 != bt549.2.2) a1_0 a1_1 l1_2 bt559.1 bt559.2.1 bt559.2.2) else (laws_FnExactAskFor.j0 k l0 bt549.1 bt549.2.1 bt549.2.2 t556 bt565.1 bt565.2.1 bt565.2.2 true a1_0 a1_1 l1_2 bt559.1 bt559.2.1 bt559.2.2))) else (laws_FnExactAskFor.j0 k l0 bt549.1 bt549.2.1 bt549.2.2 t556 bt565.1 bt565.2.1 bt565.2.2 true a1_0 a1_1 l1_2 bt559.1 bt559.2.1 bt559.2.2))))))))))))
theorem laws_FnExactAskFor.mono_l : ∀ k, (∀ y0 y1 y2 y3 y4 y5 y6 y7 y8 y9 y10 y11 y12 y13 y14, LeO (laws_FnExactAskFor.j0 k y0 y1 y2 y3 y4 y5 y6 y7 y8 y9 y10 y11 y12 y13 y14) (laws_FnExactAskFor.j0 (k + 1) y0 y1 y2 y3 y4 y5 y6 y7 y8 y9 y10 y11 y12 y13 y14)) ∧ (∀ y0 y1 y2 y3 y4 y5 y6 y7 y8 y9, LeO (laws_FnExactAskFor.j1 k y0 y1 y2 y3 y4 y5 y6 y7 y8 y9) (laws_FnExactAskFor.j1 (k + 1) y0 y1 y2 y3 y4 y5 y6 y7 y8 y9)) ∧ (∀ y0 y1 y2 y3, LeO (laws_FnExactAskFor.j2 k y0 y1 y2 y3) (laws_FnExactAskFor.j2 (k + 1) y0 y1 y2 y3))
 | 0 => ⟨fun _ _ _ _ _ _ _ _ _ _ _ _ _ _ _ r h => by simp [laws_FnExactAskFor.j0] at h, fun _ _ _ _ _ _ _ _ _ _ r h => by simp [laws_FnExactAskFor.j1] at h, fun _ _ _ _ r h => by simp [laws_FnExactAskFor.j2] at h⟩
 | k + 1 => by
  obtain ⟨ih0, ih1, ih2⟩ := laws_FnExactAskFor.mono_l k
  refine ⟨?_, ?_, ?_⟩
  ·intro y0 y1 y2 y3 y4 y5 y6 y7 y8 y9 y10 y11 y12 y13 y14
   unfold laws_FnExactAskFor.j0
   repeat' first
   | (with_reducible exact ih0 _ _ _ _ _ _ _ _ _ _ _ _ _ _ _)
   | (with_reducible exact ih1 _ _ _ _ _ _ _ _ _ _)
   | (with_reducible exact ih2 _ _ _ _)
   | (with_reducible exact impl_AskFor.mono _ _ _ _ _)
   | (with_reducible exact laws_eqHaveS.mono _ _ _)
   | (with_reducible exact laws_eqIntS.mono _ _ _)
   | (with_reducible exact laws_eqSummary.mono _ _ _ _ _ _ _)
   | (with_reducible exact laws_heldHaveS.mono _ _ _)
   | (with_reducible exact laws_heldIntS.mono _ _ _)
   | (with_reducible exact laws_markHaveS.mono _ _ _)
   | (with_reducible exact laws_markIntS.mono _ _ _)
   | (with_reducible exact laws_markSummary.mono _ _ _ _ _)
   | (with_reducible exact laws_toHaveS.mono _ _)
   | (with_reducible exact laws_toSummary.mono _ _ _ _)
   | (with_reducible exact spec_AskFor.mono _ _ _ _ _)
   | (with_reducible exact LeO.refl _)
   | (with_reducible exact LeO.none _)
   | (with_reducible refine LeO.ite ?_ ?_)
   | (with_reducible refine LeO.bind ?_ (fun _ => ?_))
   | exact ih0 _ _ _ _ _ _ _ _ _ _ _ _ _ _ _
   | exact ih1 _ _ _ _ _ _ _ _ _ _
   | exact ih2 _ _ _ _
   | exact impl_AskFor.mono _ _ _ _ _
   | exact laws_eqHaveS.mono _ _ _
   | exact laws_eqIntS.mono _ _ _
   | exact laws_eqSummary.mono _ _ _ _ _ _ _
   | exact laws_heldHaveS.mono _ _ _
   | exact laws_heldIntS.mono _ _ _
   | exact laws_markHaveS.mono _ _ _
   | exact laws_markIntS.mono _ _ _
   | exact laws_markSummary.mono _ _ _ _ _
   | exact laws_toHaveS.mono _ _
   | exact laws_toSummary.mono _ _ _ _
   | exact spec_AskFor.mono _ _ _ _ _
   | exact LeO.none _
   | refine LeO.ite ?_ ?_
   | refine LeO.bind ?_ (fun _ => ?_)
  ·intro y0 y1 y2 y3 y4 y5 y6 y7 y8 y9
   unfold laws_FnExactAskFor.j1
   repeat' first
   | (with_reducible exact ih0 _ _ _ _ _ _ _ _ _ _ _ _ _ _ _)
   | (with_reducible exact ih1 _ _ _ _ _ _ _ _ _ _)
   | (with_reducible exact ih2 _ _ _ _)
   | (with_reducible exact impl_AskFor.mono _ _ _ _ _)
   | (with_reducible exact laws_eqHaveS.mono _ _ _)
   | (with_reducible exact laws_eqIntS.mono _ _ _)
   | (with_reducible exact laws_eqSummary.mono _ _ _ _ _ _ _)
   | (with_reducible exact laws_heldHaveS.mono _ _ _)
   | (with_reducible exact laws_heldIntS.mono _ _ _)
   | (with_reducible exact laws_markHaveS.mono _ _ _)
   | (with_reducible exact laws_markIntS.mono _ _ _)
   | (with_reducible exact laws_markSummary.mono _ _ _ _ _)
   | (with_reducible exact laws_toHaveS.mono _ _)
   | (with_reducible exact laws_toSummary.mono _ _ _ _)
   | (with_reducible exact spec_AskFor.mono _ _ _ _ _)
   | (with_reducible exact LeO.refl _)
   | (with_reducible exact LeO.none _)
   | (with_reducible refine LeO.ite ?_ ?_)
   | (with_reducible refine LeO.bind ?_ (fun _ => ?_))
   | exact ih0 _ _ _ _ _ _ _ _ _ _ _ _ _ _ _
   | exact ih1 _ _ _ _ _ _ _ _ _ _
   | exact ih2 _ _ _ _
   | exact impl_AskFor.mono _ _ _ _ _
   | exact laws_eqHaveS.mono _ _ _
   | exact laws_eqIntS.mono _ _ _
   | exact laws_eqSummary.mono _ _ _ _ _ _ _
   | exact laws_heldHaveS.mono _ _ _
   | exact laws_heldIntS.mono _ _ _
   | exact laws_markHaveS.mono _ _ _
   | exact laws_markIntS.mono _ _ _
   | exact laws_markSummary.mono _ _ _ _ _
   | exact laws_toHaveS.mono _ _
   | exact laws_toSummary.mono _ _ _ _
   | exact spec_AskFor.mono _ _ _ _ _
   | exact LeO.none _
   | refine LeO.ite ?_ ?_
   | refine LeO.bind ?_ (fun _ => ?_)
  ·intro y0 y1 y2 y3
   unfold laws_FnExactAskFor.j2
   repeat' first
   | (with_reducible exact ih0 _ _ _ _ _ _ _ _ _ _ _ _ _ _ _)
   | (with_reducible exact ih1 _ _ _ _ _ _ _ _ _ _)
   | (with_reducible exact ih2 _ _ _ _)
   | (with_reducible exact impl_AskFor.mono _ _ _ _ _)
   | (with_reducible exact laws_eqHaveS.mono _ _ _)
   | (with_reducible exact laws_eqIntS.mono _ _ _)
   | (with_reducible exact laws_eqSummary.mono _ _ _ _ _ _ _)
   | (with_reducible exact laws_heldHaveS.mono _ _ _)
   | (with_reducible exact laws_heldIntS.mono _ _ _)
   | (with_reducible exact laws_markHaveS.mono _ _ _)
   | (with_reducible exact laws_markIntS.mono _ _ _)
   | (with_reducible exact laws_markSummary.mono _ _ _ _ _)
   | (with_reducible exact laws_toHaveS.mono _ _)
   | (with_reducible exact laws_toSummary.mono _ _ _ _)
   | (with_reducible exact spec_AskFor.mono _ _ _ _ _)
   | (with_reducible exact LeO.refl _)
   | (with_reducible exact LeO.none _)
   | (with_reducible refine LeO.ite ?_ ?_)
   | (with_reducible refine LeO.bind ?_ (fun _ => ?_))
   | exact ih0 _ _ _ _ _ _ _ _ _ _ _ _ _ _ _
   | exact ih1 _ _ _ _ _ _ _ _ _ _
   | exact ih2 _ _ _ _
   | exact impl_AskFor.mono _ _ _ _ _
   | exact laws_eqHaveS.mono _ _ _
   | exact laws_eqIntS.mono _ _ _
   | exact laws_eqSummary.mono _ _ _ _ _ _ _
   | exact laws_heldHaveS.mono _ _ _
   | exact laws_heldIntS.mono _ _ _
   | exact laws_markHaveS.mono _ _ _
   | exact laws_markIntS.mono _ _ _
   | exact laws_markSummary.mono _ _ _ _ _
   | exact laws_toHaveS.mono _ _
   | exact laws_toSummary.mono _ _ _ _
   | exact spec_AskFor.mono _ _ _ _ _
   | exact LeO.none _
   | refine LeO.ite ?_ ?_
   | refine LeO.bind ?_ (fun _ => ?_)
theorem laws_FnExactAskFor.mono : ∀ a0 a1 a2 a3 k, LeO (laws_FnExactAskFor.f k a0 a1 a2 a3) (laws_FnExactAskFor.f (k + 1) a0 a1 a2 a3) := by
 intro a0 a1 a2 a3 k
 obtain ⟨ih0, ih1, ih2⟩ := laws_FnExactAskFor.mono_l k
 unfold laws_FnExactAskFor.f
 repeat' first
   | (with_reducible exact ih0 _ _ _ _ _ _ _ _ _ _ _ _ _ _ _)
   | (with_reducible exact ih1 _ _ _ _ _ _ _ _ _ _)
   | (with_reducible exact ih2 _ _ _ _)
   | (with_reducible exact impl_AskFor.mono _ _ _ _ _)
   | (with_reducible exact laws_eqHaveS.mono _ _ _)
   | (with_reducible exact laws_eqIntS.mono _ _ _)
   | (with_reducible exact laws_eqSummary.mono _ _ _ _ _ _ _)
   | (with_reducible exact laws_heldHaveS.mono _ _ _)
   | (with_reducible exact laws_heldIntS.mono _ _ _)
   | (with_reducible exact laws_markHaveS.mono _ _ _)
   | (with_reducible exact laws_markIntS.mono _ _ _)
   | (with_reducible exact laws_markSummary.mono _ _ _ _ _)
   | (with_reducible exact laws_toHaveS.mono _ _)
   | (with_reducible exact laws_toSummary.mono _ _ _ _)
   | (with_reducible exact spec_AskFor.mono _ _ _ _ _)
   | (with_reducible exact LeO.refl _)
   | (with_reducible exact LeO.none _)
   | (with_reducible refine LeO.ite ?_ ?_)
   | (with_reducible refine LeO.bind ?_ (fun _ => ?_))
   | exact ih0 _ _ _ _ _ _ _ _ _ _ _ _ _ _ _
   | exact ih1 _ _ _ _ _ _ _ _ _ _
   | exact ih2 _ _ _ _
   | exact impl_AskFor.mono _ _ _ _ _
   | exact laws_eqHaveS.mono _ _ _
   | exact laws_eqIntS.mono _ _ _
   | exact laws_eqSummary.mono _ _ _ _ _ _ _
   | exact laws_heldHaveS.mono _ _ _
   | exact laws_heldIntS.mono _ _ _
   | exact laws_markHaveS.mono _ _ _
   | exact laws_markIntS.mono _ _ _
   | exact laws_markSummary.mono _ _ _ _ _
   | exact laws_toHaveS.mono _ _
   | exact laws_toSummary.mono _ _ _ _
   | exact spec_AskFor.mono _ _ _ _ _
   | exact LeO.none _
   | refine LeO.ite ?_ ?_
   | refine LeO.bind ?_ (fun _ => ?_)
def laws_FnExactAskFor.T8 : Bool × List (List Nat × List Nat) := (true, [([], []), ([0], [0]), ([], []), ([2, 1], [2]), ([1, 3, 3], [1, 3]), ([4], [4]), ([5], [5]), ([5], [5]), ([5], [5]), ([6, 4, 0, 1, 2, 3, 4, 5, 6], [6]), ([7, 9, 0, 1, 2, 3, 4, 5, 6, 7, 9], [7]), ([8, 10, 0, 1, 2, 3, 4, 5, 6, 7, 8, 9, 10], [8])])
def laws_FnExactAskFor.B8 : List Nat := [0, 1, 0, 7, 15, 31, 63, 63, 63, 127, 767, 2047]
theorem laws_FnExactAskFor.tab8 : rtab .any (opsOf Try.f6 8) = laws_FnExactAskFor.T8 := by kernel_rfl
theorem laws_FnExactAskFor.bits8 : waitsOk laws_FnExactAskFor.T8.2 laws_FnExactAskFor.B8 = true := by kernel_rfl
def laws_FnExactAskFor.T35 : Bool × List (List Nat × List Nat) := (true, [([], []), ([0], [0]), ([], []), ([2, 1], [2]), ([1, 3, 3], [1, 3]), ([4], [4]), ([5], [5]), ([5], [5]), ([5], [5]), ([6, 4, 0, 1, 2, 3, 4, 5, 6], [6]), ([7, 9, 0, 1, 2, 3, 4, 5, 6, 7, 9], [7]), ([8, 10, 0, 1, 2, 3, 4, 5, 6, 7, 8, 9, 10], [8])])
def laws_FnExactAskFor.B35 : List Nat := [0, 1, 0, 7, 15, 31, 63, 63, 63, 127, 767, 2047]
theorem laws_FnExactAskFor.tab35 : rtab .any (opsOf Try.f6 35) = laws_FnExactAskFor.T35 := by kernel_rfl
theorem laws_FnExactAskFor.bits35 : waitsOk laws_FnExactAskFor.T35.2 laws_FnExactAskFor.B35 = true := by kernel_rfl
set_option maxHeartbeats 8000000 in
set_option maxRecDepth 100000 in
theorem laws_FnExactAskFor.calls (k : Nat) (A0 : Option Addr) (c0 : Nat) (l0 : List (S106)) (a1_0 : Int) (a1_1 : Int) (A1_2 : Option Addr) (c1_2 : Nat) (l1_2 : List (S106)) (r : Bool) (w : World) (hr0 : Kd.C k106 w A0 l0.length l0) (hc0 : l0.length ≤ c0) (hr1_2 : Kd.C k106 w A1_2 l1_2.length l1_2) (hc1_2 : l1_2.length ≤ c1_2) (h : laws_FnExactAskFor.f k l0 a1_0 a1_1 l1_2 = some r) :
  Calls Try.prog 6 #[.slice A0 l0.length c0, .agg #[.int .i64 a1_0, .int .i64 a1_1, .slice A1_2 l1_2.length c1_2]] w fun e w' => e = .returned (.bool r) ∧ Below w.heap.size w w' := by
 have hu42 := Try.underlying42
 have hu50 := Try.underlying50
 have HR0 := Aside0.mk hr0
 have HC0 := Aside0.mk hc0
 clear hr0 hc0
 have HR1_2 := Aside0.mk hr1_2
 have HC1_2 := Aside0.mk hc1_2
 clear hr1_2 hc1_2
 have HB := Aside0.mk (Below.refl w.heap.size w)
 have H : ((laws_szHaveS.f l0 1048576).bind fun t539 => (if t539 < 0 then (some true) else ((laws_szSummary.f a1_0 a1_1 l1_2 t539).bind fun t540 => (if t540 < 0 then (some true) else ((laws_toHaveS.f k l0).bind fun t541 => ((laws_toSummary.f k a1_0 a1_1 l1_2).bind fun bt544 => ((spec_AskFor.f k t541 bt544.1 bt544.2.1 bt544.2.2).bind fun bt549 => ((laws_toHaveS.f k l0).bind fun t556 => ((laws_toSummary.f k a1_0 a1_1 l1_2).bind fun bt559 => ((impl_AskFor.f k t556 bt559.1 bt559.2.1 bt559.2.2).bind fun bt565 => ((laws_eqIntS.f k bt565.1 bt549.1).bind fun t572 => (if t572 = true then ((laws_eqHaveS.f k bt565.2.1 bt549.2.1).bind fun t573 => (if t573 = true then (laws_FnExactAskFor.j0 k l0 bt549.1 bt549.2.1 bt549.2.2 t556 bt565.1 bt565.2.1 bt565.2.2 (bt565.2.2 != bt549.2.2) a1_0 a1_1 l1_2 bt559.1 bt559.2.1 bt559.2.2) else (laws_FnExactAskFor.j0 k l0 bt549.1 bt549.2.1 bt549.2.2 t556 bt565.1 bt565.2.1 bt565.2.2 true a1_0 a1_1 l1_2 bt559.1 bt559.2.1 bt559.2.2))) else (laws_FnExactAskFor.j0 k l0 bt549.1 bt549.2.1 bt549.2.2 t556 bt565.1 bt565.2.1 bt565.2.2 true a1_0 a1_1 l1_2 bt559.1 bt559.2.1 bt559.2.2))))))))))))) = some r := h
 clear h
 replace H := Option.bind_eq_some_iff.mp H
 obtain ⟨t539, A30, H⟩ := H
 replace H : (if t539 < 0 then (some true) else ((laws_szSummary.f a1_0 a1_1 l1_2 t539).bind fun t540 => (if t540 < 0 then (some true) else ((laws_toHaveS.f k l0).bind fun t541 => ((laws_toSummary.f k a1_0 a1_1 l1_2).bind fun bt544 => ((spec_AskFor.f k t541 bt544.1 bt544.2.1 bt544.2.2).bind fun bt549 => ((laws_toHaveS.f k l0).bind fun t556 => ((laws_toSummary.f k a1_0 a1_1 l1_2).bind fun bt559 => ((impl_AskFor.f k t556 bt559.1 bt559.2.1 bt559.2.2).bind fun bt565 => ((laws_eqIntS.f k bt565.1 bt549.1).bind fun t572 => (if t572 = true then ((laws_eqHaveS.f k bt565.2.1 bt549.2.1).bind fun t573 => (if t573 = true then (laws_FnExactAskFor.j0 k l0 bt549.1 bt549.2.1 bt549.2.2 t556 bt565.1 bt565.2.1 bt565.2.2 (bt565.2.2 != bt549.2.2) a1_0 a1_1 l1_2 bt559.1 bt559.2.1 bt559.2.2) else (laws_FnExactAskFor.j0 k l0 bt549.1 bt549.2.1 bt549.2.2 t556 bt565.1 bt565.2.1 bt565.2.2 true a1_0 a1_1 l1_2 bt559.1 bt559.2.1 bt559.2.2))) else (laws_FnExactAskFor.j0 k l0 bt549.1 bt549.2.1 bt549.2.2 t556 bt565.1 bt565.2.1 bt565.2.2 true a1_0 a1_1 l1_2 bt559.1 bt559.2.1 bt559.2.2)))))))))))) = some r := H
 have A3 := Aside0.mk A30
 clear A30
 by_cases c4 : t539 < 0
 ·rw [if_pos c4] at H
  have c4b0 : decide (t539 < 0) = true := decide_eq_true c4
  clear c4
  obtain rfl := Option.some.inj H
  go_enter Try.func6, Try.ntmps6
  go_wp2_with (first | ((with_reducible refine gate_dst (N := 3) rfl ?_); refine box_event ?hg (N := 3) ?hd (cs := #[.int .i64 a1_0, .int .i64 a1_1, .slice A1_2 l1_2.length c1_2]) (t := 42) ?hr ?_; (case hd => rfl); (case hg => rfl); (case hr => first | (go_simp; done) | (go_simp; rfl)); intro gb538 hg w5 hbox hb; have n0_ := Aside0.mk (below_step (by repeat (first | (with_reducible first | exact HB.out | apply below_alloc | apply pw_below_drewN | apply below_drew1) | exact HB.out)) hb); have n1_ := Aside0.mk (hbox); have n2_ := Aside0.mk ((by rw [hg]; exact (below_size (by repeat (first | (with_reducible first | exact HB.out | apply below_alloc | apply pw_below_drewN | apply below_drew1) | exact HB.out))) : w.heap.size ≤ gb538)); have n3_ := Aside0.mk ((by rw [hg]; exact (below_size (by repeat (first | (with_reducible first | exact HB.out | apply below_alloc | apply pw_below_drewN | apply below_drew1) | exact HB.out))) : w.heap.size ≤ gb538)); clear HB; have HB := n0_; have BK538 := n1_; have GW538 := n2_; have GE538 := n3_; clear n0_ n1_ n2_ n3_; clear hb hbox hg) | ((with_reducible refine gate_callee (f := 30) rfl ?_); refine goesL_ (some 22) rfl rfl Try.func30 (by kernel_rfl) rfl #[.slice A0 l0.length c0, .int .i64 1048576] rfl (by (try simp only [List.map_toArray, List.map_cons, List.map_nil]); first | done | rfl | (simp only [List.length_drop, List.length_take]; rfl)) ?_; (with_reducible refine (laws_szHaveS.calls _ _ l0 1048576 t539 _ ?side1 ?side2 A3.out).mono ?_); (case side1 => repeat (first | exact (Kd.C_below HR0.out HB.out) | (with_reducible refine Kd.C_alloc ?_ _) | (with_reducible refine Kd.C_drewN ?_ _) | (with_reducible refine Kd.C_drew ?_))); (case side2 => exact HC0.out); rintro e w' ⟨rfl, ⟨nd, rfl⟩⟩; refine ⟨_, rfl, ?_⟩))
  go_ret
  exact ⟨by first | rfl | (simp [errW_none, errW_some] <;> rfl) | (simp [*, errW_none, errW_some] <;> rfl), by repeat (first | (with_reducible first | exact HB.out | apply below_alloc | apply pw_below_drewN | apply below_drew1 | refine below_set ?_ GE538.out) | exact HB.out)⟩
 ·rw [if_neg c4] at H
  have c4b0 : decide (t539 < 0) = false := decide_eq_false c4
  clear c4
  replace H := Option.bind_eq_some_iff.mp H
  obtain ⟨t540, A60, H⟩ := H
  replace H : (if t540 < 0 then (some true) else ((laws_toHaveS.f k l0).bind fun t541 => ((laws_toSummary.f k a1_0 a1_1 l1_2).bind fun bt544 => ((spec_AskFor.f k t541 bt544.1 bt544.2.1 bt544.2.2).bind fun bt549 => ((laws_toHaveS.f k l0).bind fun t556 => ((laws_toSummary.f k a1_0 a1_1 l1_2).bind fun bt559 => ((impl_AskFor.f k t556 bt559.1 bt559.2.1 bt559.2.2).bind fun bt565 => ((laws_eqIntS.f k bt565.1 bt549.1).bind fun t572 => (if t572 = true then ((laws_eqHaveS.f k bt565.2.1 bt549.2.1).bind fun t573 => (if t573 = true then (laws_FnExactAskFor.j0 k l0 bt549.1 bt549.2.1 bt549.2.2 t556 bt565.1 bt565.2.1 bt565.2.2 (bt565.2.2 != bt549.2.2) a1_0 a1_1 l1_2 bt559.1 bt559.2.1 bt559.2.2) else (laws_FnExactAskFor.j0 k l0 bt549.1 bt549.2.1 bt549.2.2 t556 bt565.1 bt565.2.1 bt565.2.2 true a1_0 a1_1 l1_2 bt559.1 bt559.2.1 bt559.2.2))) else (laws_FnExactAskFor.j0 k l0 bt549.1 bt549.2.1 bt549.2.2 t556 bt565.1 bt565.2.1 bt565.2.2 true a1_0 a1_1 l1_2 bt559.1 bt559.2.1 bt559.2.2)))))))))) = some r := H
  have A6 := Aside0.mk A60
  clear A60
  by_cases c7 : t540 < 0
  ·rw [if_pos c7] at H
   have c7b0 : decide (t540 < 0) = true := decide_eq_true c7
   clear c7
   obtain rfl := Option.some.inj H
   go_enter Try.func6, Try.ntmps6
   go_wp2_with (first | ((with_reducible refine gate_dst (N := 3) rfl ?_); refine box_event ?hg (N := 3) ?hd (cs := #[.int .i64 a1_0, .int .i64 a1_1, .slice A1_2 l1_2.length c1_2]) (t := 42) ?hr ?_; (case hd => rfl); (case hg => rfl); (case hr => first | (go_simp; done) | (go_simp; rfl)); intro gb538 hg w8 hbox hb; have n0_ := Aside0.mk (below_step (by repeat (first | (with_reducible first | exact HB.out | apply below_alloc | apply pw_below_drewN | apply below_drew1) | exact HB.out)) hb); have n1_ := Aside0.mk (hbox); have n2_ := Aside0.mk ((by rw [hg]; exact (below_size (by repeat (first | (with_reducible first | exact HB.out | apply below_alloc | apply pw_below_drewN | apply below_drew1) | exact HB.out))) : w.heap.size ≤ gb538)); have n3_ := Aside0.mk ((by rw [hg]; exact (below_size (by repeat (first | (with_reducible first | exact HB.out | apply below_alloc | apply pw_below_drewN | apply below_drew1) | exact HB.out))) : w.heap.size ≤ gb538)); clear HB; have HB := n0_; have BK538 := n1_; have GW538 := n2_; have GE538 := n3_; clear n0_ n1_ n2_ n3_; clear hb hbox hg) | ((with_reducible refine gate_callee (f := 30) rfl ?_); refine goesL_ (some 22) rfl rfl Try.func30 (by kernel_rfl) rfl #[.slice A0 l0.length c0, .int .i64 1048576] rfl (by (try simp only [List.map_toArray, List.map_cons, List.map_nil]); first | done | rfl | (simp only [List.length_drop, List.length_take]; rfl)) ?_; (with_reducible refine (laws_szHaveS.calls _ _ l0 1048576 t539 _ ?side1 ?side2 A3.out).mono ?_); (case side1 => repeat (first | exact (Kd.C_below HR0.out HB.out) | (with_reducible refine Kd.C_alloc ?_ _) | (with_reducible refine Kd.C_drewN ?_ _) | (with_reducible refine Kd.C_drew ?_))); (case side2 => exact HC0.out); rintro e w' ⟨rfl, ⟨nd, rfl⟩⟩; refine ⟨_, rfl, ?_⟩; have hcz9_0 : w8.cell? ⟨gb538, 0, none⟩ = some (.int .i64 a1_0) := (blk_cell BK538.out 0).trans rfl; have hcz9_1 : w8.cell? ⟨gb538, 1, none⟩ = some (.int .i64 a1_1) := (blk_cell BK538.out 1).trans rfl; have hcz9_2 : w8.cell? ⟨gb538, 2, none⟩ = some (.slice A1_2 l1_2.length c1_2) := (blk_cell BK538.out 2).trans rfl; have hfz9_0 := blk_frozen BK538.out 0; have hfz9_1 := blk_frozen BK538.out 1; have hfz9_2 := blk_frozen BK538.out 2) | ((with_reducible refine gate_callee (f := 31) rfl ?_); refine goesL_ (some 27) rfl rfl Try.func31 (by kernel_rfl) rfl #[.agg #[.int .i64 a1_0, .int .i64 a1_1, .slice A1_2 l1_2.length c1_2], .int .i64 t539] rfl (by (try simp only [List.map_toArray, List.map_cons, List.map_nil]); first | done | rfl | (simp only [List.length_drop, List.length_take]; rfl)) ?_; (with_reducible refine (laws_szSummary.calls a1_0 a1_1 _ _ l1_2 t539 t540 _ ?side1 ?side2 A6.out).mono ?_); (case side1 => repeat (first | exact (Kd.C_below HR1_2.out (by repeat (first | (with_reducible first | exact HB.out | apply below_alloc | apply pw_below_drewN | apply below_drew1 | refine below_set ?_ GE538.out) | exact HB.out))) | (with_reducible refine Kd.C_alloc ?_ _) | (with_reducible refine Kd.C_drewN ?_ _) | (with_reducible refine Kd.C_drew ?_))); (case side2 => exact HC1_2.out); rintro e w10 ⟨rfl, hb⟩; refine ⟨_, rfl, ?_⟩; have n0_ := Aside0.mk (blk_below (g := gb538) (o := .cells #[.int .i64 a1_0, .int .i64 a1_1, .slice A1_2 l1_2.length c1_2] 42 (0, 0)) (by (with_reducible repeat (first | refine blk_drewN ?_ _ | refine blk_drew ?_ | refine blk_alloc ?_ _)); exact BK538.out) hb); have n1_ := Aside0.mk (below_step (by repeat (first | (with_reducible first | exact HB.out | apply below_alloc | apply pw_below_drewN | apply below_drew1 | refine below_set ?_ GE538.out) | exact HB.out)) hb); clear BK538; clear HB; have BK538 := n0_; have HB := n1_; clear n0_ n1_; (try clear hb); (try clear hb2); (try clear hk); (try clear hi)))
   go_ret
   exact ⟨by first | rfl | (simp [errW_none, errW_some] <;> rfl) | (simp [*, errW_none, errW_some] <;> rfl), by repeat (first | (with_reducible first | exact HB.out | apply below_alloc | apply pw_below_drewN | apply below_drew1 | refine below_set ?_ GE538.out) | exact HB.out)⟩
  ·rw [if_neg c7] at H
   have c7b0 : decide (t540 < 0) = false := decide_eq_false c7
   clear c7
   replace H := Option.bind_eq_some_iff.mp H
   obtain ⟨t541, A110, H⟩ := H
   replace H : ((laws_toSummary.f k a1_0 a1_1 l1_2).bind fun bt544 => ((spec_AskFor.f k t541 bt544.1 bt544.2.1 bt544.2.2).bind fun bt549 => ((laws_toHaveS.f k l0).bind fun t556 => ((laws_toSummary.f k a1_0 a1_1 l1_2).bind fun bt559 => ((impl_AskFor.f k t556 bt559.1 bt559.2.1 bt559.2.2).bind fun bt565 => ((laws_eqIntS.f k bt565.1 bt549.1).bind fun t572 => (if t572 = true then ((laws_eqHaveS.f k bt565.2.1 bt549.2.1).bind fun t573 => (if t573 = true then (laws_FnExactAskFor.j0 k l0 bt549.1 bt549.2.1 bt549.2.2 t556 bt565.1 bt565.2.1 bt565.2.2 (bt565.2.2 != bt549.2.2) a1_0 a1_1 l1_2 bt559.1 bt559.2.1 bt559.2.2) else (laws_FnExactAskFor.j0 k l0 bt549.1 bt549.2.1 bt549.2.2 t556 bt565.1 bt565.2.1 bt565.2.2 true a1_0 a1_1 l1_2 bt559.1 bt559.2.1 bt559.2.2))) else (laws_FnExactAskFor.j0 k l0 bt549.1 bt549.2.1 bt549.2.2 t556 bt565.1 bt565.2.1 bt565.2.2 true a1_0 a1_1 l1_2 bt559.1 bt559.2.1 bt559.2.2)))))))) = some r := H
   have A11 := Aside0.mk A110
   clear A110
   replace H := Option.bind_eq_some_iff.mp H
   obtain ⟨⟨t544, t545, t546⟩, A120, H⟩ := H
   replace H : ((spec_AskFor.f k t541 t544 t545 t546).bind fun bt549 => ((laws_toHaveS.f k l0).bind fun t556 => ((laws_toSummary.f k a1_0 a1_1 l1_2).bind fun bt559 => ((impl_AskFor.f k t556 bt559.1 bt559.2.1 bt559.2.2).bind fun bt565 => ((laws_eqIntS.f k bt565.1 bt549.1).bind fun t572 => (if t572 = true then ((laws_eqHaveS.f k bt565.2.1 bt549.2.1).bind fun t573 => (if t573 = true then (laws_FnExactAskFor.j0 k l0 bt549.1 bt549.2.1 bt549.2.2 t556 bt565.1 bt565.2.1 bt565.2.2 (bt565.2.2 != bt549.2.2) a1_0 a1_1 l1_2 bt559.1 bt559.2.1 bt559.2.2) else (laws_FnExactAskFor.j0 k l0 bt549.1 bt549.2.1 bt549.2.2 t556 bt565.1 bt565.2.1 bt565.2.2 true a1_0 a1_1 l1_2 bt559.1 bt559.2.1 bt559.2.2))) else (laws_FnExactAskFor.j0 k l0 bt549.1 bt549.2.1 bt549.2.2 t556 bt565.1 bt565.2.1 bt565.2.2 true a1_0 a1_1 l1_2 bt559.1 bt559.2.1 bt559.2.2))))))) = some r := H
   have A12 := Aside0.mk A120
   clear A120
   replace H := Option.bind_eq_some_iff.mp H
   obtain ⟨⟨t549, t552, t555⟩, A130, H⟩ := H
   replace H : ((laws_toHaveS.f k l0).bind fun t556 => ((laws_toSummary.f k a1_0 a1_1 l1_2).bind fun bt559 => ((impl_AskFor.f k t556 bt559.1 bt559.2.1 bt559.2.2).bind fun bt565 => ((laws_eqIntS.f k bt565.1 t549).bind fun t572 => (if t572 = true then ((laws_eqHaveS.f k bt565.2.1 t552).bind fun t573 => (if t573 = true then (laws_FnExactAskFor.j0 k l0 t549 t552 t555 t556 bt565.1 bt565.2.1 bt565.2.2 (bt565.2.2 != t555) a1_0 a1_1 l1_2 bt559.1 bt559.2.1 bt559.2.2) else (laws_FnExactAskFor.j0 k l0 t549 t552 t555 t556 bt565.1 bt565.2.1 bt565.2.2 true a1_0 a1_1 l1_2 bt559.1 bt559.2.1 bt559.2.2))) else (laws_FnExactAskFor.j0 k l0 t549 t552 t555 t556 bt565.1 bt565.2.1 bt565.2.2 true a1_0 a1_1 l1_2 bt559.1 bt559.2.1 bt559.2.2)))))) = some r := H
   have A13 := Aside0.mk A130
   clear A130
   replace H := Option.bind_eq_some_iff.mp H
   obtain ⟨t556, A140, H⟩ := H
   replace H : ((laws_toSummary.f k a1_0 a1_1 l1_2).bind fun bt559 => ((impl_AskFor.f k t556 bt559.1 bt559.2.1 bt559.2.2).bind fun bt565 => ((laws_eqIntS.f k bt565.1 t549).bind fun t572 => (if t572 = true then ((laws_eqHaveS.f k bt565.2.1 t552).bind fun t573 => (if t573 = true then (laws_FnExactAskFor.j0 k l0 t549 t552 t555 t556 bt565.1 bt565.2.1 bt565.2.2 (bt565.2.2 != t555) a1_0 a1_1 l1_2 bt559.1 bt559.2.1 bt559.2.2) else (laws_FnExactAskFor.j0 k l0 t549 t552 t555 t556 bt565.1 bt565.2.1 bt565.2.2 true a1_0 a1_1 l1_2 bt559.1 bt559.2.1 bt559.2.2))) else (laws_FnExactAskFor.j0 k l0 t549 t552 t555 t556 bt565.1 bt565.2.1 bt565.2.2 true a1_0 a1_1 l1_2 bt559.1 bt559.2.1 bt559.2.2))))) = some r := H
   have A14 := Aside0.mk A140
   clear A140
   replace H := Option.bind_eq_some_iff.mp H
   obtain ⟨⟨t559, t560, t561⟩, A150, H⟩ := H
   replace H : ((impl_AskFor.f k t556 t559 t560 t561).bind fun bt565 => ((laws_eqIntS.f k bt565.1 t549).bind fun t572 => (if t572 = true then ((laws_eqHaveS.f k bt565.2.1 t552).bind fun t573 => (if t573 = true then (laws_FnExactAskFor.j0 k l0 t549 t552 t555 t556 bt565.1 bt565.2.1 bt565.2.2 (bt565.2.2 != t555) a1_0 a1_1 l1_2 t559 t560 t561) else (laws_FnExactAskFor.j0 k l0 t549 t552 t555 t556 bt565.1 bt565.2.1 bt565.2.2 true a1_0 a1_1 l1_2 t559 t560 t561))) else (laws_FnExactAskFor.j0 k l0 t549 t552 t555 t556 bt565.1 bt565.2.1 bt565.2.2 true a1_0 a1_1 l1_2 t559 t560 t561)))) = some r := H
   have A15 := Aside0.mk A150
   clear A150
   replace H := Option.bind_eq_some_iff.mp H
   obtain ⟨⟨t565, t568, t571⟩, A160, H⟩ := H
   replace H : ((laws_eqIntS.f k t565 t549).bind fun t572 => (if t572 = true then ((laws_eqHaveS.f k t568 t552).bind fun t573 => (if t573 = true then (laws_FnExactAskFor.j0 k l0 t549 t552 t555 t556 t565 t568 t571 (t571 != t555) a1_0 a1_1 l1_2 t559 t560 t561) else (laws_FnExactAskFor.j0 k l0 t549 t552 t555 t556 t565 t568 t571 true a1_0 a1_1 l1_2 t559 t560 t561))) else (laws_FnExactAskFor.j0 k l0 t549 t552 t555 t556 t565 t568 t571 true a1_0 a1_1 l1_2 t559 t560 t561))) = some r := H
   have A16 := Aside0.mk A160
   clear A160
   have HC17 := Aside0.mk H
   clear H
   go_enter Try.func6, Try.ntmps6
   try go_wp2_with (first | ((with_reducible refine gate_dst (N := 3) rfl ?_); refine box_event ?hg (N := 3) ?hd (cs := #[.int .i64 a1_0, .int .i64 a1_1, .slice A1_2 l1_2.length c1_2]) (t := 42) ?hr ?_; (case hd => rfl); (case hg => rfl); (case hr => first | (go_simp; done) | (go_simp; rfl)); intro gb538 hg w18 hbox hb; have n0_ := Aside0.mk (below_step (by repeat (first | (with_reducible first | exact HB.out | apply below_alloc | apply pw_below_drewN | apply below_drew1) | exact HB.out)) hb); have n1_ := Aside0.mk (hbox); have n2_ := Aside0.mk ((by rw [hg]; exact (below_size (by repeat (first | (with_reducible first | exact HB.out | apply below_alloc | apply pw_below_drewN | apply below_drew1) | exact HB.out))) : w.heap.size ≤ gb538)); have n3_ := Aside0.mk ((by rw [hg]; exact (below_size (by repeat (first | (with_reducible first | exact HB.out | apply below_alloc | apply pw_below_drewN | apply below_drew1) | exact HB.out))) : w.heap.size ≤ gb538)); clear HB; have HB := n0_; have BK538 := n1_; have GW538 := n2_; have GE538 := n3_; clear n0_ n1_ n2_ n3_; clear hb hbox hg) | ((with_reducible refine gate_callee (f := 30) rfl ?_); refine goesL_ (some 22) rfl rfl Try.func30 (by kernel_rfl) rfl #[.slice A0 l0.length c0, .int .i64 1048576] rfl (by (try simp only [List.map_toArray, List.map_cons, List.map_nil]); first | done | rfl | (simp only [List.length_drop, List.length_take]; rfl)) ?_; (with_reducible refine (laws_szHaveS.calls _ _ l0 1048576 t539 _ ?side1 ?side2 A3.out).mono ?_); (case side1 => repeat (first | exact (Kd.C_below HR0.out HB.out) | (with_reducible refine Kd.C_alloc ?_ _) | (with_reducible refine Kd.C_drewN ?_ _) | (with_reducible refine Kd.C_drew ?_))); (case side2 => exact HC0.out); rintro e w' ⟨rfl, ⟨nd, rfl⟩⟩; refine ⟨_, rfl, ?_⟩; (try (rw [drewN_self w18]; generalize hq_ : World.drewN w18 _ = w18; have n0_ : Aside0 (w18.heap[gb538]? = some (.cells #[.int .i64 a1_0, .int .i64 a1_1, .slice A1_2 l1_2.length c1_2] 42 (0, 0))) := ⟨by rw [← hq_]; exact (by (with_reducible repeat (first | refine blk_drewN ?_ _ | refine blk_drew ?_ | refine blk_alloc ?_ _)); exact BK538.out)⟩; have n1_ : Aside0 (Below w.heap.size w w18) := ⟨by rw [← hq_]; exact (by repeat (first | (with_reducible first | exact HB.out | apply below_alloc | apply pw_below_drewN | apply below_drew1 | refine below_set ?_ GE538.out) | exact HB.out))⟩; clear BK538 HB hq_; have BK538 := n0_; have HB := n1_; clear n0_ n1_)); have hcz19_0 : w18.cell? ⟨gb538, 0, none⟩ = some (.int .i64 a1_0) := (blk_cell BK538.out 0).trans rfl; have hcz19_1 : w18.cell? ⟨gb538, 1, none⟩ = some (.int .i64 a1_1) := (blk_cell BK538.out 1).trans rfl; have hcz19_2 : w18.cell? ⟨gb538, 2, none⟩ = some (.slice A1_2 l1_2.length c1_2) := (blk_cell BK538.out 2).trans rfl; have hfz19_0 := blk_frozen BK538.out 0; have hfz19_1 := blk_frozen BK538.out 1; have hfz19_2 := blk_frozen BK538.out 2) | ((with_reducible refine gate_callee (f := 31) rfl ?_); refine goesL_ (some 27) rfl rfl Try.func31 (by kernel_rfl) rfl #[.agg #[.int .i64 a1_0, .int .i64 a1_1, .slice A1_2 l1_2.length c1_2], .int .i64 t539] rfl (by (try simp only [List.map_toArray, List.map_cons, List.map_nil]); first | done | rfl | (simp only [List.length_drop, List.length_take]; rfl)) ?_; (with_reducible refine (laws_szSummary.calls a1_0 a1_1 _ _ l1_2 t539 t540 _ ?side1 ?side2 A6.out).mono ?_); (case side1 => repeat (first | exact (Kd.C_below HR1_2.out HB.out) | (with_reducible refine Kd.C_alloc ?_ _) | (with_reducible refine Kd.C_drewN ?_ _) | (with_reducible refine Kd.C_drew ?_))); (case side2 => exact HC1_2.out); rintro e w20 ⟨rfl, hb⟩; refine ⟨_, rfl, ?_⟩; have n0_ := Aside0.mk (blk_below (g := gb538) (o := .cells #[.int .i64 a1_0, .int .i64 a1_1, .slice A1_2 l1_2.length c1_2] 42 (0, 0)) (by (with_reducible repeat (first | refine blk_drewN ?_ _ | refine blk_drew ?_ | refine blk_alloc ?_ _)); exact BK538.out) hb); have n1_ := Aside0.mk (below_step (by repeat (first | (with_reducible first | exact HB.out | apply below_alloc | apply pw_below_drewN | apply below_drew1 | refine below_set ?_ GE538.out) | exact HB.out)) hb); clear BK538; clear HB; have BK538 := n0_; have HB := n1_; clear n0_ n1_; (try clear hb); (try clear hb2); (try clear hk); (try clear hi)))
   have n0_ := Aside0.mk (blk_drew BK538.out)
   have n1_ := Aside0.mk (below_drew1 HB.out)
   clear BK538
   clear HB
   have BK538 := n0_
   have HB := n1_
   clear n0_ n1_
   refine start_ (n := 12) (S := fun w' => w'.cell? ⟨gb538, 0, none⟩ = some (.int .i64 a1_0) ∧ w'.cell? ⟨gb538, 1, none⟩ = some (.int .i64 a1_1) ∧ w'.cell? ⟨gb538, 2, none⟩ = some (.slice A1_2 l1_2.length c1_2)) (ds := []) #[false, false, false, false, false, false, false, false, false, false, false, false] (by kernel_rfl) rfl rfl ⟨(blk_cell BK538.out 0).trans rfl, (blk_cell BK538.out 1).trans rfl, (blk_cell BK538.out 2).trans rfl⟩ (fun hHeld => ?_); refine with_tabW laws_FnExactAskFor.tab8 laws_FnExactAskFor.bits8 (fun HT_ HW_ => ?_)
   generalize w20.drew = w21 at BK538 HB hHeld ⊢
   refine pure_ (i := 0) (N := some 31) (v := ?_) (a' := ?_) #[true, false, false, false, false, false, false, false, false, false, false, false] rfl rfl (any_of HT_.out (by kernel_rfl)) (fun _ _ _ h => h) (Or.inl ⟨by rfl, ?_⟩) ?_ ?_
   rotate_left
   ·intro w'
    go_simp
    with_reducible rfl
   rotate_left
   ·simp only [Act.put, List.setIfInBounds_toArray, List.set_cons_zero, List.set_cons_succ, i64_w, i32_w]
    rfl
   refine take_ (i := 2) (N := some 33) (v := ?_) (a' := ?_) #[true, false, true, false, false, false, false, false, false, false, false, false] rfl rfl (take_ofW HT_.out HW_.out (by kernel_rfl)) (fun _ _ _ h => h) (Or.inl ⟨by rfl, ?_⟩) hHeld ?_ ?_
   rotate_left
   ·rintro w' ⟨s0, s1, s2⟩
    go_simp
    with_reducible rfl
   rotate_left
   ·simp only [Act.put, List.setIfInBounds_toArray, List.set_cons_zero, List.set_cons_succ, i64_w, i32_w]
    rfl
   refine one_ (i := 1) (N := some 32) #[true, true, true, false, false, false, false, false, false, false, false, false] rfl rfl (one_of HT_.out (by kernel_rfl)) (by decide) (fun K hK => ?_)
   refine goes_ Try.func33 (by kernel_rfl) rfl #[.slice A0 l0.length c0] (by rfl) rfl rfl (by (try simp only [List.map_toArray, List.map_cons, List.map_nil]); first | done | rfl | (simp only [List.length_drop, List.length_take]; rfl)) ?_
   with_reducible refine (laws_toHaveS.calls k _ _ l0 t541 _ ?side1 ?side2 A11.out).mono ?_
   (case side1 => repeat (first | exact (Kd.C_below HR0.out HB.out) | (with_reducible refine Kd.C_alloc ?_ _) | (with_reducible refine Kd.C_drewN ?_ _) | (with_reducible refine Kd.C_drew ?_)))
   (case side2 => exact HC0.out)
   rintro e w22 ⟨v542, rfl, ho0, hb⟩
   refine ⟨_, rfl, ?_⟩
   have n0_ := Aside0.mk (Kd.R_lower ho0 (below_size (by repeat (first | (with_reducible first | exact HB.out | apply below_alloc | apply pw_below_drewN | apply below_drew1 | refine below_set ?_ GE538.out) | exact HB.out))))
   have n1_ := Aside0.mk (blk_below (g := gb538) (o := .cells #[.int .i64 a1_0, .int .i64 a1_1, .slice A1_2 l1_2.length c1_2] 42 (0, 0)) (by (with_reducible repeat (first | refine blk_drewN ?_ _ | refine blk_drew ?_ | refine blk_alloc ?_ _)); exact BK538.out) hb)
   have n2_ := Aside0.mk (below_step (by repeat (first | (with_reducible first | exact HB.out | apply below_alloc | apply pw_below_drewN | apply below_drew1 | refine below_set ?_ GE538.out) | exact HB.out)) hb)
   clear BK538
   clear HB
   have HO543 := n0_
   have BK538 := n1_
   have HB := n2_
   clear n0_ n1_ n2_
   (try clear hb)
   (try clear hb2)
   (try clear hk)
   (try clear hi)
   (try clear ho0)
   refine hK.out _ _ ⟨(blk_cell BK538.out 0).trans rfl, (blk_cell BK538.out 1).trans rfl, (blk_cell BK538.out 2).trans rfl⟩ (fun hHeld => ?_)
   clear hK K
   refine norm_ (a' := ?_) ?_ ?_
   rotate_left
   ·show Act.put _ (some 32) _ = _
    simp only [Act.put, List.setIfInBounds_toArray, List.set_cons_zero, List.set_cons_succ, i64_w, i32_w]
    rfl
   refine one_ (i := 3) (N := some 34) #[true, true, true, true, false, false, false, false, false, false, false, false] rfl rfl (one_of HT_.out (by kernel_rfl)) (by decide) (fun K hK => ?_)
   refine goes_ Try.func34 (by kernel_rfl) rfl #[.agg #[.int .i64 a1_0, .int .i64 a1_1, .slice A1_2 l1_2.length c1_2]] (by rfl) rfl rfl (by (try simp only [List.map_toArray, List.map_cons, List.map_nil]); first | done | rfl | (simp only [List.length_drop, List.length_take]; rfl)) ?_
   with_reducible refine (laws_toSummary.calls k a1_0 a1_1 _ _ l1_2 t544 t545 t546 _ ?side1 ?side2 A12.out).mono ?_
   (case side1 => repeat (first | exact (Kd.C_below HR1_2.out HB.out) | (with_reducible refine Kd.C_alloc ?_ _) | (with_reducible refine Kd.C_drewN ?_ _) | (with_reducible refine Kd.C_drew ?_)))
   (case side2 => exact HC1_2.out)
   rintro e w23 ⟨v547, rfl, ho0, hb⟩
   refine ⟨_, rfl, ?_⟩
   have n0_ := Aside0.mk (Kd.R_elder' (by (with_reducible repeat (first | apply Kd.R_alloc | apply Kd.R_drewN | apply Kd.R_drew)); exact HO543.out) (Kd.R_base ho0) hb)
   have n1_ := Aside0.mk (Kd.R_lower (Kd.R_new' ho0 (Kd.R_lt (by (with_reducible repeat (first | apply Kd.R_alloc | apply Kd.R_drewN | apply Kd.R_drew)); exact HO543.out))) (below_size (by repeat (first | (with_reducible first | exact HB.out | apply below_alloc | apply pw_below_drewN | apply below_drew1 | refine below_set ?_ GE538.out) | exact HB.out))))
   have n2_ := Aside0.mk (blk_below (g := gb538) (o := .cells #[.int .i64 a1_0, .int .i64 a1_1, .slice A1_2 l1_2.length c1_2] 42 (0, 0)) (by (with_reducible repeat (first | refine blk_drewN ?_ _ | refine blk_drew ?_ | refine blk_alloc ?_ _)); exact BK538.out) hb)
   have n3_ := Aside0.mk (below_step (by repeat (first | (with_reducible first | exact HB.out | apply below_alloc | apply pw_below_drewN | apply below_drew1 | refine below_set ?_ GE538.out) | exact HB.out)) hb)
   clear HO543
   clear BK538
   clear HB
   have HO543 := n0_
   have HO548 := n1_
   have BK538 := n2_
   have HB := n3_
   clear n0_ n1_ n2_ n3_
   (try clear hb)
   (try clear hb2)
   (try clear hk)
   (try clear hi)
   (try clear ho0)
   obtain ⟨Ao24, co24, eo24⟩ := Kd.R_slice HO543.out
   (first | subst eo24 | (injection eo24 with f1_ f2_ f3_; have f4_ := f1_.symm; have f5_ := f3_.symm; clear f1_ f2_ f3_; subst f4_; subst f5_))
   obtain ⟨Ao25, co25, eo25⟩ := Kd.R_slice HO548.out
   (first | subst eo25 | (injection eo25 with f1_ f2_ f3_; have f4_ := f1_.symm; have f5_ := f3_.symm; clear f1_ f2_ f3_; subst f4_; subst f5_))
   refine hK.out _ _ ⟨(blk_cell BK538.out 0).trans rfl, (blk_cell BK538.out 1).trans rfl, (blk_cell BK538.out 2).trans rfl⟩ (fun hHeld => ?_)
   clear hK K
   refine norm_ (a' := ?_) ?_ ?_
   rotate_left
   ·show Act.put _ (some 34) _ = _
    simp only [Act.put, List.setIfInBounds_toArray, List.set_cons_zero, List.set_cons_succ, i64_w, i32_w]
    rfl
   refine one_ (i := 4) (N := some 35) #[true, true, true, true, true, false, false, false, false, false, false, false] rfl rfl (one_of HT_.out (by kernel_rfl)) (by decide) (fun K hK => ?_)
   refine goes_ Try.func32 (by kernel_rfl) rfl #[.slice Ao24 t541.length co24, .agg #[.int .i64 t544, .int .i64 t545, .slice Ao25 t546.length co25]] (by rfl) rfl rfl (by (try simp only [List.map_toArray, List.map_cons, List.map_nil]); first | done | rfl | (simp only [List.length_drop, List.length_take]; rfl)) ?_
   with_reducible refine (spec_AskFor.calls k _ _ t541 t544 t545 _ _ t546 t549 t552 t555 _ ?side1 ?side2 ?side3 ?side4 A13.out).mono ?_
   (case side1 => repeat (first | exact (Kd.R_reads' HO543.out).2.2 | (with_reducible refine Kd.C_alloc ?_ _) | (with_reducible refine Kd.C_drewN ?_ _) | (with_reducible refine Kd.C_drew ?_)))
   (case side2 => exact (Kd.R_reads' HO543.out).2.1)
   (case side3 => repeat (first | exact (Kd.R_reads' HO548.out).2.2 | (with_reducible refine Kd.C_alloc ?_ _) | (with_reducible refine Kd.C_drewN ?_ _) | (with_reducible refine Kd.C_drew ?_)))
   (case side4 => exact (Kd.R_reads' HO548.out).2.1)
   rintro e w26 ⟨v550, v553, rfl, ho0, ho1, hb⟩
   refine ⟨_, rfl, ?_⟩
   have n0_ := Aside0.mk (Kd.R_elder' (by (with_reducible repeat (first | apply Kd.R_alloc | apply Kd.R_drewN | apply Kd.R_drew)); exact HO543.out) (Kd.R_base ho1) hb)
   have n1_ := Aside0.mk (Kd.R_elder' (by (with_reducible repeat (first | apply Kd.R_alloc | apply Kd.R_drewN | apply Kd.R_drew)); exact HO548.out) (Kd.R_base ho1) hb)
   have n2_ := Aside0.mk (Kd.R_lower ho0 (below_size (by repeat (first | (with_reducible first | exact HB.out | apply below_alloc | apply pw_below_drewN | apply below_drew1 | refine below_set ?_ GE538.out) | exact HB.out))))
   have n3_ := Aside0.mk (Kd.R_lower (Kd.R_new' (Kd.R_new' ho1 (Kd.R_lt (by (with_reducible repeat (first | apply Kd.R_alloc | apply Kd.R_drewN | apply Kd.R_drew)); exact HO543.out))) (Kd.R_lt (by (with_reducible repeat (first | apply Kd.R_alloc | apply Kd.R_drewN | apply Kd.R_drew)); exact HO548.out))) (below_size (by repeat (first | (with_reducible first | exact HB.out | apply below_alloc | apply pw_below_drewN | apply below_drew1 | refine below_set ?_ GE538.out) | exact HB.out))))
   have n4_ := Aside0.mk (blk_below (g := gb538) (o := .cells #[.int .i64 a1_0, .int .i64 a1_1, .slice A1_2 l1_2.length c1_2] 42 (0, 0)) (by (with_reducible repeat (first | refine blk_drewN ?_ _ | refine blk_drew ?_ | refine blk_alloc ?_ _)); exact BK538.out) hb)
   have n5_ := Aside0.mk (below_step (by repeat (first | (with_reducible first | exact HB.out | apply below_alloc | apply pw_below_drewN | apply below_drew1 | refine below_set ?_ GE538.out) | exact HB.out)) hb)
   clear HO543
   clear HO548
   clear BK538
   clear HB
   have HO543 := n0_
   have HO548 := n1_
   have HO551 := n2_
   have HO554 := n3_
   have BK538 := n4_
   have HB := n5_
   clear n0_ n1_ n2_ n3_ n4_ n5_
   (try clear hb)
   (try clear hb2)
   (try clear hk)
   (try clear hi)
   (try clear ho0)
   (try clear ho1)
   refine hK.out _ _ ⟨(blk_cell BK538.out 0).trans rfl, (blk_cell BK538.out 1).trans rfl, (blk_cell BK538.out 2).trans rfl⟩ (fun hHeld => ?_)
   clear hK K
   refine norm_ (a' := ?_) ?_ ?_
   rotate_left
   ·show Act.put _ (some 35) _ = _
    simp only [Act.put, List.setIfInBounds_toArray, List.set_cons_zero, List.set_cons_succ, i64_w, i32_w]
    rfl
   refine pure_ (i := 5) (N := some 30) (v := ?_) (a' := ?_) #[true, true, true, true, true, true, false, false, false, false, false, false] rfl rfl (any_of HT_.out (by kernel_rfl)) (fun _ _ _ h => h) (Or.inl ⟨by rfl, ?_⟩) ?_ ?_
   rotate_left
   ·intro w'
    go_simp
    with_reducible rfl
   rotate_left
   ·simp only [Act.put, List.setIfInBounds_toArray, List.set_cons_zero, List.set_cons_succ, i64_w, i32_w]
    rfl
   refine pure_ (i := 6) (N := some 36) (v := ?_) (a' := ?_) #[true, true, true, true, true, true, true, false, false, false, false, false] rfl rfl (any_of HT_.out (by kernel_rfl)) (fun _ _ _ h => h) (Or.inl ⟨by rfl, ?_⟩) ?_ ?_
   rotate_left
   ·intro w'
    go_simp
    with_reducible rfl
   rotate_left
   ·simp only [Act.put, List.setIfInBounds_toArray, List.set_cons_zero, List.set_cons_succ, i64_w, i32_w]
    rfl
   refine pure_ (i := 7) (N := some 37) (v := ?_) (a' := ?_) #[true, true, true, true, true, true, true, true, false, false, false, false] rfl rfl (any_of HT_.out (by kernel_rfl)) (fun _ _ _ h => h) (Or.inl ⟨by rfl, ?_⟩) ?_ ?_
   rotate_left
   ·intro w'
    go_simp
    with_reducible rfl
   rotate_left
   ·simp only [Act.put, List.setIfInBounds_toArray, List.set_cons_zero, List.set_cons_succ, i64_w, i32_w]
    rfl
   refine pure_ (i := 8) (N := some 38) (v := ?_) (a' := ?_) #[true, true, true, true, true, true, true, true, true, false, false, false] rfl rfl (any_of HT_.out (by kernel_rfl)) (fun _ _ _ h => h) (Or.inl ⟨by rfl, ?_⟩) ?_ ?_
   rotate_left
   ·intro w'
    go_simp
    with_reducible rfl
   rotate_left
   ·simp only [Act.put, List.setIfInBounds_toArray, List.set_cons_zero, List.set_cons_succ, i64_w, i32_w]
    rfl
   refine pure_ (i := 9) (N := some 6) (v := ?_) (a' := ?_) #[true, true, true, true, true, true, true, true, true, true, false, false] rfl rfl (any_of HT_.out (by kernel_rfl)) (fun _ _ _ h => h) (Or.inl ⟨by rfl, ?_⟩) ?_ ?_
   rotate_left
   ·intro w'
    go_simp
    with_reducible rfl
   rotate_left
   ·simp only [Act.put, List.setIfInBounds_toArray, List.set_cons_zero, List.set_cons_succ, i64_w, i32_w]
    rfl
   refine pure_ (i := 10) (N := some 7) (v := ?_) (a' := ?_) #[true, true, true, true, true, true, true, true, true, true, true, false] rfl rfl (any_of HT_.out (by kernel_rfl)) (fun _ _ _ h => h) (Or.inl ⟨by rfl, ?_⟩) ?_ ?_
   rotate_left
   ·intro w'
    go_simp
    with_reducible rfl
   rotate_left
   ·simp only [Act.put, List.setIfInBounds_toArray, List.set_cons_zero, List.set_cons_succ, i64_w, i32_w]
    rfl
   refine pure_ (i := 11) (N := some 8) (v := ?_) (a' := ?_) #[true, true, true, true, true, true, true, true, true, true, true, true] rfl rfl (any_of HT_.out (by kernel_rfl)) (fun _ _ _ h => h) (Or.inl ⟨by rfl, ?_⟩) ?_ ?_
   rotate_left
   ·intro w'
    go_simp
    with_reducible rfl
   rotate_left
   ·simp only [Act.put, List.setIfInBounds_toArray, List.set_cons_zero, List.set_cons_succ, i64_w, i32_w]
    rfl
   refine done_ (done_of HT_.out (by kernel_rfl)) ?_
   go_upto_region 12 with (first | ((with_reducible refine gate_callee (f := 33) rfl ?_); refine goesL_ (some 40) rfl rfl Try.func33 (by kernel_rfl) rfl #[.slice A0 l0.length c0] rfl (by (try simp only [List.map_toArray, List.map_cons, List.map_nil]); first | done | rfl | (simp only [List.length_drop, List.length_take]; rfl)) ?_; (with_reducible refine (laws_toHaveS.calls k _ _ l0 t556 _ ?side1 ?side2 A14.out).mono ?_); (case side1 => repeat (first | exact (Kd.C_below HR0.out HB.out) | (with_reducible refine Kd.C_alloc ?_ _) | (with_reducible refine Kd.C_drewN ?_ _) | (with_reducible refine Kd.C_drew ?_))); (case side2 => exact HC0.out); rintro e w27 ⟨v557, rfl, ho0, hb⟩; refine ⟨_, rfl, ?_⟩; have n0_ := Aside0.mk (Kd.R_elder' (by (with_reducible repeat (first | apply Kd.R_alloc | apply Kd.R_drewN | apply Kd.R_drew)); exact HO543.out) (Kd.R_base ho0) hb); have n1_ := Aside0.mk (Kd.R_elder' (by (with_reducible repeat (first | apply Kd.R_alloc | apply Kd.R_drewN | apply Kd.R_drew)); exact HO548.out) (Kd.R_base ho0) hb); have n2_ := Aside0.mk (Kd.R_below (by (with_reducible repeat (first | apply Kd.R_alloc | apply Kd.R_drewN | apply Kd.R_drew)); exact HO551.out) hb); have n3_ := Aside0.mk (Kd.R_elder' (by (with_reducible repeat (first | apply Kd.R_alloc | apply Kd.R_drewN | apply Kd.R_drew)); exact HO554.out) (Kd.R_base ho0) hb); have n4_ := Aside0.mk (Kd.R_lower (Kd.R_new' (Kd.R_new' (Kd.R_new' ho0 (Kd.R_lt (by (with_reducible repeat (first | apply Kd.R_alloc | apply Kd.R_drewN | apply Kd.R_drew)); exact HO543.out))) (Kd.R_lt (by (with_reducible repeat (first | apply Kd.R_alloc | apply Kd.R_drewN | apply Kd.R_drew)); exact HO548.out))) (Kd.R_lt (by (with_reducible repeat (first | apply Kd.R_alloc | apply Kd.R_drewN | apply Kd.R_drew)); exact HO554.out))) (below_size (by repeat (first | (with_reducible first | exact HB.out | apply below_alloc | apply pw_below_drewN | apply below_drew1 | refine below_set ?_ GE538.out) | exact HB.out)))); have n5_ := Aside0.mk (blk_below (g := gb538) (o := .cells #[.int .i64 a1_0, .int .i64 a1_1, .slice A1_2 l1_2.length c1_2] 42 (0, 0)) (by (with_reducible repeat (first | refine blk_drewN ?_ _ | refine blk_drew ?_ | refine blk_alloc ?_ _)); exact BK538.out) hb); have n6_ := Aside0.mk (below_step (by repeat (first | (with_reducible first | exact HB.out | apply below_alloc | apply pw_below_drewN | apply below_drew1 | refine below_set ?_ GE538.out) | exact HB.out)) hb); clear HO543; clear HO548; clear HO551; clear HO554; clear BK538; clear HB; have HO543 := n0_; have HO548 := n1_; have HO551 := n2_; have HO554 := n3_; have HO558 := n4_; have BK538 := n5_; have HB := n6_; clear n0_ n1_ n2_ n3_ n4_ n5_ n6_; (try clear hb); (try clear hb2); (try clear hk); (try clear hi); (try clear ho0); have hcz28_0 : w27.cell? ⟨gb538, 0, none⟩ = some (.int .i64 a1_0) := (blk_cell BK538.out 0).trans rfl; have hcz28_1 : w27.cell? ⟨gb538, 1, none⟩ = some (.int .i64 a1_1) := (blk_cell BK538.out 1).trans rfl; have hcz28_2 : w27.cell? ⟨gb538, 2, none⟩ = some (.slice A1_2 l1_2.length c1_2) := (blk_cell BK538.out 2).trans rfl; have hfz28_0 := blk_frozen BK538.out 0; have hfz28_1 := blk_frozen BK538.out 1; have hfz28_2 := blk_frozen BK538.out 2) | ((with_reducible refine gate_callee (f := 34) rfl ?_); refine goesL_ (some 42) rfl rfl Try.func34 (by kernel_rfl) rfl #[.agg #[.int .i64 a1_0, .int .i64 a1_1, .slice A1_2 l1_2.length c1_2]] rfl (by (try simp only [List.map_toArray, List.map_cons, List.map_nil]); first | done | rfl | (simp only [List.length_drop, List.length_take]; rfl)) ?_; (with_reducible refine (laws_toSummary.calls k a1_0 a1_1 _ _ l1_2 t559 t560 t561 _ ?side1 ?side2 A15.out).mono ?_); (case side1 => repeat (first | exact (Kd.C_below HR1_2.out HB.out) | (with_reducible refine Kd.C_alloc ?_ _) | (with_reducible refine Kd.C_drewN ?_ _) | (with_reducible refine Kd.C_drew ?_))); (case side2 => exact HC1_2.out); rintro e w29 ⟨v562, rfl, ho0, hb⟩; refine ⟨_, rfl, ?_⟩; have n0_ := Aside0.mk (Kd.R_elder' (by (with_reducible repeat (first | apply Kd.R_alloc | apply Kd.R_drewN | apply Kd.R_drew)); exact HO543.out) (Kd.R_base ho0) hb); have n1_ := Aside0.mk (Kd.R_elder' (by (with_reducible repeat (first | apply Kd.R_alloc | apply Kd.R_drewN | apply Kd.R_drew)); exact HO548.out) (Kd.R_base ho0) hb); have n2_ := Aside0.mk (Kd.R_below (by (with_reducible repeat (first | apply Kd.R_alloc | apply Kd.R_drewN | apply Kd.R_drew)); exact HO551.out) hb); have n3_ := Aside0.mk (Kd.R_elder' (by (with_reducible repeat (first | apply Kd.R_alloc | apply Kd.R_drewN | apply Kd.R_drew)); exact HO554.out) (Kd.R_base ho0) hb); have n4_ := Aside0.mk (Kd.R_elder' (by (with_reducible repeat (first | apply Kd.R_alloc | apply Kd.R_drewN | apply Kd.R_drew)); exact HO558.out) (Kd.R_base ho0) hb); have n5_ := Aside0.mk (Kd.R_lower (Kd.R_new' (Kd.R_new' (Kd.R_new' (Kd.R_new' ho0 (Kd.R_lt (by (with_reducible repeat (first | apply Kd.R_alloc | apply Kd.R_drewN | apply Kd.R_drew)); exact HO543.out))) (Kd.R_lt (by (with_reducible repeat (first | apply Kd.R_alloc | apply Kd.R_drewN | apply Kd.R_drew)); exact HO548.out))) (Kd.R_lt (by (with_reducible repeat (first | apply Kd.R_alloc | apply Kd.R_drewN | apply Kd.R_drew)); exact HO554.out))) (Kd.R_lt (by (with_reducible repeat (first | apply Kd.R_alloc | apply Kd.R_drewN | apply Kd.R_drew)); exact HO558.out))) (below_size (by repeat (first | (with_reducible first | exact HB.out | apply below_alloc | apply pw_below_drewN | apply below_drew1 | refine below_set ?_ GE538.out) | exact HB.out)))); have n6_ := Aside0.mk (blk_below (g := gb538) (o := .cells #[.int .i64 a1_0, .int .i64 a1_1, .slice A1_2 l1_2.length c1_2] 42 (0, 0)) (by (with_reducible repeat (first | refine blk_drewN ?_ _ | refine blk_drew ?_ | refine blk_alloc ?_ _)); exact BK538.out) hb); have n7_ := Aside0.mk (below_step (by repeat (first | (with_reducible first | exact HB.out | apply below_alloc | apply pw_below_drewN | apply below_drew1 | refine below_set ?_ GE538.out) | exact HB.out)) hb); clear HO543; clear HO548; clear HO551; clear HO554; clear HO558; clear BK538; clear HB; have HO543 := n0_; have HO548 := n1_; have HO551 := n2_; have HO554 := n3_; have HO558 := n4_; have HO563 := n5_; have BK538 := n6_; have HB := n7_; clear n0_ n1_ n2_ n3_ n4_ n5_ n6_ n7_; (try clear hb); (try clear hb2); (try clear hk); (try clear hi); (try clear ho0)) | ((with_reducible refine gate_dst (N := 10) rfl ?_); refine box_event ?hg (N := 10) ?hd (cs := #[.int .i64 0, .int .i64 0, .slice none 0 0]) (t := 50) ?hr ?_; (case hd => rfl); (case hg => rfl); (case hr => first | (go_simp; done) | (go_simp; rfl)); intro gb564 hg w30 hbox hb; have n0_ := Aside0.mk (Kd.R_below (by (with_reducible repeat (first | apply Kd.R_alloc | apply Kd.R_drewN | apply Kd.R_drew)); exact HO543.out) hb); have n1_ := Aside0.mk (Kd.R_below (by (with_reducible repeat (first | apply Kd.R_alloc | apply Kd.R_drewN | apply Kd.R_drew)); exact HO548.out) hb); have n2_ := Aside0.mk (Kd.R_below (by (with_reducible repeat (first | apply Kd.R_alloc | apply Kd.R_drewN | apply Kd.R_drew)); exact HO551.out) hb); have n3_ := Aside0.mk (Kd.R_below (by (with_reducible repeat (first | apply Kd.R_alloc | apply Kd.R_drewN | apply Kd.R_drew)); exact HO554.out) hb); have n4_ := Aside0.mk (Kd.R_below (by (with_reducible repeat (first | apply Kd.R_alloc | apply Kd.R_drewN | apply Kd.R_drew)); exact HO558.out) hb); have n5_ := Aside0.mk (Kd.R_below (by (with_reducible repeat (first | apply Kd.R_alloc | apply Kd.R_drewN | apply Kd.R_drew)); exact HO563.out) hb); have n6_ := Aside0.mk (blk_below (g := gb538) (o := .cells #[.int .i64 a1_0, .int .i64 a1_1, .slice A1_2 l1_2.length c1_2] 42 (0, 0)) (by (with_reducible repeat (first | refine blk_drewN ?_ _ | refine blk_drew ?_ | refine blk_alloc ?_ _)); exact BK538.out) hb); have n7_ := Aside0.mk (below_step (by repeat (first | (with_reducible first | exact HB.out | apply below_alloc | apply pw_below_drewN | apply below_drew1 | refine below_set ?_ GE538.out) | exact HB.out)) hb); have n8_ := Aside0.mk (hbox); have n9_ := Aside0.mk ((by rw [hg]; exact (below_size (by repeat (first | (with_reducible first | exact HB.out | apply below_alloc | apply pw_below_drewN | apply below_drew1 | refine below_set ?_ GE538.out) | exact HB.out))) : w.heap.size ≤ gb564)); have n10_ := Aside0.mk ((by rw [hg]; exact (below_size (by repeat (first | (with_reducible first | exact HB.out | apply below_alloc | apply pw_below_drewN | apply below_drew1 | refine below_set ?_ GE538.out) | exact HB.out))) : w.heap.size ≤ gb564)); have n11_ := Aside0.mk ((by rw [hg]; exact Nat.ne_of_lt (blk_lt (g := gb538) (o := .cells #[.int .i64 a1_0, .int .i64 a1_1, .slice A1_2 l1_2.length c1_2] 42 (0, 0)) (by (with_reducible repeat (first | refine blk_drewN ?_ _ | refine blk_drew ?_ | refine blk_alloc ?_ _)); exact BK538.out)) : gb538 ≠ gb564)); have n12_ := Aside0.mk ((by rw [hg]; exact Nat.ne_of_gt (blk_lt (g := gb538) (o := .cells #[.int .i64 a1_0, .int .i64 a1_1, .slice A1_2 l1_2.length c1_2] 42 (0, 0)) (by (with_reducible repeat (first | refine blk_drewN ?_ _ | refine blk_drew ?_ | refine blk_alloc ?_ _)); exact BK538.out)) : gb564 ≠ gb538)); clear HO543; clear HO548; clear HO551; clear HO554; clear HO558; clear HO563; clear BK538; clear HB; have HO543 := n0_; have HO548 := n1_; have HO551 := n2_; have HO554 := n3_; have HO558 := n4_; have HO563 := n5_; have BK538 := n6_; have HB := n7_; have BK564 := n8_; have GW564 := n9_; have GE564 := n10_; have NB538_564 := n11_; have NB564_538 := n12_; clear n0_ n1_ n2_ n3_ n4_ n5_ n6_ n7_ n8_ n9_ n10_ n11_ n12_; clear hb hbox hg; have hnb31 := NB564_538.out; have hnc31 := NB538_564.out; have hcz32_0 : w30.cell? ⟨gb564, 0, none⟩ = some (.int .i64 0) := (blk_cell BK564.out 0).trans rfl; have hcz32_1 : w30.cell? ⟨gb564, 1, none⟩ = some (.int .i64 0) := (blk_cell BK564.out 1).trans rfl; have hcz32_2 : w30.cell? ⟨gb564, 2, none⟩ = some (.slice none 0 0) := (blk_cell BK564.out 2).trans rfl; have hfz32_0 := blk_frozen BK564.out 0; have hfz32_1 := blk_frozen BK564.out 1; have hfz32_2 := blk_frozen BK564.out 2; obtain ⟨Ao33, co33, eo33⟩ := Kd.R_slice HO563.out; subst eo33; obtain ⟨Ao34, co34, eo34⟩ := Kd.R_slice HO558.out; subst eo34) | ((with_reducible refine gate_callee (f := 35) rfl ?_); refine goesL_ (some 46) rfl rfl Try.func35 (by kernel_rfl) rfl #[.slice Ao34 t556.length co34, .agg #[.int .i64 t559, .int .i64 t560, .slice Ao33 t561.length co33]] rfl (by (try simp only [List.map_toArray, List.map_cons, List.map_nil]); first | done | rfl | (simp only [List.length_drop, List.length_take]; rfl)) ?_; (with_reducible refine (impl_AskFor.calls k _ _ t556 t559 t560 _ _ t561 t565 t568 t571 _ ?side1 ?side2 ?side3 ?side4 A16.out).mono ?_); (case side1 => refine (Kd.R_reads' (e := 104) (base := w.heap.size) (ok := fun k_ => ((((True ∧ some k_ ≠ (.slice Ao24 t541.length co24 : Value).ownBlock) ∧ some k_ ≠ (.slice Ao25 t546.length co25 : Value).ownBlock) ∧ some k_ ≠ (v553 : Value).ownBlock) ∧ some k_ ≠ (.slice Ao33 t561.length co33 : Value).ownBlock)) (n := t556.length) (c := co34) ?_).2.2; exact (by (with_reducible repeat (first | apply Kd.R_alloc | apply Kd.R_drewN | apply Kd.R_drew)); exact (Kd.R_mono (Kd.R_far (p := ⟨gb564, 2, none⟩) (Kd.R_far (p := ⟨gb564, 1, none⟩) (Kd.R_far (p := ⟨gb564, 0, none⟩) (Kd.R_types HO558.out BK564.out (by decide)) (fun _ hk => hk.2) (.int .i64 t559)) (fun _ hk => hk.2) (.int .i64 t560)) (fun _ hk => hk.2) (.slice Ao33 t561.length co33)) (fun _ h_ => h_.1)))); (case side2 => exact (Kd.R_reads' HO558.out).2.1); (case side3 => refine (Kd.R_reads' (e := 104) (base := w.heap.size) (ok := fun k_ => ((((True ∧ some k_ ≠ (.slice Ao24 t541.length co24 : Value).ownBlock) ∧ some k_ ≠ (.slice Ao25 t546.length co25 : Value).ownBlock) ∧ some k_ ≠ (v553 : Value).ownBlock) ∧ some k_ ≠ (.slice Ao34 t556.length co34 : Value).ownBlock)) (n := t561.length) (c := co33) ?_).2.2; exact (by (with_reducible repeat (first | apply Kd.R_alloc | apply Kd.R_drewN | apply Kd.R_drew)); exact (Kd.R_mono (Kd.R_far (p := ⟨gb564, 2, none⟩) (Kd.R_far (p := ⟨gb564, 1, none⟩) (Kd.R_far (p := ⟨gb564, 0, none⟩) (Kd.R_types HO563.out BK564.out (by decide)) (fun _ hk => hk.2) (.int .i64 t559)) (fun _ hk => hk.2) (.int .i64 t560)) (fun _ hk => hk.2) (.slice Ao33 t561.length co33)) (fun _ h_ => h_.1)))); (case side4 => exact (Kd.R_reads' HO563.out).2.1); rintro e w35 ⟨v566, v569, rfl, ho0, ho1, hb⟩; refine ⟨_, rfl, ?_⟩; have n0_ := Aside0.mk (Kd.R_elder' (by (with_reducible repeat (first | apply Kd.R_alloc | apply Kd.R_drewN | apply Kd.R_drew)); exact (Kd.R_mono (Kd.R_far (p := ⟨gb564, 2, none⟩) (Kd.R_far (p := ⟨gb564, 1, none⟩) (Kd.R_far (p := ⟨gb564, 0, none⟩) (Kd.R_types HO543.out BK564.out (by decide)) (fun _ hk => hk.2) (.int .i64 t559)) (fun _ hk => hk.2) (.int .i64 t560)) (fun _ hk => hk.2) (.slice Ao33 t561.length co33)) (fun _ h_ => h_.1))) (Kd.R_base ho1) hb); have n1_ := Aside0.mk (Kd.R_elder' (by (with_reducible repeat (first | apply Kd.R_alloc | apply Kd.R_drewN | apply Kd.R_drew)); exact (Kd.R_mono (Kd.R_far (p := ⟨gb564, 2, none⟩) (Kd.R_far (p := ⟨gb564, 1, none⟩) (Kd.R_far (p := ⟨gb564, 0, none⟩) (Kd.R_types HO548.out BK564.out (by decide)) (fun _ hk => hk.2) (.int .i64 t559)) (fun _ hk => hk.2) (.int .i64 t560)) (fun _ hk => hk.2) (.slice Ao33 t561.length co33)) (fun _ h_ => h_.1))) (Kd.R_base ho1) hb); have n2_ := Aside0.mk (Kd.R_elder' (by (with_reducible repeat (first | apply Kd.R_alloc | apply Kd.R_drewN | apply Kd.R_drew)); exact (Kd.R_mono (Kd.R_far (p := ⟨gb564, 2, none⟩) (Kd.R_far (p := ⟨gb564, 1, none⟩) (Kd.R_far (p := ⟨gb564, 0, none⟩) (Kd.R_types HO551.out BK564.out (by decide)) (fun _ hk => hk.2) (.int .i64 t559)) (fun _ hk => hk.2) (.int .i64 t560)) (fun _ hk => hk.2) (.slice Ao33 t561.length co33)) (fun _ h_ => h_.1))) (Kd.R_base ho0) hb); have n3_ := Aside0.mk (Kd.R_elder' (by (with_reducible repeat (first | apply Kd.R_alloc | apply Kd.R_drewN | apply Kd.R_drew)); exact (Kd.R_mono (Kd.R_far (p := ⟨gb564, 2, none⟩) (Kd.R_far (p := ⟨gb564, 1, none⟩) (Kd.R_far (p := ⟨gb564, 0, none⟩) (Kd.R_types HO554.out BK564.out (by decide)) (fun _ hk => hk.2) (.int .i64 t559)) (fun _ hk => hk.2) (.int .i64 t560)) (fun _ hk => hk.2) (.slice Ao33 t561.length co33)) (fun _ h_ => h_.1))) (Kd.R_base ho1) hb); have n4_ := Aside0.mk (Kd.R_elder' (by (with_reducible repeat (first | apply Kd.R_alloc | apply Kd.R_drewN | apply Kd.R_drew)); exact (Kd.R_mono (Kd.R_far (p := ⟨gb564, 2, none⟩) (Kd.R_far (p := ⟨gb564, 1, none⟩) (Kd.R_far (p := ⟨gb564, 0, none⟩) (Kd.R_types HO558.out BK564.out (by decide)) (fun _ hk => hk.2) (.int .i64 t559)) (fun _ hk => hk.2) (.int .i64 t560)) (fun _ hk => hk.2) (.slice Ao33 t561.length co33)) (fun _ h_ => h_.1))) (Kd.R_base ho1) hb); have n5_ := Aside0.mk (Kd.R_elder' (by (with_reducible repeat (first | apply Kd.R_alloc | apply Kd.R_drewN | apply Kd.R_drew)); exact (Kd.R_mono (Kd.R_far (p := ⟨gb564, 2, none⟩) (Kd.R_far (p := ⟨gb564, 1, none⟩) (Kd.R_far (p := ⟨gb564, 0, none⟩) (Kd.R_types HO563.out BK564.out (by decide)) (fun _ hk => hk.2) (.int .i64 t559)) (fun _ hk => hk.2) (.int .i64 t560)) (fun _ hk => hk.2) (.slice Ao33 t561.length co33)) (fun _ h_ => h_.1))) (Kd.R_base ho1) hb); have n6_ := Aside0.mk (Kd.R_lower (Kd.R_new' ho0 (Kd.R_lt (by (with_reducible repeat (first | apply Kd.R_alloc | apply Kd.R_drewN | apply Kd.R_drew)); exact (Kd.R_mono (Kd.R_far (p := ⟨gb564, 2, none⟩) (Kd.R_far (p := ⟨gb564, 1, none⟩) (Kd.R_far (p := ⟨gb564, 0, none⟩) (Kd.R_types HO551.out BK564.out (by decide)) (fun _ hk => hk.2) (.int .i64 t559)) (fun _ hk => hk.2) (.int .i64 t560)) (fun _ hk => hk.2) (.slice Ao33 t561.length co33)) (fun _ h_ => h_.1))))) (below_size (by repeat (first | (with_reducible first | exact HB.out | apply below_alloc | apply pw_below_drewN | apply below_drew1 | refine below_set ?_ GE538.out | refine below_set ?_ GE564.out) | exact HB.out)))); have n7_ := Aside0.mk (Kd.R_lower (Kd.R_new' (Kd.R_new' (Kd.R_new' (Kd.R_new' (Kd.R_new' ho1 (Kd.R_lt (by (with_reducible repeat (first | apply Kd.R_alloc | apply Kd.R_drewN | apply Kd.R_drew)); exact (Kd.R_mono (Kd.R_far (p := ⟨gb564, 2, none⟩) (Kd.R_far (p := ⟨gb564, 1, none⟩) (Kd.R_far (p := ⟨gb564, 0, none⟩) (Kd.R_types HO543.out BK564.out (by decide)) (fun _ hk => hk.2) (.int .i64 t559)) (fun _ hk => hk.2) (.int .i64 t560)) (fun _ hk => hk.2) (.slice Ao33 t561.length co33)) (fun _ h_ => h_.1))))) (Kd.R_lt (by (with_reducible repeat (first | apply Kd.R_alloc | apply Kd.R_drewN | apply Kd.R_drew)); exact (Kd.R_mono (Kd.R_far (p := ⟨gb564, 2, none⟩) (Kd.R_far (p := ⟨gb564, 1, none⟩) (Kd.R_far (p := ⟨gb564, 0, none⟩) (Kd.R_types HO548.out BK564.out (by decide)) (fun _ hk => hk.2) (.int .i64 t559)) (fun _ hk => hk.2) (.int .i64 t560)) (fun _ hk => hk.2) (.slice Ao33 t561.length co33)) (fun _ h_ => h_.1))))) (Kd.R_lt (by (with_reducible repeat (first | apply Kd.R_alloc | apply Kd.R_drewN | apply Kd.R_drew)); exact (Kd.R_mono (Kd.R_far (p := ⟨gb564, 2, none⟩) (Kd.R_far (p := ⟨gb564, 1, none⟩) (Kd.R_far (p := ⟨gb564, 0, none⟩) (Kd.R_types HO554.out BK564.out (by decide)) (fun _ hk => hk.2) (.int .i64 t559)) (fun _ hk => hk.2) (.int .i64 t560)) (fun _ hk => hk.2) (.slice Ao33 t561.length co33)) (fun _ h_ => h_.1))))) (Kd.R_lt (by (with_reducible repeat (first | apply Kd.R_alloc | apply Kd.R_drewN | apply Kd.R_drew)); exact (Kd.R_mono (Kd.R_far (p := ⟨gb564, 2, none⟩) (Kd.R_far (p := ⟨gb564, 1, none⟩) (Kd.R_far (p := ⟨gb564, 0, none⟩) (Kd.R_types HO558.out BK564.out (by decide)) (fun _ hk => hk.2) (.int .i64 t559)) (fun _ hk => hk.2) (.int .i64 t560)) (fun _ hk => hk.2) (.slice Ao33 t561.length co33)) (fun _ h_ => h_.1))))) (Kd.R_lt (by (with_reducible repeat (first | apply Kd.R_alloc | apply Kd.R_drewN | apply Kd.R_drew)); exact (Kd.R_mono (Kd.R_far (p := ⟨gb564, 2, none⟩) (Kd.R_far (p := ⟨gb564, 1, none⟩) (Kd.R_far (p := ⟨gb564, 0, none⟩) (Kd.R_types HO563.out BK564.out (by decide)) (fun _ hk => hk.2) (.int .i64 t559)) (fun _ hk => hk.2) (.int .i64 t560)) (fun _ hk => hk.2) (.slice Ao33 t561.length co33)) (fun _ h_ => h_.1))))) (below_size (by repeat (first | (with_reducible first | exact HB.out | apply below_alloc | apply pw_below_drewN | apply below_drew1 | refine below_set ?_ GE538.out | refine below_set ?_ GE564.out) | exact HB.out)))); have n8_ := Aside0.mk (blk_below (g := gb538) (o := .cells #[.int .i64 a1_0, .int .i64 a1_1, .slice A1_2 l1_2.length c1_2] 42 (0, 0)) (by (with_reducible repeat (first | refine blk_drewN ?_ _ | refine blk_drew ?_ | refine blk_alloc ?_ _)); refine blk_far ?_ NB538_564.out _; (with_reducible repeat (first | refine blk_drewN ?_ _ | refine blk_drew ?_ | refine blk_alloc ?_ _)); refine blk_far ?_ NB538_564.out _; (with_reducible repeat (first | refine blk_drewN ?_ _ | refine blk_drew ?_ | refine blk_alloc ?_ _)); refine blk_far ?_ NB538_564.out _; (with_reducible repeat (first | refine blk_drewN ?_ _ | refine blk_drew ?_ | refine blk_alloc ?_ _)); exact BK538.out) hb); have n9_ := Aside0.mk (blk_below (g := gb564) (o := .cells #[.int .i64 t559, .int .i64 t560, .slice Ao33 t561.length co33] 50 (0, 0)) (by (with_reducible repeat (first | refine blk_drewN ?_ _ | refine blk_drew ?_ | refine blk_alloc ?_ _)); refine blk_put (cs := #[.int .i64 t559, .int .i64 t560, .slice none 0 0]) ?_ 2 _ rfl; (with_reducible repeat (first | refine blk_drewN ?_ _ | refine blk_drew ?_ | refine blk_alloc ?_ _)); refine blk_put (cs := #[.int .i64 t559, .int .i64 0, .slice none 0 0]) ?_ 1 _ rfl; (with_reducible repeat (first | refine blk_drewN ?_ _ | refine blk_drew ?_ | refine blk_alloc ?_ _)); refine blk_put (cs := #[.int .i64 0, .int .i64 0, .slice none 0 0]) ?_ 0 _ rfl; (with_reducible repeat (first | refine blk_drewN ?_ _ | refine blk_drew ?_ | refine blk_alloc ?_ _)); exact BK564.out) hb); have n10_ := Aside0.mk (below_step (by repeat (first | (with_reducible first | exact HB.out | apply below_alloc | apply pw_below_drewN | apply below_drew1 | refine below_set ?_ GE538.out | refine below_set ?_ GE564.out) | exact HB.out)) hb); clear HO543; clear HO548; clear HO551; clear HO554; clear HO558; clear HO563; clear BK538; clear BK564; clear HB; have HO543 := n0_; have HO548 := n1_; have HO551 := n2_; have HO554 := n3_; have HO558 := n4_; have HO563 := n5_; have HO567 := n6_; have HO570 := n7_; have BK538 := n8_; have BK564 := n9_; have HB := n10_; clear n0_ n1_ n2_ n3_ n4_ n5_ n6_ n7_ n8_ n9_ n10_; (try clear hb); (try clear hb2); (try clear hk); (try clear hi); (try clear ho0); (try clear ho1)))
   (try simp only [Act.put, List.setIfInBounds_toArray, List.set_cons_zero, List.set_cons_succ])
   go_cut [64] (fun v64 wc => ∃ (kq : Nat) (x64_16 : Bool), v64 = .bool x64_16 ∧ Aside0 (laws_FnExactAskFor.j0 kq l0 t549 t552 t555 t556 t565 t568 t571 x64_16 a1_0 a1_1 l1_2 t559 t560 t561 = some r) ∧ Aside0 (kq ≤ k) ∧ Aside0 (Kd.R (Kd.int .i64) 3 wc w.heap.size (fun k_ => some k_ ≠ (v566 : Value).ownBlock) v550 t549) ∧ Aside0 (Kd.R k104 104 wc w.heap.size (fun k_ => some k_ ≠ ((.slice Ao34 t556.length co34) : Value).ownBlock ∧ some k_ ≠ (v569 : Value).ownBlock ∧ some k_ ≠ ((.slice Ao33 t561.length co33) : Value).ownBlock) v553 t552) ∧ Aside0 (Kd.R k104 104 wc w.heap.size (fun k_ => some k_ ≠ (v553 : Value).ownBlock ∧ some k_ ≠ (v569 : Value).ownBlock ∧ some k_ ≠ ((.slice Ao33 t561.length co33) : Value).ownBlock) (.slice Ao34 t556.length co34) t556) ∧ Aside0 (Kd.R (Kd.int .i64) 3 wc w.heap.size (fun k_ => some k_ ≠ (v550 : Value).ownBlock) v566 t565) ∧ Aside0 (Kd.R k104 104 wc w.heap.size (fun k_ => some k_ ≠ (v553 : Value).ownBlock ∧ some k_ ≠ ((.slice Ao34 t556.length co34) : Value).ownBlock ∧ some k_ ≠ ((.slice Ao33 t561.length co33) : Value).ownBlock) v569 t568) ∧ Aside0 (Kd.R k104 104 wc w.heap.size (fun k_ => some k_ ≠ (v553 : Value).ownBlock ∧ some k_ ≠ ((.slice Ao34 t556.length co34) : Value).ownBlock ∧ some k_ ≠ (v569 : Value).ownBlock) (.slice Ao33 t561.length co33) t561) ∧ Aside0 (wc.heap[gb538]? = some (.cells #[.int .i64 a1_0, .int .i64 a1_1, (.slice A1_2 l1_2.length c1_2)] 42 (0, 0))) ∧ Aside0 (wc.heap[gb564]? = some (.cells #[.int .i64 t559, .int .i64 t560, (.slice Ao33 t561.length co33)] 50 (0, 0))) ∧ Aside0 (Below w.heap.size w wc))
   case first =>
    have H := HC17.out
    clear HC17
    replace H := Option.bind_eq_some_iff.mp H
    obtain ⟨t572, A360, H⟩ := H
    replace H : (if t572 = true then ((laws_eqHaveS.f k t568 t552).bind fun t573 => (if t573 = true then (laws_FnExactAskFor.j0 k l0 t549 t552 t555 t556 t565 t568 t571 (t571 != t555) a1_0 a1_1 l1_2 t559 t560 t561) else (laws_FnExactAskFor.j0 k l0 t549 t552 t555 t556 t565 t568 t571 true a1_0 a1_1 l1_2 t559 t560 t561))) else (laws_FnExactAskFor.j0 k l0 t549 t552 t555 t556 t565 t568 t571 true a1_0 a1_1 l1_2 t559 t560 t561)) = some r := H
    have A36 := Aside0.mk A360
    clear A360
    by_cases c37 : t572 = true
    ·subst c37
     have H1 : ((laws_eqHaveS.f k t568 t552).bind fun t573 => (if t573 = true then (laws_FnExactAskFor.j0 k l0 t549 t552 t555 t556 t565 t568 t571 (t571 != t555) a1_0 a1_1 l1_2 t559 t560 t561) else (laws_FnExactAskFor.j0 k l0 t549 t552 t555 t556 t565 t568 t571 true a1_0 a1_1 l1_2 t559 t560 t561))) = some r := by rw [if_pos rfl] at H; exact H
     clear H
     have H := H1
     clear H1
     replace H := Option.bind_eq_some_iff.mp H
     obtain ⟨t573, A380, H⟩ := H
     replace H : (if t573 = true then (laws_FnExactAskFor.j0 k l0 t549 t552 t555 t556 t565 t568 t571 (t571 != t555) a1_0 a1_1 l1_2 t559 t560 t561) else (laws_FnExactAskFor.j0 k l0 t549 t552 t555 t556 t565 t568 t571 true a1_0 a1_1 l1_2 t559 t560 t561)) = some r := H
     have A38 := Aside0.mk A380
     clear A380
     by_cases c39 : t573 = true
     ·subst c39
      have H1 : (laws_FnExactAskFor.j0 k l0 t549 t552 t555 t556 t565 t568 t571 (t571 != t555) a1_0 a1_1 l1_2 t559 t560 t561) = some r := by rw [if_pos rfl] at H; exact H
      clear H
      have H := H1
      clear H1
      have H' := Aside0.mk H
      clear H
      obtain ⟨Ao40, co40, eo40⟩ := Kd.R_slice HO567.out
      subst eo40
      obtain ⟨Ao41, co41, eo41⟩ := Kd.R_slice HO551.out
      subst eo41
      go_wp2_with (first | ((with_reducible refine gate_callee (f := 21) rfl ?_); refine goesL_ (some 52) rfl rfl Try.func21 (by kernel_rfl) rfl #[.slice Ao40 t565.length co40, .slice Ao41 t549.length co41] rfl (by (try simp only [List.map_toArray, List.map_cons, List.map_nil]); first | done | rfl | (simp only [List.length_drop, List.length_take]; rfl)) ?_; (with_reducible refine (laws_eqIntS.calls k _ _ t565 _ _ t549 true _ ?side1 ?side2 ?side3 ?side4 A36.out).mono ?_); (case side1 => repeat (first | exact (Kd.R_reads' HO567.out).2.2 | (with_reducible refine Kd.C_alloc ?_ _) | (with_reducible refine Kd.C_drewN ?_ _) | (with_reducible refine Kd.C_drew ?_))); (case side2 => exact (Kd.R_reads' HO567.out).2.1); (case side3 => repeat (first | exact (Kd.R_reads' HO551.out).2.2 | (with_reducible refine Kd.C_alloc ?_ _) | (with_reducible refine Kd.C_drewN ?_ _) | (with_reducible refine Kd.C_drew ?_))); (case side4 => exact (Kd.R_reads' HO551.out).2.1); rintro e w' ⟨rfl, ⟨nd, rfl⟩⟩; refine ⟨_, rfl, ?_⟩; obtain ⟨Ao42, co42, eo42⟩ := Kd.R_slice HO570.out; subst eo42; obtain ⟨Ao43, co43, eo43⟩ := Kd.R_slice HO554.out; subst eo43) | (go_at_call 36; (with_reducible refine (laws_eqHaveS.calls k _ _ t568 _ _ t552 true _ ?side1 ?side2 ?side3 ?side4 A38.out).mono ?_); (case side1 => repeat (first | exact (Kd.R_reads' HO570.out).2.2 | (with_reducible refine Kd.C_alloc ?_ _) | (with_reducible refine Kd.C_drewN ?_ _) | (with_reducible refine Kd.C_drew ?_))); (case side2 => exact (Kd.R_reads' HO570.out).2.1); (case side3 => repeat (first | exact (Kd.R_reads' HO554.out).2.2 | (with_reducible refine Kd.C_alloc ?_ _) | (with_reducible refine Kd.C_drewN ?_ _) | (with_reducible refine Kd.C_drew ?_))); (case side4 => exact (Kd.R_reads' HO554.out).2.1); rintro e w44 ⟨rfl, hb⟩; have n0_ := Aside0.mk (Kd.R_below (by (with_reducible repeat (first | apply Kd.R_alloc | apply Kd.R_drewN | apply Kd.R_drew)); exact HO543.out) hb); have n1_ := Aside0.mk (Kd.R_below (by (with_reducible repeat (first | apply Kd.R_alloc | apply Kd.R_drewN | apply Kd.R_drew)); exact HO548.out) hb); have n2_ := Aside0.mk (Kd.R_below (by (with_reducible repeat (first | apply Kd.R_alloc | apply Kd.R_drewN | apply Kd.R_drew)); exact HO551.out) hb); have n3_ := Aside0.mk (Kd.R_below (by (with_reducible repeat (first | apply Kd.R_alloc | apply Kd.R_drewN | apply Kd.R_drew)); exact HO554.out) hb); have n4_ := Aside0.mk (Kd.R_below (by (with_reducible repeat (first | apply Kd.R_alloc | apply Kd.R_drewN | apply Kd.R_drew)); exact HO558.out) hb); have n5_ := Aside0.mk (Kd.R_below (by (with_reducible repeat (first | apply Kd.R_alloc | apply Kd.R_drewN | apply Kd.R_drew)); exact HO563.out) hb); have n6_ := Aside0.mk (Kd.R_below (by (with_reducible repeat (first | apply Kd.R_alloc | apply Kd.R_drewN | apply Kd.R_drew)); exact HO567.out) hb); have n7_ := Aside0.mk (Kd.R_below (by (with_reducible repeat (first | apply Kd.R_alloc | apply Kd.R_drewN | apply Kd.R_drew)); exact HO570.out) hb); have n8_ := Aside0.mk (blk_below (g := gb538) (o := .cells #[.int .i64 a1_0, .int .i64 a1_1, .slice A1_2 l1_2.length c1_2] 42 (0, 0)) (by (with_reducible repeat (first | refine blk_drewN ?_ _ | refine blk_drew ?_ | refine blk_alloc ?_ _)); exact BK538.out) hb); have n9_ := Aside0.mk (blk_below (g := gb564) (o := .cells #[.int .i64 t559, .int .i64 t560, .slice Ao33 t561.length co33] 50 (0, 0)) (by (with_reducible repeat (first | refine blk_drewN ?_ _ | refine blk_drew ?_ | refine blk_alloc ?_ _)); exact BK564.out) hb); have n10_ := Aside0.mk (below_step (by repeat (first | (with_reducible first | exact HB.out | apply below_alloc | apply pw_below_drewN | apply below_drew1 | refine below_set ?_ GE538.out | refine below_set ?_ GE564.out) | exact HB.out)) hb); clear HO543; clear HO548; clear HO551; clear HO554; clear HO558; clear HO563; clear HO567; clear HO570; clear BK538; clear BK564; clear HB; have HO543 := n0_; have HO548 := n1_; have HO551 := n2_; have HO554 := n3_; have HO558 := n4_; have HO563 := n5_; have HO567 := n6_; have HO570 := n7_; have BK538 := n8_; have BK564 := n9_; have HB := n10_; clear n0_ n1_ n2_ n3_ n4_ n5_ n6_ n7_ n8_ n9_ n10_; (try clear hb); (try clear hb2); (try clear hk); (try clear hi)))
      go_meet
      case rel => exact ⟨_, ((t571 != t555)), (by first | rfl | (simp; done) | (simp [*]; done)), H', ⟨by first | omega | exact Nat.le_refl _⟩, ⟨by (with_reducible repeat (first | apply Kd.R_alloc | apply Kd.R_drewN | apply Kd.R_drew)); exact Kd.R_mono HO551.out (fun _ hk => hk.2)⟩, ⟨by (with_reducible repeat (first | apply Kd.R_alloc | apply Kd.R_drewN | apply Kd.R_drew)); exact Kd.R_mono HO554.out (fun _ hk => ⟨hk.1.1.2, ⟨hk.2, hk.1.2⟩⟩)⟩, ⟨by (with_reducible repeat (first | apply Kd.R_alloc | apply Kd.R_drewN | apply Kd.R_drew)); exact Kd.R_mono HO558.out (fun _ hk => ⟨hk.1.1.2, ⟨hk.2, hk.1.2⟩⟩)⟩, ⟨by (with_reducible repeat (first | apply Kd.R_alloc | apply Kd.R_drewN | apply Kd.R_drew)); exact Kd.R_mono HO567.out (fun _ hk => hk.2)⟩, ⟨by (with_reducible repeat (first | apply Kd.R_alloc | apply Kd.R_drewN | apply Kd.R_drew)); exact Kd.R_mono HO570.out (fun _ hk => ⟨hk.1.1.2, ⟨hk.1.2, hk.2⟩⟩)⟩, ⟨by (with_reducible repeat (first | apply Kd.R_alloc | apply Kd.R_drewN | apply Kd.R_drew)); exact Kd.R_mono HO563.out (fun _ hk => ⟨hk.1.1.2, ⟨hk.1.2, hk.2⟩⟩)⟩, ⟨by (with_reducible repeat (first | refine blk_drewN ?_ _ | refine blk_drew ?_ | refine blk_alloc ?_ _)); exact BK538.out⟩, ⟨by (with_reducible repeat (first | refine blk_drewN ?_ _ | refine blk_drew ?_ | refine blk_alloc ?_ _)); exact BK564.out⟩, ⟨by repeat (first | (with_reducible first | exact HB.out | apply below_alloc | apply pw_below_drewN | apply below_drew1 | refine below_set ?_ GE538.out | refine below_set ?_ GE564.out) | exact HB.out)⟩⟩
     ·replace c39 := Bool.eq_false_iff.mpr c39
      subst c39
      have H1 : (laws_FnExactAskFor.j0 k l0 t549 t552 t555 t556 t565 t568 t571 true a1_0 a1_1 l1_2 t559 t560 t561) = some r := by rw [if_neg (show ¬ (false = true) by decide)] at H; exact H
      clear H
      have H := H1
      clear H1
      have H' := Aside0.mk H
      clear H
      obtain ⟨Ao45, co45, eo45⟩ := Kd.R_slice HO567.out
      subst eo45
      obtain ⟨Ao46, co46, eo46⟩ := Kd.R_slice HO551.out
      subst eo46
      go_wp2_with (first | ((with_reducible refine gate_callee (f := 21) rfl ?_); refine goesL_ (some 52) rfl rfl Try.func21 (by kernel_rfl) rfl #[.slice Ao45 t565.length co45, .slice Ao46 t549.length co46] rfl (by (try simp only [List.map_toArray, List.map_cons, List.map_nil]); first | done | rfl | (simp only [List.length_drop, List.length_take]; rfl)) ?_; (with_reducible refine (laws_eqIntS.calls k _ _ t565 _ _ t549 true _ ?side1 ?side2 ?side3 ?side4 A36.out).mono ?_); (case side1 => repeat (first | exact (Kd.R_reads' HO567.out).2.2 | (with_reducible refine Kd.C_alloc ?_ _) | (with_reducible refine Kd.C_drewN ?_ _) | (with_reducible refine Kd.C_drew ?_))); (case side2 => exact (Kd.R_reads' HO567.out).2.1); (case side3 => repeat (first | exact (Kd.R_reads' HO551.out).2.2 | (with_reducible refine Kd.C_alloc ?_ _) | (with_reducible refine Kd.C_drewN ?_ _) | (with_reducible refine Kd.C_drew ?_))); (case side4 => exact (Kd.R_reads' HO551.out).2.1); rintro e w' ⟨rfl, ⟨nd, rfl⟩⟩; refine ⟨_, rfl, ?_⟩; obtain ⟨Ao47, co47, eo47⟩ := Kd.R_slice HO570.out; subst eo47; obtain ⟨Ao48, co48, eo48⟩ := Kd.R_slice HO554.out; subst eo48) | (go_at_call 36; (with_reducible refine (laws_eqHaveS.calls k _ _ t568 _ _ t552 false _ ?side1 ?side2 ?side3 ?side4 A38.out).mono ?_); (case side1 => repeat (first | exact (Kd.R_reads' HO570.out).2.2 | (with_reducible refine Kd.C_alloc ?_ _) | (with_reducible refine Kd.C_drewN ?_ _) | (with_reducible refine Kd.C_drew ?_))); (case side2 => exact (Kd.R_reads' HO570.out).2.1); (case side3 => repeat (first | exact (Kd.R_reads' HO554.out).2.2 | (with_reducible refine Kd.C_alloc ?_ _) | (with_reducible refine Kd.C_drewN ?_ _) | (with_reducible refine Kd.C_drew ?_))); (case side4 => exact (Kd.R_reads' HO554.out).2.1); rintro e w49 ⟨rfl, hb⟩; have n0_ := Aside0.mk (Kd.R_below (by (with_reducible repeat (first | apply Kd.R_alloc | apply Kd.R_drewN | apply Kd.R_drew)); exact HO543.out) hb); have n1_ := Aside0.mk (Kd.R_below (by (with_reducible repeat (first | apply Kd.R_alloc | apply Kd.R_drewN | apply Kd.R_drew)); exact HO548.out) hb); have n2_ := Aside0.mk (Kd.R_below (by (with_reducible repeat (first | apply Kd.R_alloc | apply Kd.R_drewN | apply Kd.R_drew)); exact HO551.out) hb); have n3_ := Aside0.mk (Kd.R_below (by (with_reducible repeat (first | apply Kd.R_alloc | apply Kd.R_drewN | apply Kd.R_drew)); exact HO554.out) hb); have n4_ := Aside0.mk (Kd.R_below (by (with_reducible repeat (first | apply Kd.R_alloc | apply Kd.R_drewN | apply Kd.R_drew)); exact HO558.out) hb); have n5_ := Aside0.mk (Kd.R_below (by (with_reducible repeat (first | apply Kd.R_alloc | apply Kd.R_drewN | apply Kd.R_drew)); exact HO563.out) hb); have n6_ := Aside0.mk (Kd.R_below (by (with_reducible repeat (first | apply Kd.R_alloc | apply Kd.R_drewN | apply Kd.R_drew)); exact HO567.out) hb); have n7_ := Aside0.mk (Kd.R_below (by (with_reducible repeat (first | apply Kd.R_alloc | apply Kd.R_drewN | apply Kd.R_drew)); exact HO570.out) hb); have n8_ := Aside0.mk (blk_below (g := gb538) (o := .cells #[.int .i64 a1_0, .int .i64 a1_1, .slice A1_2 l1_2.length c1_2] 42 (0, 0)) (by (with_reducible repeat (first | refine blk_drewN ?_ _ | refine blk_drew ?_ | refine blk_alloc ?_ _)); exact BK538.out) hb); have n9_ := Aside0.mk (blk_below (g := gb564) (o := .cells #[.int .i64 t559, .int .i64 t560, .slice Ao33 t561.length co33] 50 (0, 0)) (by (with_reducible repeat (first | refine blk_drewN ?_ _ | refine blk_drew ?_ | refine blk_alloc ?_ _)); exact BK564.out) hb); have n10_ := Aside0.mk (below_step (by repeat (first | (with_reducible first | exact HB.out | apply below_alloc | apply pw_below_drewN | apply below_drew1 | refine below_set ?_ GE538.out | refine below_set ?_ GE564.out) | exact HB.out)) hb); clear HO543; clear HO548; clear HO551; clear HO554; clear HO558; clear HO563; clear HO567; clear HO570; clear BK538; clear BK564; clear HB; have HO543 := n0_; have HO548 := n1_; have HO551 := n2_; have HO554 := n3_; have HO558 := n4_; have HO563 := n5_; have HO567 := n6_; have HO570 := n7_; have BK538 := n8_; have BK564 := n9_; have HB := n10_; clear n0_ n1_ n2_ n3_ n4_ n5_ n6_ n7_ n8_ n9_ n10_; (try clear hb); (try clear hb2); (try clear hk); (try clear hi)))
      go_meet
      case rel => exact ⟨_, (true), (by first | rfl | (simp; done) | (simp [*]; done)), H', ⟨by first | omega | exact Nat.le_refl _⟩, ⟨by (with_reducible repeat (first | apply Kd.R_alloc | apply Kd.R_drewN | apply Kd.R_drew)); exact Kd.R_mono HO551.out (fun _ hk => hk.2)⟩, ⟨by (with_reducible repeat (first | apply Kd.R_alloc | apply Kd.R_drewN | apply Kd.R_drew)); exact Kd.R_mono HO554.out (fun _ hk => ⟨hk.1.1.2, ⟨hk.2, hk.1.2⟩⟩)⟩, ⟨by (with_reducible repeat (first | apply Kd.R_alloc | apply Kd.R_drewN | apply Kd.R_drew)); exact Kd.R_mono HO558.out (fun _ hk => ⟨hk.1.1.2, ⟨hk.2, hk.1.2⟩⟩)⟩, ⟨by (with_reducible repeat (first | apply Kd.R_alloc | apply Kd.R_drewN | apply Kd.R_drew)); exact Kd.R_mono HO567.out (fun _ hk => hk.2)⟩, ⟨by (with_reducible repeat (first | apply Kd.R_alloc | apply Kd.R_drewN | apply Kd.R_drew)); exact Kd.R_mono HO570.out (fun _ hk => ⟨hk.1.1.2, ⟨hk.1.2, hk.2⟩⟩)⟩, ⟨by (with_reducible repeat (first | apply Kd.R_alloc | apply Kd.R_drewN | apply Kd.R_drew)); exact Kd.R_mono HO563.out (fun _ hk => ⟨hk.1.1.2, ⟨hk.1.2, hk.2⟩⟩)⟩, ⟨by (with_reducible repeat (first | refine blk_drewN ?_ _ | refine blk_drew ?_ | refine blk_alloc ?_ _)); exact BK538.out⟩, ⟨by (with_reducible repeat (first | refine blk_drewN ?_ _ | refine blk_drew ?_ | refine blk_alloc ?_ _)); exact BK564.out⟩, ⟨by repeat (first | (with_reducible first | exact HB.out | apply below_alloc | apply pw_below_drewN | apply below_drew1 | refine below_set ?_ GE538.out | refine below_set ?_ GE564.out) | exact HB.out)⟩⟩
    ·replace c37 := Bool.eq_false_iff.mpr c37
     subst c37
     have H1 : (laws_FnExactAskFor.j0 k l0 t549 t552 t555 t556 t565 t568 t571 true a1_0 a1_1 l1_2 t559 t560 t561) = some r := by rw [if_neg (show ¬ (false = true) by decide)] at H; exact H
     clear H
     have H := H1
     clear H1
     have H' := Aside0.mk H
     clear H
     obtain ⟨Ao50, co50, eo50⟩ := Kd.R_slice HO567.out
     subst eo50
     obtain ⟨Ao51, co51, eo51⟩ := Kd.R_slice HO551.out
     subst eo51
     go_wp2_with (first | ((with_reducible refine gate_callee (f := 21) rfl ?_); refine goesL_ (some 52) rfl rfl Try.func21 (by kernel_rfl) rfl #[.slice Ao50 t565.length co50, .slice Ao51 t549.length co51] rfl (by (try simp only [List.map_toArray, List.map_cons, List.map_nil]); first | done | rfl | (simp only [List.length_drop, List.length_take]; rfl)) ?_; (with_reducible refine (laws_eqIntS.calls k _ _ t565 _ _ t549 false _ ?side1 ?side2 ?side3 ?side4 A36.out).mono ?_); (case side1 => repeat (first | exact (Kd.R_reads' HO567.out).2.2 | (with_reducible refine Kd.C_alloc ?_ _) | (with_reducible refine Kd.C_drewN ?_ _) | (with_reducible refine Kd.C_drew ?_))); (case side2 => exact (Kd.R_reads' HO567.out).2.1); (case side3 => repeat (first | exact (Kd.R_reads' HO551.out).2.2 | (with_reducible refine Kd.C_alloc ?_ _) | (with_reducible refine Kd.C_drewN ?_ _) | (with_reducible refine Kd.C_drew ?_))); (case side4 => exact (Kd.R_reads' HO551.out).2.1); rintro e w' ⟨rfl, ⟨nd, rfl⟩⟩; refine ⟨_, rfl, ?_⟩))
     go_meet
     case rel => exact ⟨_, (true), (by first | rfl | (simp; done) | (simp [*]; done)), H', ⟨by first | omega | exact Nat.le_refl _⟩, ⟨by (with_reducible repeat (first | apply Kd.R_alloc | apply Kd.R_drewN | apply Kd.R_drew)); exact Kd.R_mono HO551.out (fun _ hk => hk.2)⟩, ⟨by (with_reducible repeat (first | apply Kd.R_alloc | apply Kd.R_drewN | apply Kd.R_drew)); exact Kd.R_mono HO554.out (fun _ hk => ⟨hk.1.1.2, ⟨hk.2, hk.1.2⟩⟩)⟩, ⟨by (with_reducible repeat (first | apply Kd.R_alloc | apply Kd.R_drewN | apply Kd.R_drew)); exact Kd.R_mono HO558.out (fun _ hk => ⟨hk.1.1.2, ⟨hk.2, hk.1.2⟩⟩)⟩, ⟨by (with_reducible repeat (first | apply Kd.R_alloc | apply Kd.R_drewN | apply Kd.R_drew)); exact Kd.R_mono HO567.out (fun _ hk => hk.2)⟩, ⟨by (with_reducible repeat (first | apply Kd.R_alloc | apply Kd.R_drewN | apply Kd.R_drew)); exact Kd.R_mono HO570.out (fun _ hk => ⟨hk.1.1.2, ⟨hk.1.2, hk.2⟩⟩)⟩, ⟨by (with_reducible repeat (first | apply Kd.R_alloc | apply Kd.R_drewN | apply Kd.R_drew)); exact Kd.R_mono HO563.out (fun _ hk => ⟨hk.1.1.2, ⟨hk.1.2, hk.2⟩⟩)⟩, ⟨by (with_reducible repeat (first | refine blk_drewN ?_ _ | refine blk_drew ?_ | refine blk_alloc ?_ _)); exact BK538.out⟩, ⟨by (with_reducible repeat (first | refine blk_drewN ?_ _ | refine blk_drew ?_ | refine blk_alloc ?_ _)); exact BK564.out⟩, ⟨by repeat (first | (with_reducible first | exact HB.out | apply below_alloc | apply pw_below_drewN | apply below_drew1 | refine below_set ?_ GE538.out | refine below_set ?_ GE564.out) | exact HB.out)⟩⟩
   case rest =>
    clear HC17
    try clear c1
    try clear c2
    try clear p2
    try clear c3
    try clear c4
    try clear c4b0
    try clear c6
    try clear c7
    try clear c7b0
    try clear c21
    try clear c30
    try clear c31
    try clear c32
    try clear c33
    try clear c34
    try clear c35
    try clear c37
    try clear c39
    try clear hcz19_0
    try clear hcz19_1
    try clear hcz19_2
    try clear hcz28_0
    try clear hcz28_1
    try clear hcz28_2
    try clear hcz32_0
    try clear hcz32_1
    try clear hcz32_2
    try clear hcz9_0
    try clear hcz9_1
    try clear hcz9_2
    try clear hfz19_0
    try clear hfz19_1
    try clear hfz19_2
    try clear hfz28_0
    try clear hfz28_1
    try clear hfz28_2
    try clear hfz32_0
    try clear hfz32_1
    try clear hfz32_2
    try clear hfz9_0
    try clear hfz9_1
    try clear hfz9_2
    obtain ⟨kq, x64_16, rfl, HA, HJ16, HO_6, HO_7, HO_9, HO_11, HO_12, HO_565002, BK538, BK564, HB⟩ := hcut
    cases kq with
    | zero => exact absurd HA.out (by simp [laws_FnExactAskFor.j0])
    | succ kj16 =>
     have H := HA.out
     clear HA
     simp only [laws_FnExactAskFor.j0] at H
     by_cases c52 : x64_16 = true
     ·subst c52
      have H1 : (some false) = some r := by rw [if_pos rfl] at H; exact H
      clear H
      have H := H1
      clear H1
      obtain rfl := Option.some.inj H
      go_wp2
      go_ret
      exact ⟨by first | rfl | (simp [errW_none, errW_some] <;> rfl) | (simp [*, errW_none, errW_some] <;> rfl), by repeat (first | (with_reducible first | exact HB.out | apply below_alloc | apply pw_below_drewN | apply below_drew1 | refine below_set ?_ GE538.out | refine below_set ?_ GE564.out) | exact HB.out)⟩
     ·replace c52 := Bool.eq_false_iff.mpr c52
      subst c52
      have H1 : ((laws_toHaveS.f kj16 l0).bind fun t574 => ((laws_eqHaveS.f kj16 t556 t574).bind fun t577 => (if t577 = true then ((laws_toSummary.f kj16 a1_0 a1_1 l1_2).bind fun bt578 => ((laws_eqSummary.f kj16 t559 t560 t561 bt578.1 bt578.2.1 bt578.2.2).bind fun t583 => (if t583 = true then ((laws_markHaveS.f kj16 t556 1).bind fun bt584 => ((laws_markSummary.f kj16 t559 t560 t561 bt584.1).bind fun bt586 => (if bt586.1 < 0 then (laws_FnExactAskFor.j1 kj16 l0 t549 t552 t555 t565 t568 true a1_0 a1_1 l1_2) else ((laws_eqIntS.f kj16 t565 t549).bind fun t588 => (if t588 = true then ((laws_eqHaveS.f kj16 t568 t552).bind fun t589 => (if t589 = true then (laws_FnExactAskFor.j1 kj16 l0 t549 t552 t555 t565 t568 (t571 != t555) a1_0 a1_1 l1_2) else (laws_FnExactAskFor.j1 kj16 l0 t549 t552 t555 t565 t568 true a1_0 a1_1 l1_2))) else (laws_FnExactAskFor.j1 kj16 l0 t549 t552 t555 t565 t568 true a1_0 a1_1 l1_2)))))) else (some false)))) else (some false)))) = some r := by rw [if_neg (show ¬ (false = true) by decide)] at H; exact H
      clear H
      have H := H1
      clear H1
      replace H := Option.bind_eq_some_iff.mp H
      obtain ⟨t574, A530, H⟩ := H
      replace H : ((laws_eqHaveS.f kj16 t556 t574).bind fun t577 => (if t577 = true then ((laws_toSummary.f kj16 a1_0 a1_1 l1_2).bind fun bt578 => ((laws_eqSummary.f kj16 t559 t560 t561 bt578.1 bt578.2.1 bt578.2.2).bind fun t583 => (if t583 = true then ((laws_markHaveS.f kj16 t556 1).bind fun bt584 => ((laws_markSummary.f kj16 t559 t560 t561 bt584.1).bind fun bt586 => (if bt586.1 < 0 then (laws_FnExactAskFor.j1 kj16 l0 t549 t552 t555 t565 t568 true a1_0 a1_1 l1_2) else ((laws_eqIntS.f kj16 t565 t549).bind fun t588 => (if t588 = true then ((laws_eqHaveS.f kj16 t568 t552).bind fun t589 => (if t589 = true then (laws_FnExactAskFor.j1 kj16 l0 t549 t552 t555 t565 t568 (t571 != t555) a1_0 a1_1 l1_2) else (laws_FnExactAskFor.j1 kj16 l0 t549 t552 t555 t565 t568 true a1_0 a1_1 l1_2))) else (laws_FnExactAskFor.j1 kj16 l0 t549 t552 t555 t565 t568 true a1_0 a1_1 l1_2)))))) else (some false)))) else (some false))) = some r := H
      have A53 := Aside0.mk A530
      clear A530
      replace H := Option.bind_eq_some_iff.mp H
      obtain ⟨t577, A540, H⟩ := H
      replace H : (if t577 = true then ((laws_toSummary.f kj16 a1_0 a1_1 l1_2).bind fun bt578 => ((laws_eqSummary.f kj16 t559 t560 t561 bt578.1 bt578.2.1 bt578.2.2).bind fun t583 => (if t583 = true then ((laws_markHaveS.f kj16 t556 1).bind fun bt584 => ((laws_markSummary.f kj16 t559 t560 t561 bt584.1).bind fun bt586 => (if bt586.1 < 0 then (laws_FnExactAskFor.j1 kj16 l0 t549 t552 t555 t565 t568 true a1_0 a1_1 l1_2) else ((laws_eqIntS.f kj16 t565 t549).bind fun t588 => (if t588 = true then ((laws_eqHaveS.f kj16 t568 t552).bind fun t589 => (if t589 = true then (laws_FnExactAskFor.j1 kj16 l0 t549 t552 t555 t565 t568 (t571 != t555) a1_0 a1_1 l1_2) else (laws_FnExactAskFor.j1 kj16 l0 t549 t552 t555 t565 t568 true a1_0 a1_1 l1_2))) else (laws_FnExactAskFor.j1 kj16 l0 t549 t552 t555 t565 t568 true a1_0 a1_1 l1_2)))))) else (some false)))) else (some false)) = some r := H
      have A54 := Aside0.mk A540
      clear A540
      by_cases c55 : t577 = true
      ·subst c55
       have H1 : ((laws_toSummary.f kj16 a1_0 a1_1 l1_2).bind fun bt578 => ((laws_eqSummary.f kj16 t559 t560 t561 bt578.1 bt578.2.1 bt578.2.2).bind fun t583 => (if t583 = true then ((laws_markHaveS.f kj16 t556 1).bind fun bt584 => ((laws_markSummary.f kj16 t559 t560 t561 bt584.1).bind fun bt586 => (if bt586.1 < 0 then (laws_FnExactAskFor.j1 kj16 l0 t549 t552 t555 t565 t568 true a1_0 a1_1 l1_2) else ((laws_eqIntS.f kj16 t565 t549).bind fun t588 => (if t588 = true then ((laws_eqHaveS.f kj16 t568 t552).bind fun t589 => (if t589 = true then (laws_FnExactAskFor.j1 kj16 l0 t549 t552 t555 t565 t568 (t571 != t555) a1_0 a1_1 l1_2) else (laws_FnExactAskFor.j1 kj16 l0 t549 t552 t555 t565 t568 true a1_0 a1_1 l1_2))) else (laws_FnExactAskFor.j1 kj16 l0 t549 t552 t555 t565 t568 true a1_0 a1_1 l1_2)))))) else (some false)))) = some r := by rw [if_pos rfl] at H; exact H
       clear H
       have H := H1
       clear H1
       replace H := Option.bind_eq_some_iff.mp H
       obtain ⟨⟨t578, t579, t580⟩, A560, H⟩ := H
       replace H : ((laws_eqSummary.f kj16 t559 t560 t561 t578 t579 t580).bind fun t583 => (if t583 = true then ((laws_markHaveS.f kj16 t556 1).bind fun bt584 => ((laws_markSummary.f kj16 t559 t560 t561 bt584.1).bind fun bt586 => (if bt586.1 < 0 then (laws_FnExactAskFor.j1 kj16 l0 t549 t552 t555 t565 t568 true a1_0 a1_1 l1_2) else ((laws_eqIntS.f kj16 t565 t549).bind fun t588 => (if t588 = true then ((laws_eqHaveS.f kj16 t568 t552).bind fun t589 => (if t589 = true then (laws_FnExactAskFor.j1 kj16 l0 t549 t552 t555 t565 t568 (t571 != t555) a1_0 a1_1 l1_2) else (laws_FnExactAskFor.j1 kj16 l0 t549 t552 t555 t565 t568 true a1_0 a1_1 l1_2))) else (laws_FnExactAskFor.j1 kj16 l0 t549 t552 t555 t565 t568 true a1_0 a1_1 l1_2)))))) else (some false))) = some r := H
       have A56 := Aside0.mk A560
       clear A560
       replace H := Option.bind_eq_some_iff.mp H
       obtain ⟨t583, A570, H⟩ := H
       replace H : (if t583 = true then ((laws_markHaveS.f kj16 t556 1).bind fun bt584 => ((laws_markSummary.f kj16 t559 t560 t561 bt584.1).bind fun bt586 => (if bt586.1 < 0 then (laws_FnExactAskFor.j1 kj16 l0 t549 t552 t555 t565 t568 true a1_0 a1_1 l1_2) else ((laws_eqIntS.f kj16 t565 t549).bind fun t588 => (if t588 = true then ((laws_eqHaveS.f kj16 t568 t552).bind fun t589 => (if t589 = true then (laws_FnExactAskFor.j1 kj16 l0 t549 t552 t555 t565 t568 (t571 != t555) a1_0 a1_1 l1_2) else (laws_FnExactAskFor.j1 kj16 l0 t549 t552 t555 t565 t568 true a1_0 a1_1 l1_2))) else (laws_FnExactAskFor.j1 kj16 l0 t549 t552 t555 t565 t568 true a1_0 a1_1 l1_2)))))) else (some false)) = some r := H
       have A57 := Aside0.mk A570
       clear A570
       by_cases c58 : t583 = true
       ·subst c58
        have H1 : ((laws_markHaveS.f kj16 t556 1).bind fun bt584 => ((laws_markSummary.f kj16 t559 t560 t561 bt584.1).bind fun bt586 => (if bt586.1 < 0 then (laws_FnExactAskFor.j1 kj16 l0 t549 t552 t555 t565 t568 true a1_0 a1_1 l1_2) else ((laws_eqIntS.f kj16 t565 t549).bind fun t588 => (if t588 = true then ((laws_eqHaveS.f kj16 t568 t552).bind fun t589 => (if t589 = true then (laws_FnExactAskFor.j1 kj16 l0 t549 t552 t555 t565 t568 (t571 != t555) a1_0 a1_1 l1_2) else (laws_FnExactAskFor.j1 kj16 l0 t549 t552 t555 t565 t568 true a1_0 a1_1 l1_2))) else (laws_FnExactAskFor.j1 kj16 l0 t549 t552 t555 t565 t568 true a1_0 a1_1 l1_2)))))) = some r := by rw [if_pos rfl] at H; exact H
        clear H
        have H := H1
        clear H1
        replace H := Option.bind_eq_some_iff.mp H
        obtain ⟨⟨t584, t585⟩, A590, H⟩ := H
        replace H : ((laws_markSummary.f kj16 t559 t560 t561 t584).bind fun bt586 => (if bt586.1 < 0 then (laws_FnExactAskFor.j1 kj16 l0 t549 t552 t555 t565 t568 true a1_0 a1_1 l1_2) else ((laws_eqIntS.f kj16 t565 t549).bind fun t588 => (if t588 = true then ((laws_eqHaveS.f kj16 t568 t552).bind fun t589 => (if t589 = true then (laws_FnExactAskFor.j1 kj16 l0 t549 t552 t555 t565 t568 (t571 != t555) a1_0 a1_1 l1_2) else (laws_FnExactAskFor.j1 kj16 l0 t549 t552 t555 t565 t568 true a1_0 a1_1 l1_2))) else (laws_FnExactAskFor.j1 kj16 l0 t549 t552 t555 t565 t568 true a1_0 a1_1 l1_2))))) = some r := H
        have A59 := Aside0.mk A590
        clear A590
        replace H := Option.bind_eq_some_iff.mp H
        obtain ⟨⟨t586, t587⟩, A600, H⟩ := H
        replace H : (if t586 < 0 then (laws_FnExactAskFor.j1 kj16 l0 t549 t552 t555 t565 t568 true a1_0 a1_1 l1_2) else ((laws_eqIntS.f kj16 t565 t549).bind fun t588 => (if t588 = true then ((laws_eqHaveS.f kj16 t568 t552).bind fun t589 => (if t589 = true then (laws_FnExactAskFor.j1 kj16 l0 t549 t552 t555 t565 t568 (t571 != t555) a1_0 a1_1 l1_2) else (laws_FnExactAskFor.j1 kj16 l0 t549 t552 t555 t565 t568 true a1_0 a1_1 l1_2))) else (laws_FnExactAskFor.j1 kj16 l0 t549 t552 t555 t565 t568 true a1_0 a1_1 l1_2)))) = some r := H
        have A60 := Aside0.mk A600
        clear A600
        have HC61 := Aside0.mk H
        clear H
        try go_wp2_with (first | ((with_reducible refine gate_callee (f := 33) rfl ?_); refine goesL_ (some 67) rfl rfl Try.func33 (by kernel_rfl) rfl #[.slice A0 l0.length c0] rfl (by (try simp only [List.map_toArray, List.map_cons, List.map_nil]); first | done | rfl | (simp only [List.length_drop, List.length_take]; rfl)) ?_; (with_reducible refine (laws_toHaveS.calls kj16 _ _ l0 t574 _ ?side1 ?side2 A53.out).mono ?_); (case side1 => repeat (first | exact (Kd.C_below HR0.out HB.out) | (with_reducible refine Kd.C_alloc ?_ _) | (with_reducible refine Kd.C_drewN ?_ _) | (with_reducible refine Kd.C_drew ?_))); (case side2 => exact HC0.out); rintro e w62 ⟨v575, rfl, ho0, hb⟩; refine ⟨_, rfl, ?_⟩; have n0_ := Aside0.mk (Kd.R_below (by (with_reducible repeat (first | apply Kd.R_alloc | apply Kd.R_drewN | apply Kd.R_drew)); exact HO_6.out) hb); have n1_ := Aside0.mk (Kd.R_elder' (by (with_reducible repeat (first | apply Kd.R_alloc | apply Kd.R_drewN | apply Kd.R_drew)); exact HO_7.out) (Kd.R_base ho0) hb); have n2_ := Aside0.mk (Kd.R_elder' (by (with_reducible repeat (first | apply Kd.R_alloc | apply Kd.R_drewN | apply Kd.R_drew)); exact HO_9.out) (Kd.R_base ho0) hb); have n3_ := Aside0.mk (Kd.R_below (by (with_reducible repeat (first | apply Kd.R_alloc | apply Kd.R_drewN | apply Kd.R_drew)); exact HO_11.out) hb); have n4_ := Aside0.mk (Kd.R_elder' (by (with_reducible repeat (first | apply Kd.R_alloc | apply Kd.R_drewN | apply Kd.R_drew)); exact HO_12.out) (Kd.R_base ho0) hb); have n5_ := Aside0.mk (Kd.R_elder' (by (with_reducible repeat (first | apply Kd.R_alloc | apply Kd.R_drewN | apply Kd.R_drew)); exact HO_565002.out) (Kd.R_base ho0) hb); have n6_ := Aside0.mk (Kd.R_lower (Kd.R_new' (Kd.R_new' (Kd.R_new' (Kd.R_new' ho0 (Kd.R_lt (by (with_reducible repeat (first | apply Kd.R_alloc | apply Kd.R_drewN | apply Kd.R_drew)); exact HO_7.out))) (Kd.R_lt (by (with_reducible repeat (first | apply Kd.R_alloc | apply Kd.R_drewN | apply Kd.R_drew)); exact HO_9.out))) (Kd.R_lt (by (with_reducible repeat (first | apply Kd.R_alloc | apply Kd.R_drewN | apply Kd.R_drew)); exact HO_12.out))) (Kd.R_lt (by (with_reducible repeat (first | apply Kd.R_alloc | apply Kd.R_drewN | apply Kd.R_drew)); exact HO_565002.out))) (below_size (by repeat (first | (with_reducible first | exact HB.out | apply below_alloc | apply pw_below_drewN | apply below_drew1 | refine below_set ?_ GE538.out | refine below_set ?_ GE564.out) | exact HB.out)))); have n7_ := Aside0.mk (blk_below (g := gb538) (o := .cells #[.int .i64 a1_0, .int .i64 a1_1, .slice A1_2 l1_2.length c1_2] 42 (0, 0)) (by (with_reducible repeat (first | refine blk_drewN ?_ _ | refine blk_drew ?_ | refine blk_alloc ?_ _)); exact BK538.out) hb); have n8_ := Aside0.mk (blk_below (g := gb564) (o := .cells #[.int .i64 t559, .int .i64 t560, .slice Ao33 t561.length co33] 50 (0, 0)) (by (with_reducible repeat (first | refine blk_drewN ?_ _ | refine blk_drew ?_ | refine blk_alloc ?_ _)); exact BK564.out) hb); have n9_ := Aside0.mk (below_step (by repeat (first | (with_reducible first | exact HB.out | apply below_alloc | apply pw_below_drewN | apply below_drew1 | refine below_set ?_ GE538.out | refine below_set ?_ GE564.out) | exact HB.out)) hb); clear HO_6; clear HO_7; clear HO_9; clear HO_11; clear HO_12; clear HO_565002; clear BK538; clear BK564; clear HB; have HO_6 := n0_; have HO_7 := n1_; have HO_9 := n2_; have HO_11 := n3_; have HO_12 := n4_; have HO_565002 := n5_; have HO576 := n6_; have BK538 := n7_; have BK564 := n8_; have HB := n9_; clear n0_ n1_ n2_ n3_ n4_ n5_ n6_ n7_ n8_ n9_; (try clear hb); (try clear hb2); (try clear hk); (try clear hi); (try clear ho0); obtain ⟨Ao63, co63, eo63⟩ := Kd.R_slice HO576.out; subst eo63) | ((with_reducible refine gate_callee (f := 36) rfl ?_); refine goesL_ (some 68) rfl rfl Try.func36 (by kernel_rfl) rfl #[.slice Ao34 t556.length co34, .slice Ao63 t574.length co63] rfl (by (try simp only [List.map_toArray, List.map_cons, List.map_nil]); first | done | rfl | (simp only [List.length_drop, List.length_take]; rfl)) ?_; (with_reducible refine (laws_eqHaveS.calls kj16 _ _ t556 _ _ t574 true _ ?side1 ?side2 ?side3 ?side4 A54.out).mono ?_); (case side1 => repeat (first | exact (Kd.R_reads' HO_9.out).2.2 | (with_reducible refine Kd.C_alloc ?_ _) | (with_reducible refine Kd.C_drewN ?_ _) | (with_reducible refine Kd.C_drew ?_))); (case side2 => exact (Kd.R_reads' HO_9.out).2.1); (case side3 => repeat (first | exact (Kd.R_reads' HO576.out).2.2 | (with_reducible refine Kd.C_alloc ?_ _) | (with_reducible refine Kd.C_drewN ?_ _) | (with_reducible refine Kd.C_drew ?_))); (case side4 => exact (Kd.R_reads' HO576.out).2.1); rintro e w64 ⟨rfl, hb⟩; refine ⟨_, rfl, ?_⟩; have n0_ := Aside0.mk (Kd.R_below (by (with_reducible repeat (first | apply Kd.R_alloc | apply Kd.R_drewN | apply Kd.R_drew)); exact HO_6.out) hb); have n1_ := Aside0.mk (Kd.R_below (by (with_reducible repeat (first | apply Kd.R_alloc | apply Kd.R_drewN | apply Kd.R_drew)); exact HO_7.out) hb); have n2_ := Aside0.mk (Kd.R_below (by (with_reducible repeat (first | apply Kd.R_alloc | apply Kd.R_drewN | apply Kd.R_drew)); exact HO_9.out) hb); have n3_ := Aside0.mk (Kd.R_below (by (with_reducible repeat (first | apply Kd.R_alloc | apply Kd.R_drewN | apply Kd.R_drew)); exact HO_11.out) hb); have n4_ := Aside0.mk (Kd.R_below (by (with_reducible repeat (first | apply Kd.R_alloc | apply Kd.R_drewN | apply Kd.R_drew)); exact HO_12.out) hb); have n5_ := Aside0.mk (Kd.R_below (by (with_reducible repeat (first | apply Kd.R_alloc | apply Kd.R_drewN | apply Kd.R_drew)); exact HO_565002.out) hb); have n6_ := Aside0.mk (Kd.R_below (by (with_reducible repeat (first | apply Kd.R_alloc | apply Kd.R_drewN | apply Kd.R_drew)); exact HO576.out) hb); have n7_ := Aside0.mk (blk_below (g := gb538) (o := .cells #[.int .i64 a1_0, .int .i64 a1_1, .slice A1_2 l1_2.length c1_2] 42 (0, 0)) (by (with_reducible repeat (first | refine blk_drewN ?_ _ | refine blk_drew ?_ | refine blk_alloc ?_ _)); exact BK538.out) hb); have n8_ := Aside0.mk (blk_below (g := gb564) (o := .cells #[.int .i64 t559, .int .i64 t560, .slice Ao33 t561.length co33] 50 (0, 0)) (by (with_reducible repeat (first | refine blk_drewN ?_ _ | refine blk_drew ?_ | refine blk_alloc ?_ _)); exact BK564.out) hb); have n9_ := Aside0.mk (below_step (by repeat (first | (with_reducible first | exact HB.out | apply below_alloc | apply pw_below_drewN | apply below_drew1 | refine below_set ?_ GE538.out | refine below_set ?_ GE564.out) | exact HB.out)) hb); clear HO_6; clear HO_7; clear HO_9; clear HO_11; clear HO_12; clear HO_565002; clear HO576; clear BK538; clear BK564; clear HB; have HO_6 := n0_; have HO_7 := n1_; have HO_9 := n2_; have HO_11 := n3_; have HO_12 := n4_; have HO_565002 := n5_; have HO576 := n6_; have BK538 := n7_; have BK564 := n8_; have HB := n9_; clear n0_ n1_ n2_ n3_ n4_ n5_ n6_ n7_ n8_ n9_; (try clear hb); (try clear hb2); (try clear hk); (try clear hi)))
        have n0_ := Aside0.mk (Kd.R_drew HO_6.out)
        have n1_ := Aside0.mk (Kd.R_drew HO_7.out)
        have n2_ := Aside0.mk (Kd.R_drew HO_9.out)
        have n3_ := Aside0.mk (Kd.R_drew HO_11.out)
        have n4_ := Aside0.mk (Kd.R_drew HO_12.out)
        have n5_ := Aside0.mk (Kd.R_drew HO_565002.out)
        have n6_ := Aside0.mk (Kd.R_drew HO576.out)
        have n7_ := Aside0.mk (blk_drew BK538.out)
        have n8_ := Aside0.mk (blk_drew BK564.out)
        have n9_ := Aside0.mk (below_drew1 HB.out)
        clear HO_6
        clear HO_7
        clear HO_9
        clear HO_11
        clear HO_12
        clear HO_565002
        clear HO576
        clear BK538
        clear BK564
        clear HB
        have HO_6 := n0_
        have HO_7 := n1_
        have HO_9 := n2_
        have HO_11 := n3_
        have HO_12 := n4_
        have HO_565002 := n5_
        have HO576 := n6_
        have BK538 := n7_
        have BK564 := n8_
        have HB := n9_
        clear n0_ n1_ n2_ n3_ n4_ n5_ n6_ n7_ n8_ n9_
        refine start_ (n := 5) (S := fun w' => w'.cell? ⟨gb564, 0, none⟩ = some (.int .i64 t559) ∧ w'.cell? ⟨gb564, 1, none⟩ = some (.int .i64 t560) ∧ w'.cell? ⟨gb564, 2, none⟩ = some (.slice Ao33 t561.length co33) ∧ w'.cell? ⟨gb538, 0, none⟩ = some (.int .i64 a1_0) ∧ w'.cell? ⟨gb538, 1, none⟩ = some (.int .i64 a1_1) ∧ w'.cell? ⟨gb538, 2, none⟩ = some (.slice A1_2 l1_2.length c1_2)) (ds := []) #[false, false, false, false, false] (by kernel_rfl) rfl rfl ⟨(blk_cell BK564.out 0).trans rfl, (blk_cell BK564.out 1).trans rfl, (blk_cell BK564.out 2).trans rfl, (blk_cell BK538.out 0).trans rfl, (blk_cell BK538.out 1).trans rfl, (blk_cell BK538.out 2).trans rfl⟩ (fun hHeld => ?_)
        generalize w64.drew = w65 at HO_6 HO_7 HO_9 HO_11 HO_12 HO_565002 HO576 BK538 BK564 HB hHeld ⊢
        refine take_ (i := 0) (N := some 70) (v := ?_) (a' := ?_) #[true, false, false, false, false] rfl rfl (by kernel_rfl) (fun _ _ _ h => h) (Or.inl ⟨by rfl, ?_⟩) hHeld ?_ ?_
        rotate_left
        ·rintro w' ⟨s0, s1, s2, s3, s4, s5⟩
         go_simp
         with_reducible rfl
        rotate_left
        ·simp only [Act.put, List.setIfInBounds_toArray, List.set_cons_zero, List.set_cons_succ, i64_w, i32_w]
         rfl
        refine take_ (i := 1) (N := some 71) (v := ?_) (a' := ?_) #[true, true, false, false, false] rfl rfl (by kernel_rfl) (fun _ _ _ h => h) (Or.inl ⟨by rfl, ?_⟩) hHeld ?_ ?_
        rotate_left
        ·rintro w' ⟨s0, s1, s2, s3, s4, s5⟩
         go_simp
         with_reducible rfl
        rotate_left
        ·simp only [Act.put, List.setIfInBounds_toArray, List.set_cons_zero, List.set_cons_succ, i64_w, i32_w]
         rfl
        refine one_ (i := 2) (N := some 72) #[true, true, true, false, false] rfl rfl (by kernel_rfl) (by decide) (fun K hK => ?_)
        refine goes_ Try.func34 (by kernel_rfl) rfl #[.agg #[.int .i64 a1_0, .int .i64 a1_1, .slice A1_2 l1_2.length c1_2]] (by rfl) rfl rfl (by (try simp only [List.map_toArray, List.map_cons, List.map_nil]); first | done | rfl | (simp only [List.length_drop, List.length_take]; rfl)) ?_
        with_reducible refine (laws_toSummary.calls kj16 a1_0 a1_1 _ _ l1_2 t578 t579 t580 _ ?side1 ?side2 A56.out).mono ?_
        (case side1 => repeat (first | exact (Kd.C_below HR1_2.out HB.out) | (with_reducible refine Kd.C_alloc ?_ _) | (with_reducible refine Kd.C_drewN ?_ _) | (with_reducible refine Kd.C_drew ?_)))
        (case side2 => exact HC1_2.out)
        rintro e w66 ⟨v581, rfl, ho0, hb⟩
        refine ⟨_, rfl, ?_⟩
        have n0_ := Aside0.mk (Kd.R_below (by (with_reducible repeat (first | apply Kd.R_alloc | apply Kd.R_drewN | apply Kd.R_drew)); exact HO_6.out) hb)
        have n1_ := Aside0.mk (Kd.R_elder' (by (with_reducible repeat (first | apply Kd.R_alloc | apply Kd.R_drewN | apply Kd.R_drew)); exact HO_7.out) (Kd.R_base ho0) hb)
        have n2_ := Aside0.mk (Kd.R_elder' (by (with_reducible repeat (first | apply Kd.R_alloc | apply Kd.R_drewN | apply Kd.R_drew)); exact HO_9.out) (Kd.R_base ho0) hb)
        have n3_ := Aside0.mk (Kd.R_below (by (with_reducible repeat (first | apply Kd.R_alloc | apply Kd.R_drewN | apply Kd.R_drew)); exact HO_11.out) hb)
        have n4_ := Aside0.mk (Kd.R_elder' (by (with_reducible repeat (first | apply Kd.R_alloc | apply Kd.R_drewN | apply Kd.R_drew)); exact HO_12.out) (Kd.R_base ho0) hb)
        have n5_ := Aside0.mk (Kd.R_elder' (by (with_reducible repeat (first | apply Kd.R_alloc | apply Kd.R_drewN | apply Kd.R_drew)); exact HO_565002.out) (Kd.R_base ho0) hb)
        have n6_ := Aside0.mk (Kd.R_elder' (by (with_reducible repeat (first | apply Kd.R_alloc | apply Kd.R_drewN | apply Kd.R_drew)); exact HO576.out) (Kd.R_base ho0) hb)
        have n7_ := Aside0.mk (Kd.R_lower (Kd.R_new' (Kd.R_new' (Kd.R_new' (Kd.R_new' (Kd.R_new' ho0 (Kd.R_lt (by (with_reducible repeat (first | apply Kd.R_alloc | apply Kd.R_drewN | apply Kd.R_drew)); exact HO_7.out))) (Kd.R_lt (by (with_reducible repeat (first | apply Kd.R_alloc | apply Kd.R_drewN | apply Kd.R_drew)); exact HO_9.out))) (Kd.R_lt (by (with_reducible repeat (first | apply Kd.R_alloc | apply Kd.R_drewN | apply Kd.R_drew)); exact HO_12.out))) (Kd.R_lt (by (with_reducible repeat (first | apply Kd.R_alloc | apply Kd.R_drewN | apply Kd.R_drew)); exact HO_565002.out))) (Kd.R_lt (by (with_reducible repeat (first | apply Kd.R_alloc | apply Kd.R_drewN | apply Kd.R_drew)); exact HO576.out))) (below_size (by repeat (first | (with_reducible first | exact HB.out | apply below_alloc | apply pw_below_drewN | apply below_drew1 | refine below_set ?_ GE538.out | refine below_set ?_ GE564.out) | exact HB.out))))
        have n8_ := Aside0.mk (blk_below (g := gb538) (o := .cells #[.int .i64 a1_0, .int .i64 a1_1, .slice A1_2 l1_2.length c1_2] 42 (0, 0)) (by (with_reducible repeat (first | refine blk_drewN ?_ _ | refine blk_drew ?_ | refine blk_alloc ?_ _)); exact BK538.out) hb)
        have n9_ := Aside0.mk (blk_below (g := gb564) (o := .cells #[.int .i64 t559, .int .i64 t560, .slice Ao33 t561.length co33] 50 (0, 0)) (by (with_reducible repeat (first | refine blk_drewN ?_ _ | refine blk_drew ?_ | refine blk_alloc ?_ _)); exact BK564.out) hb)
        have n10_ := Aside0.mk (below_step (by repeat (first | (with_reducible first | exact HB.out | apply below_alloc | apply pw_below_drewN | apply below_drew1 | refine below_set ?_ GE538.out | refine below_set ?_ GE564.out) | exact HB.out)) hb)
        clear HO_6
        clear HO_7
        clear HO_9
        clear HO_11
        clear HO_12
        clear HO_565002
        clear HO576
        clear BK538
        clear BK564
        clear HB
        have HO_6 := n0_
        have HO_7 := n1_
        have HO_9 := n2_
        have HO_11 := n3_
        have HO_12 := n4_
        have HO_565002 := n5_
        have HO576 := n6_
        have HO582 := n7_
        have BK538 := n8_
        have BK564 := n9_
        have HB := n10_
        clear n0_ n1_ n2_ n3_ n4_ n5_ n6_ n7_ n8_ n9_ n10_
        (try clear hb)
        (try clear hb2)
        (try clear hk)
        (try clear hi)
        (try clear ho0)
        obtain ⟨Ao67, co67, eo67⟩ := Kd.R_slice HO582.out
        (first | subst eo67 | (injection eo67 with f1_ f2_ f3_; have f4_ := f1_.symm; have f5_ := f3_.symm; clear f1_ f2_ f3_; subst f4_; subst f5_))
        refine hK.out _ _ ⟨(blk_cell BK564.out 0).trans rfl, (blk_cell BK564.out 1).trans rfl, (blk_cell BK564.out 2).trans rfl, (blk_cell BK538.out 0).trans rfl, (blk_cell BK538.out 1).trans rfl, (blk_cell BK538.out 2).trans rfl⟩ (fun hHeld => ?_)
        clear hK K
        refine norm_ (a' := ?_) ?_ ?_
        rotate_left
        ·show Act.put _ (some 72) _ = _
         simp only [Act.put, List.setIfInBounds_toArray, List.set_cons_zero, List.set_cons_succ, i64_w, i32_w]
         rfl
        refine one_ (i := 3) (N := some 73) #[true, true, true, true, false] rfl rfl (by kernel_rfl) (by decide) (fun K hK => ?_)
        refine goes_ Try.func37 (by kernel_rfl) rfl #[.agg #[.int .i64 t559, .int .i64 t560, .slice Ao33 t561.length co33], .agg #[.int .i64 t578, .int .i64 t579, .slice Ao67 t580.length co67]] (by rfl) rfl rfl (by (try simp only [List.map_toArray, List.map_cons, List.map_nil]); first | done | rfl | (simp only [List.length_drop, List.length_take]; rfl)) ?_
        with_reducible refine (laws_eqSummary.calls kj16 t559 t560 _ _ t561 t578 t579 _ _ t580 true _ ?side1 ?side2 ?side3 ?side4 A57.out).mono ?_
        (case side1 => repeat (first | exact (Kd.R_reads' HO_565002.out).2.2 | (with_reducible refine Kd.C_alloc ?_ _) | (with_reducible refine Kd.C_drewN ?_ _) | (with_reducible refine Kd.C_drew ?_)))
        (case side2 => exact (Kd.R_reads' HO_565002.out).2.1)
        (case side3 => repeat (first | exact (Kd.R_reads' HO582.out).2.2 | (with_reducible refine Kd.C_alloc ?_ _) | (with_reducible refine Kd.C_drewN ?_ _) | (with_reducible refine Kd.C_drew ?_)))
        (case side4 => exact (Kd.R_reads' HO582.out).2.1)
        rintro e w68 ⟨rfl, hb⟩
        refine ⟨_, rfl, ?_⟩
        have n0_ := Aside0.mk (Kd.R_below (by (with_reducible repeat (first | apply Kd.R_alloc | apply Kd.R_drewN | apply Kd.R_drew)); exact HO_6.out) hb)
        have n1_ := Aside0.mk (Kd.R_below (by (with_reducible repeat (first | apply Kd.R_alloc | apply Kd.R_drewN | apply Kd.R_drew)); exact HO_7.out) hb)
        have n2_ := Aside0.mk (Kd.R_below (by (with_reducible repeat (first | apply Kd.R_alloc | apply Kd.R_drewN | apply Kd.R_drew)); exact HO_9.out) hb)
        have n3_ := Aside0.mk (Kd.R_below (by (with_reducible repeat (first | apply Kd.R_alloc | apply Kd.R_drewN | apply Kd.R_drew)); exact HO_11.out) hb)
        have n4_ := Aside0.mk (Kd.R_below (by (with_reducible repeat (first | apply Kd.R_alloc | apply Kd.R_drewN | apply Kd.R_drew)); exact HO_12.out) hb)
        have n5_ := Aside0.mk (Kd.R_below (by (with_reducible repeat (first | apply Kd.R_alloc | apply Kd.R_drewN | apply Kd.R_drew)); exact HO_565002.out) hb)
        have n6_ := Aside0.mk (Kd.R_below (by (with_reducible repeat (first | apply Kd.R_alloc | apply Kd.R_drewN | apply Kd.R_drew)); exact HO576.out) hb)
        have n7_ := Aside0.mk (Kd.R_below (by (with_reducible repeat (first | apply Kd.R_alloc | apply Kd.R_drewN | apply Kd.R_drew)); exact HO582.out) hb)
        have n8_ := Aside0.mk (blk_below (g := gb538) (o := .cells #[.int .i64 a1_0, .int .i64 a1_1, .slice A1_2 l1_2.length c1_2] 42 (0, 0)) (by (with_reducible repeat (first | refine blk_drewN ?_ _ | refine blk_drew ?_ | refine blk_alloc ?_ _)); exact BK538.out) hb)
        have n9_ := Aside0.mk (blk_below (g := gb564) (o := .cells #[.int .i64 t559, .int .i64 t560, .slice Ao33 t561.length co33] 50 (0, 0)) (by (with_reducible repeat (first | refine blk_drewN ?_ _ | refine blk_drew ?_ | refine blk_alloc ?_ _)); exact BK564.out) hb)
        have n10_ := Aside0.mk (below_step (by repeat (first | (with_reducible first | exact HB.out | apply below_alloc | apply pw_below_drewN | apply below_drew1 | refine below_set ?_ GE538.out | refine below_set ?_ GE564.out) | exact HB.out)) hb)
        clear HO_6
        clear HO_7
        clear HO_9
        clear HO_11
        clear HO_12
        clear HO_565002
        clear HO576
        clear HO582
        clear BK538
        clear BK564
        clear HB
        have HO_6 := n0_
        have HO_7 := n1_
        have HO_9 := n2_
        have HO_11 := n3_
        have HO_12 := n4_
        have HO_565002 := n5_
        have HO576 := n6_
        have HO582 := n7_
        have BK538 := n8_
        have BK564 := n9_
        have HB := n10_
        clear n0_ n1_ n2_ n3_ n4_ n5_ n6_ n7_ n8_ n9_ n10_
        (try clear hb)
        (try clear hb2)
        (try clear hk)
        (try clear hi)
        refine hK.out _ _ ⟨(blk_cell BK564.out 0).trans rfl, (blk_cell BK564.out 1).trans rfl, (blk_cell BK564.out 2).trans rfl, (blk_cell BK538.out 0).trans rfl, (blk_cell BK538.out 1).trans rfl, (blk_cell BK538.out 2).trans rfl⟩ (fun hHeld => ?_)
        clear hK K
        refine norm_ (a' := ?_) ?_ ?_
        rotate_left
        ·show Act.put _ (some 73) _ = _
         simp only [Act.put, List.setIfInBounds_toArray, List.set_cons_zero, List.set_cons_succ, i64_w, i32_w]
         rfl
        refine pure_ (i := 4) (N := some 74) (v := ?_) (a' := ?_) #[true, true, true, true, true] rfl rfl (by kernel_rfl) (fun _ _ _ h => h) (Or.inl ⟨by rfl, ?_⟩) ?_ ?_
        rotate_left
        ·intro w'
         go_simp
         with_reducible rfl
        rotate_left
        ·simp only [Act.put, List.setIfInBounds_toArray, List.set_cons_zero, List.set_cons_succ, i64_w, i32_w]
         rfl
        refine done_ (by kernel_rfl) ?_
        go_upto_region 21 with (first | ((with_reducible refine gate_callee (f := 38) rfl ?_); refine goesL_ (some 77) rfl rfl Try.func38 (by kernel_rfl) rfl #[.slice Ao34 t556.length co34, .int .i64 1] rfl (by (try simp only [List.map_toArray, List.map_cons, List.map_nil]); first | done | rfl | (simp only [List.length_drop, List.length_take]; rfl)) ?_; (with_reducible refine (laws_markHaveS.calls kj16 (fun k_ => some k_ = (.slice Ao34 t556.length co34 : Value).ownBlock) (.slice Ao34 t556.length co34) t556 1 t584 t585 w _ ?side1 ?side2 A59.out).mono ?_); (case side1 => repeat (first | (with_reducible first | exact HB.out | apply below_alloc | apply pw_below_drewN | apply below_drew1 | refine below_set ?_ GE538.out | refine below_set ?_ GE564.out) | exact HB.out)); (case side2 => exact Kd.R_tight rfl HO_9.out); rintro e w69 ⟨rfl, hy0, hb, hkp⟩; refine ⟨_, rfl, ?_⟩; have n0_ := Aside0.mk (Kd.R_mono (ok' := fun k_ => some k_ ≠ (v566 : Value).ownBlock) (Kd.R_keptB ((Kd.R_apart' HO_6.out (Kd.R_typed HO_9.out) (by decide))) hkp (fun k_ hk_ hs_ => (hk_.2) hs_)) (fun k_ hk_ => hk_.1.1)); have n1_ := Aside0.mk (Kd.R_mono (ok' := fun k_ => some k_ ≠ (.slice Ao34 t556.length co34 : Value).ownBlock ∧ some k_ ≠ (v569 : Value).ownBlock ∧ some k_ ≠ (.slice Ao33 t561.length co33 : Value).ownBlock ∧ some k_ ≠ (.slice Ao63 t574.length co63 : Value).ownBlock ∧ some k_ ≠ (.slice Ao67 t580.length co67 : Value).ownBlock) (Kd.R_keptB (HO_7.out) hkp (fun k_ hk_ hs_ => (hk_.1.1.1) hs_)) (fun k_ hk_ => ⟨hk_.1.1.1.1, hk_.1.1.1.2.1, hk_.1.1.1.2.2, hk_.1.1.2, hk_.1.2⟩)); have n2_ := Aside0.mk (Kd.R_reok rfl hy0 (fun k_ e_ => HO_9.out.1 k_ e_)); have n3_ := Aside0.mk (Kd.R_mono (ok' := fun k_ => some k_ ≠ (v550 : Value).ownBlock) (Kd.R_keptB ((Kd.R_apart' HO_11.out (Kd.R_typed HO_9.out) (by decide))) hkp (fun k_ hk_ hs_ => (hk_.2) hs_)) (fun k_ hk_ => hk_.1.1)); have n4_ := Aside0.mk (Kd.R_mono (ok' := fun k_ => some k_ ≠ (v553 : Value).ownBlock ∧ some k_ ≠ (.slice Ao34 t556.length co34 : Value).ownBlock ∧ some k_ ≠ (.slice Ao33 t561.length co33 : Value).ownBlock ∧ some k_ ≠ (.slice Ao63 t574.length co63 : Value).ownBlock ∧ some k_ ≠ (.slice Ao67 t580.length co67 : Value).ownBlock) (Kd.R_keptB (HO_12.out) hkp (fun k_ hk_ hs_ => (hk_.1.1.2.1) hs_)) (fun k_ hk_ => ⟨hk_.1.1.1.1, hk_.1.1.1.2.1, hk_.1.1.1.2.2, hk_.1.1.2, hk_.1.2⟩)); have n5_ := Aside0.mk (Kd.R_mono (ok' := fun k_ => some k_ ≠ (v553 : Value).ownBlock ∧ some k_ ≠ (.slice Ao34 t556.length co34 : Value).ownBlock ∧ some k_ ≠ (v569 : Value).ownBlock ∧ some k_ ≠ (.slice Ao63 t574.length co63 : Value).ownBlock ∧ some k_ ≠ (.slice Ao67 t580.length co67 : Value).ownBlock) (Kd.R_keptB (HO_565002.out) hkp (fun k_ hk_ hs_ => (hk_.1.1.2.1) hs_)) (fun k_ hk_ => ⟨hk_.1.1.1.1, hk_.1.1.1.2.1, hk_.1.1.1.2.2, hk_.1.1.2, hk_.1.2⟩)); have n6_ := Aside0.mk (blk_kept (by (with_reducible repeat (first | refine blk_drewN ?_ _ | refine blk_drew ?_ | refine blk_alloc ?_ _)); exact BK538.out) hkp (fun hs_ => (fun e_ => (Kd.R_ne HO_9.out BK538.out (by decide)) e_) hs_)); have n7_ := Aside0.mk (blk_kept (by (with_reducible repeat (first | refine blk_drewN ?_ _ | refine blk_drew ?_ | refine blk_alloc ?_ _)); exact BK564.out) hkp (fun hs_ => (fun e_ => (Kd.R_ne HO_9.out BK564.out (by decide)) e_) hs_)); have n8_ := Aside0.mk (Kd.R_mono (ok' := fun k_ => some k_ ≠ (v553 : Value).ownBlock ∧ some k_ ≠ (.slice Ao34 t556.length co34 : Value).ownBlock ∧ some k_ ≠ (v569 : Value).ownBlock ∧ some k_ ≠ (.slice Ao33 t561.length co33 : Value).ownBlock ∧ some k_ ≠ (.slice Ao67 t580.length co67 : Value).ownBlock) (Kd.R_keptB (HO576.out) hkp (fun k_ hk_ hs_ => (hk_.1.1.1.2) hs_)) (fun k_ hk_ => ⟨hk_.1.1.1.1.1.2, hk_.1.1.1.1.2, hk_.1.1.1.2, hk_.1.1.2, hk_.1.2⟩)); have n9_ := Aside0.mk (Kd.R_mono (ok' := fun k_ => some k_ ≠ (v553 : Value).ownBlock ∧ some k_ ≠ (.slice Ao34 t556.length co34 : Value).ownBlock ∧ some k_ ≠ (v569 : Value).ownBlock ∧ some k_ ≠ (.slice Ao33 t561.length co33 : Value).ownBlock ∧ some k_ ≠ (.slice Ao63 t574.length co63 : Value).ownBlock) (Kd.R_keptB (HO582.out) hkp (fun k_ hk_ hs_ => (hk_.1.1.1.2) hs_)) (fun k_ hk_ => ⟨hk_.1.1.1.1.1.2, hk_.1.1.1.1.2, hk_.1.1.1.2, hk_.1.1.2, hk_.1.2⟩)); have n10_ := Aside0.mk (hb); clear HO_6; clear HO_7; clear HO_9; clear HO_11; clear HO_12; clear HO_565002; clear BK538; clear BK564; clear HO576; clear HO582; clear HB; have HO_6 := n0_; have HO_7 := n1_; have HO_9 := n2_; have HO_11 := n3_; have HO_12 := n4_; have HO_565002 := n5_; have BK538 := n6_; have BK564 := n7_; have HO576 := n8_; have HO582 := n9_; have HB := n10_; clear n0_ n1_ n2_ n3_ n4_ n5_ n6_ n7_ n8_ n9_ n10_; (try clear hb); (try clear hkp); (try clear hy0); have hnb70 := NB564_538.out; have hnc70 := NB538_564.out; have hcz71_0 : w69.cell? ⟨gb564, 0, none⟩ = some (.int .i64 t559) := (blk_cell BK564.out 0).trans rfl; have hcz71_1 : w69.cell? ⟨gb564, 1, none⟩ = some (.int .i64 t560) := (blk_cell BK564.out 1).trans rfl; have hcz71_2 : w69.cell? ⟨gb564, 2, none⟩ = some (.slice Ao33 t561.length co33) := (blk_cell BK564.out 2).trans rfl; have hfz71_0 := blk_frozen BK564.out 0; have hfz71_1 := blk_frozen BK564.out 1; have hfz71_2 := blk_frozen BK564.out 2) | ((with_reducible refine gate_callee (f := 39) rfl ?_); refine goesL_ (some 80) rfl rfl Try.func39 (by kernel_rfl) rfl #[.agg #[.int .i64 t559, .int .i64 t560, .slice Ao33 t561.length co33], .int .i64 t584] rfl (by (try simp only [List.map_toArray, List.map_cons, List.map_nil]); first | done | rfl | (simp only [List.length_drop, List.length_take]; rfl)) ?_; (with_reducible refine (laws_markSummary.calls kj16 t559 t560 (fun k_ => some k_ = (.slice Ao33 t561.length co33 : Value).ownBlock) (.slice Ao33 t561.length co33) t561 t584 t586 t587 w _ ?side1 ?side2 A60.out).mono ?_); (case side1 => repeat (first | (with_reducible first | exact HB.out | apply below_alloc | apply pw_below_drewN | apply below_drew1 | refine below_set ?_ GE538.out | refine below_set ?_ GE564.out) | exact HB.out)); (case side2 => exact Kd.R_tight rfl HO_565002.out); rintro e w72 ⟨rfl, hy0, hb, hkp⟩; refine ⟨_, rfl, ?_⟩; have n0_ := Aside0.mk (Kd.R_mono (ok' := fun k_ => some k_ ≠ (v566 : Value).ownBlock) (Kd.R_keptB ((Kd.R_apart' HO_6.out (Kd.R_typed HO_565002.out) (by decide))) hkp (fun k_ hk_ hs_ => (hk_.2) hs_)) (fun k_ hk_ => hk_.1.1)); have n1_ := Aside0.mk (Kd.R_mono (ok' := fun k_ => some k_ ≠ (.slice Ao34 t556.length co34 : Value).ownBlock ∧ some k_ ≠ (v569 : Value).ownBlock ∧ some k_ ≠ (.slice Ao33 t561.length co33 : Value).ownBlock ∧ some k_ ≠ (.slice Ao63 t574.length co63 : Value).ownBlock ∧ some k_ ≠ (.slice Ao67 t580.length co67 : Value).ownBlock) (Kd.R_keptB (HO_7.out) hkp (fun k_ hk_ hs_ => (hk_.2.2.1) hs_)) (fun k_ hk_ => ⟨hk_.1.1, hk_.1.2.1, hk_.1.2.2.1, hk_.1.2.2.2.1, hk_.1.2.2.2.2⟩)); have n2_ := Aside0.mk (Kd.R_mono (ok' := fun k_ => some k_ ≠ (v553 : Value).ownBlock ∧ some k_ ≠ (v569 : Value).ownBlock ∧ some k_ ≠ (.slice Ao33 t561.length co33 : Value).ownBlock ∧ some k_ ≠ (.slice Ao63 t574.length co63 : Value).ownBlock ∧ some k_ ≠ (.slice Ao67 t580.length co67 : Value).ownBlock) (Kd.R_keptB (HO_9.out) hkp (fun k_ hk_ hs_ => (hk_.1.1.2.2) hs_)) (fun k_ hk_ => ⟨hk_.1.1.1.1, hk_.1.1.1.2.1, hk_.1.1.1.2.2, hk_.1.1.2, hk_.1.2⟩)); have n3_ := Aside0.mk (Kd.R_mono (ok' := fun k_ => some k_ ≠ (v550 : Value).ownBlock) (Kd.R_keptB ((Kd.R_apart' HO_11.out (Kd.R_typed HO_565002.out) (by decide))) hkp (fun k_ hk_ hs_ => (hk_.2) hs_)) (fun k_ hk_ => hk_.1.1)); have n4_ := Aside0.mk (Kd.R_mono (ok' := fun k_ => some k_ ≠ (v553 : Value).ownBlock ∧ some k_ ≠ (.slice Ao34 t556.length co34 : Value).ownBlock ∧ some k_ ≠ (.slice Ao33 t561.length co33 : Value).ownBlock ∧ some k_ ≠ (.slice Ao63 t574.length co63 : Value).ownBlock ∧ some k_ ≠ (.slice Ao67 t580.length co67 : Value).ownBlock) (Kd.R_keptB (HO_12.out) hkp (fun k_ hk_ hs_ => (hk_.2.2.1) hs_)) (fun k_ hk_ => ⟨hk_.1.1, hk_.1.2.1, hk_.1.2.2.1, hk_.1.2.2.2.1, hk_.1.2.2.2.2⟩)); have n5_ := Aside0.mk (Kd.R_reok rfl hy0 (fun k_ e_ => HO_565002.out.1 k_ e_)); have n6_ := Aside0.mk (blk_kept (by (with_reducible repeat (first | refine blk_drewN ?_ _ | refine blk_drew ?_ | refine blk_alloc ?_ _)); exact BK538.out) hkp (fun hs_ => (fun e_ => (Kd.R_ne HO_565002.out BK538.out (by decide)) e_) hs_)); have n7_ := Aside0.mk (blk_kept (by (with_reducible repeat (first | refine blk_drewN ?_ _ | refine blk_drew ?_ | refine blk_alloc ?_ _)); exact BK564.out) hkp (fun hs_ => (fun e_ => (Kd.R_ne HO_565002.out BK564.out (by decide)) e_) hs_)); have n8_ := Aside0.mk (Kd.R_mono (ok' := fun k_ => some k_ ≠ (v553 : Value).ownBlock ∧ some k_ ≠ (.slice Ao34 t556.length co34 : Value).ownBlock ∧ some k_ ≠ (v569 : Value).ownBlock ∧ some k_ ≠ (.slice Ao33 t561.length co33 : Value).ownBlock ∧ some k_ ≠ (.slice Ao67 t580.length co67 : Value).ownBlock) (Kd.R_keptB (HO576.out) hkp (fun k_ hk_ hs_ => (hk_.2.2.2.1) hs_)) (fun k_ hk_ => ⟨hk_.1.1, hk_.1.2.1, hk_.1.2.2.1, hk_.1.2.2.2.1, hk_.1.2.2.2.2⟩)); have n9_ := Aside0.mk (Kd.R_mono (ok' := fun k_ => some k_ ≠ (v553 : Value).ownBlock ∧ some k_ ≠ (.slice Ao34 t556.length co34 : Value).ownBlock ∧ some k_ ≠ (v569 : Value).ownBlock ∧ some k_ ≠ (.slice Ao33 t561.length co33 : Value).ownBlock ∧ some k_ ≠ (.slice Ao63 t574.length co63 : Value).ownBlock) (Kd.R_keptB (HO582.out) hkp (fun k_ hk_ hs_ => (hk_.2.2.2.1) hs_)) (fun k_ hk_ => ⟨hk_.1.1, hk_.1.2.1, hk_.1.2.2.1, hk_.1.2.2.2.1, hk_.1.2.2.2.2⟩)); have n10_ := Aside0.mk (hb); clear HO_6; clear HO_7; clear HO_9; clear HO_11; clear HO_12; clear HO_565002; clear BK538; clear BK564; clear HO576; clear HO582; clear HB; have HO_6 := n0_; have HO_7 := n1_; have HO_9 := n2_; have HO_11 := n3_; have HO_12 := n4_; have HO_565002 := n5_; have BK538 := n6_; have BK564 := n7_; have HO576 := n8_; have HO582 := n9_; have HB := n10_; clear n0_ n1_ n2_ n3_ n4_ n5_ n6_ n7_ n8_ n9_ n10_; (try clear hb); (try clear hkp); (try clear hy0)))
        (try simp only [Act.put, List.setIfInBounds_toArray, List.set_cons_zero, List.set_cons_succ])
        go_cut [99] (fun v99 wc => ∃ (kq : Nat) (x99_60 : Bool), v99 = .bool x99_60 ∧ Aside0 (laws_FnExactAskFor.j1 kq l0 t549 t552 t555 t565 t568 x99_60 a1_0 a1_1 l1_2 = some r) ∧ Aside0 (kq ≤ kj16) ∧ Aside0 (Kd.R (Kd.int .i64) 3 wc w.heap.size (fun k_ => some k_ ≠ (v566 : Value).ownBlock) v550 t549) ∧ Aside0 (Kd.R k104 104 wc w.heap.size (fun k_ => some k_ ≠ (v569 : Value).ownBlock ∧ some k_ ≠ ((.slice Ao33 t561.length co33) : Value).ownBlock) v553 t552) ∧ Aside0 (Kd.R (Kd.int .i64) 3 wc w.heap.size (fun k_ => some k_ ≠ (v550 : Value).ownBlock) v566 t565) ∧ Aside0 (Kd.R k104 104 wc w.heap.size (fun k_ => some k_ ≠ (v553 : Value).ownBlock ∧ some k_ ≠ ((.slice Ao33 t561.length co33) : Value).ownBlock) v569 t568) ∧ Aside0 (Kd.R k104 104 wc w.heap.size (fun k_ => some k_ ≠ (v553 : Value).ownBlock ∧ some k_ ≠ (v569 : Value).ownBlock) (.slice Ao33 t561.length co33) t587) ∧ Aside0 (wc.heap[gb538]? = some (.cells #[.int .i64 a1_0, .int .i64 a1_1, (.slice A1_2 l1_2.length c1_2)] 42 (0, 0))) ∧ Aside0 (wc.heap[gb564]? = some (.cells #[.int .i64 t559, .int .i64 t560, (.slice Ao33 t561.length co33)] 50 (0, 0))) ∧ Aside0 (Below w.heap.size w wc))
        case first =>
         have H := HC61.out
         clear HC61
         by_cases c73 : t586 < 0
         ·rw [if_pos c73] at H
          have c73b0 : decide (t586 < 0) = true := decide_eq_true c73
          clear c73
          (first | rw [c73b0] | (simp only [i64_w, i32_w]; rw [c73b0]) | skip)
          have H' := Aside0.mk H
          clear H
          go_wp2
          go_meet
          case rel => exact ⟨_, (true), (by first | rfl | (simp; done) | (simp [*]; done)), H', ⟨by have := HJ16.out; first | omega | exact Nat.le_refl _⟩, ⟨by (with_reducible repeat (first | apply Kd.R_alloc | apply Kd.R_drewN | apply Kd.R_drew)); exact HO_6.out⟩, ⟨by (with_reducible repeat (first | apply Kd.R_alloc | apply Kd.R_drewN | apply Kd.R_drew)); exact Kd.R_mono HO_7.out (fun _ hk => ⟨hk.2.1, hk.2.2.1⟩)⟩, ⟨by (with_reducible repeat (first | apply Kd.R_alloc | apply Kd.R_drewN | apply Kd.R_drew)); exact HO_11.out⟩, ⟨by (with_reducible repeat (first | apply Kd.R_alloc | apply Kd.R_drewN | apply Kd.R_drew)); exact Kd.R_mono HO_12.out (fun _ hk => ⟨hk.1, hk.2.2.1⟩)⟩, ⟨by (with_reducible repeat (first | apply Kd.R_alloc | apply Kd.R_drewN | apply Kd.R_drew)); exact Kd.R_mono HO_565002.out (fun _ hk => ⟨hk.1, hk.2.2.1⟩)⟩, ⟨by (with_reducible repeat (first | refine blk_drewN ?_ _ | refine blk_drew ?_ | refine blk_alloc ?_ _)); exact BK538.out⟩, ⟨by (with_reducible repeat (first | refine blk_drewN ?_ _ | refine blk_drew ?_ | refine blk_alloc ?_ _)); exact BK564.out⟩, ⟨by repeat (first | (with_reducible first | exact HB.out | apply below_alloc | apply pw_below_drewN | apply below_drew1 | refine below_set ?_ GE538.out | refine below_set ?_ GE564.out) | exact HB.out)⟩⟩
         ·rw [if_neg c73] at H
          have c73b0 : decide (t586 < 0) = false := decide_eq_false c73
          clear c73
          (first | rw [c73b0] | (simp only [i64_w, i32_w]; rw [c73b0]) | skip)
          replace H := Option.bind_eq_some_iff.mp H
          obtain ⟨t588, A740, H⟩ := H
          replace H : (if t588 = true then ((laws_eqHaveS.f kj16 t568 t552).bind fun t589 => (if t589 = true then (laws_FnExactAskFor.j1 kj16 l0 t549 t552 t555 t565 t568 (t571 != t555) a1_0 a1_1 l1_2) else (laws_FnExactAskFor.j1 kj16 l0 t549 t552 t555 t565 t568 true a1_0 a1_1 l1_2))) else (laws_FnExactAskFor.j1 kj16 l0 t549 t552 t555 t565 t568 true a1_0 a1_1 l1_2)) = some r := H
          have A74 := Aside0.mk A740
          clear A740
          by_cases c75 : t588 = true
          ·subst c75
           have H1 : ((laws_eqHaveS.f kj16 t568 t552).bind fun t589 => (if t589 = true then (laws_FnExactAskFor.j1 kj16 l0 t549 t552 t555 t565 t568 (t571 != t555) a1_0 a1_1 l1_2) else (laws_FnExactAskFor.j1 kj16 l0 t549 t552 t555 t565 t568 true a1_0 a1_1 l1_2))) = some r := by rw [if_pos rfl] at H; exact H
           clear H
           have H := H1
           clear H1
           replace H := Option.bind_eq_some_iff.mp H
           obtain ⟨t589, A760, H⟩ := H
           replace H : (if t589 = true then (laws_FnExactAskFor.j1 kj16 l0 t549 t552 t555 t565 t568 (t571 != t555) a1_0 a1_1 l1_2) else (laws_FnExactAskFor.j1 kj16 l0 t549 t552 t555 t565 t568 true a1_0 a1_1 l1_2)) = some r := H
           have A76 := Aside0.mk A760
           clear A760
           by_cases c77 : t589 = true
           ·subst c77
            have H1 : (laws_FnExactAskFor.j1 kj16 l0 t549 t552 t555 t565 t568 (t571 != t555) a1_0 a1_1 l1_2) = some r := by rw [if_pos rfl] at H; exact H
            clear H
            have H := H1
            clear H1
            have H' := Aside0.mk H
            clear H
            obtain ⟨Ao78, co78, eo78⟩ := Kd.R_slice HO_11.out
            subst eo78
            obtain ⟨Ao79, co79, eo79⟩ := Kd.R_slice HO_6.out
            subst eo79
            go_wp2_with (first | (go_at_call 21; (with_reducible refine (laws_eqIntS.calls kj16 _ _ t565 _ _ t549 true _ ?side1 ?side2 ?side3 ?side4 A74.out).mono ?_); (case side1 => repeat (first | exact (Kd.R_reads' HO_11.out).2.2 | (with_reducible refine Kd.C_alloc ?_ _) | (with_reducible refine Kd.C_drewN ?_ _) | (with_reducible refine Kd.C_drew ?_))); (case side2 => exact (Kd.R_reads' HO_11.out).2.1); (case side3 => repeat (first | exact (Kd.R_reads' HO_6.out).2.2 | (with_reducible refine Kd.C_alloc ?_ _) | (with_reducible refine Kd.C_drewN ?_ _) | (with_reducible refine Kd.C_drew ?_))); (case side4 => exact (Kd.R_reads' HO_6.out).2.1); rintro e w' ⟨rfl, ⟨nd, rfl⟩⟩; obtain ⟨Ao80, co80, eo80⟩ := Kd.R_slice HO_12.out; subst eo80; obtain ⟨Ao81, co81, eo81⟩ := Kd.R_slice HO_7.out; subst eo81) | (go_at_call 36; (with_reducible refine (laws_eqHaveS.calls kj16 _ _ t568 _ _ t552 true _ ?side1 ?side2 ?side3 ?side4 A76.out).mono ?_); (case side1 => repeat (first | exact (Kd.R_reads' HO_12.out).2.2 | (with_reducible refine Kd.C_alloc ?_ _) | (with_reducible refine Kd.C_drewN ?_ _) | (with_reducible refine Kd.C_drew ?_))); (case side2 => exact (Kd.R_reads' HO_12.out).2.1); (case side3 => repeat (first | exact (Kd.R_reads' HO_7.out).2.2 | (with_reducible refine Kd.C_alloc ?_ _) | (with_reducible refine Kd.C_drewN ?_ _) | (with_reducible refine Kd.C_drew ?_))); (case side4 => exact (Kd.R_reads' HO_7.out).2.1); rintro e w82 ⟨rfl, hb⟩; have n0_ := Aside0.mk (Kd.R_below (by (with_reducible repeat (first | apply Kd.R_alloc | apply Kd.R_drewN | apply Kd.R_drew)); exact HO_6.out) hb); have n1_ := Aside0.mk (Kd.R_below (by (with_reducible repeat (first | apply Kd.R_alloc | apply Kd.R_drewN | apply Kd.R_drew)); exact HO_7.out) hb); have n2_ := Aside0.mk (Kd.R_below (by (with_reducible repeat (first | apply Kd.R_alloc | apply Kd.R_drewN | apply Kd.R_drew)); exact HO_9.out) hb); have n3_ := Aside0.mk (Kd.R_below (by (with_reducible repeat (first | apply Kd.R_alloc | apply Kd.R_drewN | apply Kd.R_drew)); exact HO_11.out) hb); have n4_ := Aside0.mk (Kd.R_below (by (with_reducible repeat (first | apply Kd.R_alloc | apply Kd.R_drewN | apply Kd.R_drew)); exact HO_12.out) hb); have n5_ := Aside0.mk (Kd.R_below (by (with_reducible repeat (first | apply Kd.R_alloc | apply Kd.R_drewN | apply Kd.R_drew)); exact HO_565002.out) hb); have n6_ := Aside0.mk (Kd.R_below (by (with_reducible repeat (first | apply Kd.R_alloc | apply Kd.R_drewN | apply Kd.R_drew)); exact HO576.out) hb); have n7_ := Aside0.mk (Kd.R_below (by (with_reducible repeat (first | apply Kd.R_alloc | apply Kd.R_drewN | apply Kd.R_drew)); exact HO582.out) hb); have n8_ := Aside0.mk (blk_below (g := gb538) (o := .cells #[.int .i64 a1_0, .int .i64 a1_1, .slice A1_2 l1_2.length c1_2] 42 (0, 0)) (by (with_reducible repeat (first | refine blk_drewN ?_ _ | refine blk_drew ?_ | refine blk_alloc ?_ _)); exact BK538.out) hb); have n9_ := Aside0.mk (blk_below (g := gb564) (o := .cells #[.int .i64 t559, .int .i64 t560, .slice Ao33 t561.length co33] 50 (0, 0)) (by (with_reducible repeat (first | refine blk_drewN ?_ _ | refine blk_drew ?_ | refine blk_alloc ?_ _)); exact BK564.out) hb); have n10_ := Aside0.mk (below_step (by repeat (first | (with_reducible first | exact HB.out | apply below_alloc | apply pw_below_drewN | apply below_drew1 | refine below_set ?_ GE538.out | refine below_set ?_ GE564.out) | exact HB.out)) hb); clear HO_6; clear HO_7; clear HO_9; clear HO_11; clear HO_12; clear HO_565002; clear HO576; clear HO582; clear BK538; clear BK564; clear HB; have HO_6 := n0_; have HO_7 := n1_; have HO_9 := n2_; have HO_11 := n3_; have HO_12 := n4_; have HO_565002 := n5_; have HO576 := n6_; have HO582 := n7_; have BK538 := n8_; have BK564 := n9_; have HB := n10_; clear n0_ n1_ n2_ n3_ n4_ n5_ n6_ n7_ n8_ n9_ n10_; (try clear hb); (try clear hb2); (try clear hk); (try clear hi)))
            go_meet
            case rel => exact ⟨_, ((t571 != t555)), (by first | rfl | (simp; done) | (simp [*]; done)), H', ⟨by have := HJ16.out; first | omega | exact Nat.le_refl _⟩, ⟨by (with_reducible repeat (first | apply Kd.R_alloc | apply Kd.R_drewN | apply Kd.R_drew)); exact HO_6.out⟩, ⟨by (with_reducible repeat (first | apply Kd.R_alloc | apply Kd.R_drewN | apply Kd.R_drew)); exact Kd.R_mono HO_7.out (fun _ hk => ⟨hk.2.1, hk.2.2.1⟩)⟩, ⟨by (with_reducible repeat (first | apply Kd.R_alloc | apply Kd.R_drewN | apply Kd.R_drew)); exact HO_11.out⟩, ⟨by (with_reducible repeat (first | apply Kd.R_alloc | apply Kd.R_drewN | apply Kd.R_drew)); exact Kd.R_mono HO_12.out (fun _ hk => ⟨hk.1, hk.2.2.1⟩)⟩, ⟨by (with_reducible repeat (first | apply Kd.R_alloc | apply Kd.R_drewN | apply Kd.R_drew)); exact Kd.R_mono HO_565002.out (fun _ hk => ⟨hk.1, hk.2.2.1⟩)⟩, ⟨by (with_reducible repeat (first | refine blk_drewN ?_ _ | refine blk_drew ?_ | refine blk_alloc ?_ _)); exact BK538.out⟩, ⟨by (with_reducible repeat (first | refine blk_drewN ?_ _ | refine blk_drew ?_ | refine blk_alloc ?_ _)); exact BK564.out⟩, ⟨by repeat (first | (with_reducible first | exact HB.out | apply below_alloc | apply pw_below_drewN | apply below_drew1 | refine below_set ?_ GE538.out | refine below_set ?_ GE564.out) | exact HB.out)⟩⟩
           ·replace c77 := Bool.eq_false_iff.mpr c77
            subst c77
            have H1 : (laws_FnExactAskFor.j1 kj16 l0 t549 t552 t555 t565 t568 true a1_0 a1_1 l1_2) = some r := by rw [if_neg (show ¬ (false = true) by decide)] at H; exact H
            clear H
            have H := H1
            clear H1
            have H' := Aside0.mk H
            clear H
            obtain ⟨Ao83, co83, eo83⟩ := Kd.R_slice HO_11.out
            subst eo83
            obtain ⟨Ao84, co84, eo84⟩ := Kd.R_slice HO_6.out
            subst eo84
            go_wp2_with (first | (go_at_call 21; (with_reducible refine (laws_eqIntS.calls kj16 _ _ t565 _ _ t549 true _ ?side1 ?side2 ?side3 ?side4 A74.out).mono ?_); (case side1 => repeat (first | exact (Kd.R_reads' HO_11.out).2.2 | (with_reducible refine Kd.C_alloc ?_ _) | (with_reducible refine Kd.C_drewN ?_ _) | (with_reducible refine Kd.C_drew ?_))); (case side2 => exact (Kd.R_reads' HO_11.out).2.1); (case side3 => repeat (first | exact (Kd.R_reads' HO_6.out).2.2 | (with_reducible refine Kd.C_alloc ?_ _) | (with_reducible refine Kd.C_drewN ?_ _) | (with_reducible refine Kd.C_drew ?_))); (case side4 => exact (Kd.R_reads' HO_6.out).2.1); rintro e w' ⟨rfl, ⟨nd, rfl⟩⟩; obtain ⟨Ao85, co85, eo85⟩ := Kd.R_slice HO_12.out; subst eo85; obtain ⟨Ao86, co86, eo86⟩ := Kd.R_slice HO_7.out; subst eo86) | (go_at_call 36; (with_reducible refine (laws_eqHaveS.calls kj16 _ _ t568 _ _ t552 false _ ?side1 ?side2 ?side3 ?side4 A76.out).mono ?_); (case side1 => repeat (first | exact (Kd.R_reads' HO_12.out).2.2 | (with_reducible refine Kd.C_alloc ?_ _) | (with_reducible refine Kd.C_drewN ?_ _) | (with_reducible refine Kd.C_drew ?_))); (case side2 => exact (Kd.R_reads' HO_12.out).2.1); (case side3 => repeat (first | exact (Kd.R_reads' HO_7.out).2.2 | (with_reducible refine Kd.C_alloc ?_ _) | (with_reducible refine Kd.C_drewN ?_ _) | (with_reducible refine Kd.C_drew ?_))); (case side4 => exact (Kd.R_reads' HO_7.out).2.1); rintro e w87 ⟨rfl, hb⟩; have n0_ := Aside0.mk (Kd.R_below (by (with_reducible repeat (first | apply Kd.R_alloc | apply Kd.R_drewN | apply Kd.R_drew)); exact HO_6.out) hb); have n1_ := Aside0.mk (Kd.R_below (by (with_reducible repeat (first | apply Kd.R_alloc | apply Kd.R_drewN | apply Kd.R_drew)); exact HO_7.out) hb); have n2_ := Aside0.mk (Kd.R_below (by (with_reducible repeat (first | apply Kd.R_alloc | apply Kd.R_drewN | apply Kd.R_drew)); exact HO_9.out) hb); have n3_ := Aside0.mk (Kd.R_below (by (with_reducible repeat (first | apply Kd.R_alloc | apply Kd.R_drewN | apply Kd.R_drew)); exact HO_11.out) hb); have n4_ := Aside0.mk (Kd.R_below (by (with_reducible repeat (first | apply Kd.R_alloc | apply Kd.R_drewN | apply Kd.R_drew)); exact HO_12.out) hb); have n5_ := Aside0.mk (Kd.R_below (by (with_reducible repeat (first | apply Kd.R_alloc | apply Kd.R_drewN | apply Kd.R_drew)); exact HO_565002.out) hb); have n6_ := Aside0.mk (Kd.R_below (by (with_reducible repeat (first | apply Kd.R_alloc | apply Kd.R_drewN | apply Kd.R_drew)); exact HO576.out) hb); have n7_ := Aside0.mk (Kd.R_below (by (with_reducible repeat (first | apply Kd.R_alloc | apply Kd.R_drewN | apply Kd.R_drew)); exact HO582.out) hb); have n8_ := Aside0.mk (blk_below (g := gb538) (o := .cells #[.int .i64 a1_0, .int .i64 a1_1, .slice A1_2 l1_2.length c1_2] 42 (0, 0)) (by (with_reducible repeat (first | refine blk_drewN ?_ _ | refine blk_drew ?_ | refine blk_alloc ?_ _)); exact BK538.out) hb); have n9_ := Aside0.mk (blk_below (g := gb564) (o := .cells #[.int .i64 t559, .int .i64 t560, .slice Ao33 t561.length co33] 50 (0, 0)) (by (with_reducible repeat (first | refine blk_drewN ?_ _ | refine blk_drew ?_ | refine blk_alloc ?_ _)); exact BK564.out) hb); have n10_ := Aside0.mk (below_step (by repeat (first | (with_reducible first | exact HB.out | apply below_alloc | apply pw_below_drewN | apply below_drew1 | refine below_set ?_ GE538.out | refine below_set ?_ GE564.out) | exact HB.out)) hb); clear HO_6; clear HO_7; clear HO_9; clear HO_11; clear HO_12; clear HO_565002; clear HO576; clear HO582; clear BK538; clear BK564; clear HB; have HO_6 := n0_; have HO_7 := n1_; have HO_9 := n2_; have HO_11 := n3_; have HO_12 := n4_; have HO_565002 := n5_; have HO576 := n6_; have HO582 := n7_; have BK538 := n8_; have BK564 := n9_; have HB := n10_; clear n0_ n1_ n2_ n3_ n4_ n5_ n6_ n7_ n8_ n9_ n10_; (try clear hb); (try clear hb2); (try clear hk); (try clear hi)))
            go_meet
            case rel => exact ⟨_, (true), (by first | rfl | (simp; done) | (simp [*]; done)), H', ⟨by have := HJ16.out; first | omega | exact Nat.le_refl _⟩, ⟨by (with_reducible repeat (first | apply Kd.R_alloc | apply Kd.R_drewN | apply Kd.R_drew)); exact HO_6.out⟩, ⟨by (with_reducible repeat (first | apply Kd.R_alloc | apply Kd.R_drewN | apply Kd.R_drew)); exact Kd.R_mono HO_7.out (fun _ hk => ⟨hk.2.1, hk.2.2.1⟩)⟩, ⟨by (with_reducible repeat (first | apply Kd.R_alloc | apply Kd.R_drewN | apply Kd.R_drew)); exact HO_11.out⟩, ⟨by (with_reducible repeat (first | apply Kd.R_alloc | apply Kd.R_drewN | apply Kd.R_drew)); exact Kd.R_mono HO_12.out (fun _ hk => ⟨hk.1, hk.2.2.1⟩)⟩, ⟨by (with_reducible repeat (first | apply Kd.R_alloc | apply Kd.R_drewN | apply Kd.R_drew)); exact Kd.R_mono HO_565002.out (fun _ hk => ⟨hk.1, hk.2.2.1⟩)⟩, ⟨by (with_reducible repeat (first | refine blk_drewN ?_ _ | refine blk_drew ?_ | refine blk_alloc ?_ _)); exact BK538.out⟩, ⟨by (with_reducible repeat (first | refine blk_drewN ?_ _ | refine blk_drew ?_ | refine blk_alloc ?_ _)); exact BK564.out⟩, ⟨by repeat (first | (with_reducible first | exact HB.out | apply below_alloc | apply pw_below_drewN | apply below_drew1 | refine below_set ?_ GE538.out | refine below_set ?_ GE564.out) | exact HB.out)⟩⟩
          ·replace c75 := Bool.eq_false_iff.mpr c75
           subst c75
           have H1 : (laws_FnExactAskFor.j1 kj16 l0 t549 t552 t555 t565 t568 true a1_0 a1_1 l1_2) = some r := by rw [if_neg (show ¬ (false = true) by decide)] at H; exact H
           clear H
           have H := H1
           clear H1
           have H' := Aside0.mk H
           clear H
           obtain ⟨Ao88, co88, eo88⟩ := Kd.R_slice HO_11.out
           subst eo88
           obtain ⟨Ao89, co89, eo89⟩ := Kd.R_slice HO_6.out
           subst eo89
           go_wp2_with (first | (go_at_call 21; (with_reducible refine (laws_eqIntS.calls kj16 _ _ t565 _ _ t549 false _ ?side1 ?side2 ?side3 ?side4 A74.out).mono ?_); (case side1 => repeat (first | exact (Kd.R_reads' HO_11.out).2.2 | (with_reducible refine Kd.C_alloc ?_ _) | (with_reducible refine Kd.C_drewN ?_ _) | (with_reducible refine Kd.C_drew ?_))); (case side2 => exact (Kd.R_reads' HO_11.out).2.1); (case side3 => repeat (first | exact (Kd.R_reads' HO_6.out).2.2 | (with_reducible refine Kd.C_alloc ?_ _) | (with_reducible refine Kd.C_drewN ?_ _) | (with_reducible refine Kd.C_drew ?_))); (case side4 => exact (Kd.R_reads' HO_6.out).2.1); rintro e w' ⟨rfl, ⟨nd, rfl⟩⟩))
           go_meet
           case rel => exact ⟨_, (true), (by first | rfl | (simp; done) | (simp [*]; done)), H', ⟨by have := HJ16.out; first | omega | exact Nat.le_refl _⟩, ⟨by (with_reducible repeat (first | apply Kd.R_alloc | apply Kd.R_drewN | apply Kd.R_drew)); exact HO_6.out⟩, ⟨by (with_reducible repeat (first | apply Kd.R_alloc | apply Kd.R_drewN | apply Kd.R_drew)); exact Kd.R_mono HO_7.out (fun _ hk => ⟨hk.2.1, hk.2.2.1⟩)⟩, ⟨by (with_reducible repeat (first | apply Kd.R_alloc | apply Kd.R_drewN | apply Kd.R_drew)); exact HO_11.out⟩, ⟨by (with_reducible repeat (first | apply Kd.R_alloc | apply Kd.R_drewN | apply Kd.R_drew)); exact Kd.R_mono HO_12.out (fun _ hk => ⟨hk.1, hk.2.2.1⟩)⟩, ⟨by (with_reducible repeat (first | apply Kd.R_alloc | apply Kd.R_drewN | apply Kd.R_drew)); exact Kd.R_mono HO_565002.out (fun _ hk => ⟨hk.1, hk.2.2.1⟩)⟩, ⟨by (with_reducible repeat (first | refine blk_drewN ?_ _ | refine blk_drew ?_ | refine blk_alloc ?_ _)); exact BK538.out⟩, ⟨by (with_reducible repeat (first | refine blk_drewN ?_ _ | refine blk_drew ?_ | refine blk_alloc ?_ _)); exact BK564.out⟩, ⟨by repeat (first | (with_reducible first | exact HB.out | apply below_alloc | apply pw_below_drewN | apply below_drew1 | refine below_set ?_ GE538.out | refine below_set ?_ GE564.out) | exact HB.out)⟩⟩
        case rest =>
         clear HC61
         try clear c1
         try clear c2
         try clear p2
         try clear c3
         try clear c4
         try clear c4b0
         try clear c5
         try clear c6
         try clear c7
         try clear c7b0
         try clear c21
         try clear c30
         try clear c31
         try clear c32
         try clear c33
         try clear c34
         try clear c35
         try clear c36
         try clear c37
         try clear c38
         try clear c39
         try clear c52
         try clear c55
         try clear c58
         try clear c70
         try clear c73
         try clear c73b0
         try clear c75
         try clear c77
         try clear hcz19_0
         try clear hcz19_1
         try clear hcz19_2
         try clear hcz28_0
         try clear hcz28_1
         try clear hcz28_2
         try clear hcz32_0
         try clear hcz32_1
         try clear hcz32_2
         try clear hcz71_0
         try clear hcz71_1
         try clear hcz71_2
         try clear hcz9_0
         try clear hcz9_1
         try clear hcz9_2
         try clear hfz19_0
         try clear hfz19_1
         try clear hfz19_2
         try clear hfz28_0
         try clear hfz28_1
         try clear hfz28_2
         try clear hfz32_0
         try clear hfz32_1
         try clear hfz32_2
         try clear hfz71_0
         try clear hfz71_1
         try clear hfz71_2
         try clear hfz9_0
         try clear hfz9_1
         try clear hfz9_2
         try clear p2
         obtain ⟨kq, x99_60, rfl, HA, HJ60, HO_6, HO_7, HO_11, HO_12, HO_565002, BK538, BK564, HB⟩ := hcut
         have hl565002_60 := (Kd.R_reads' HO_565002.out).1
         rw [hl565002_60] at HO_565002
         (try simp only [hl565002_60])
         (try simp only [hl565002_60] at BK538)
         (try simp only [hl565002_60] at BK564)
         (try simp only [hl565002_60] at HO_6)
         (try simp only [hl565002_60] at HO_7)
         (try simp only [hl565002_60] at HO_11)
         (try simp only [hl565002_60] at HO_12)
         cases kq with
         | zero => exact absurd HA.out (by simp [laws_FnExactAskFor.j1])
         | succ kj60 =>
          have H := HA.out
          clear HA
          simp only [laws_FnExactAskFor.j1] at H
          by_cases c90 : x99_60 = true
          ·subst c90
           have H1 : (some false) = some r := by rw [if_pos rfl] at H; exact H
           clear H
           have H := H1
           clear H1
           obtain rfl := Option.some.inj H
           go_wp2
           go_ret
           exact ⟨by first | rfl | (simp [errW_none, errW_some] <;> rfl) | (simp [*, errW_none, errW_some] <;> rfl), by repeat (first | (with_reducible first | exact HB.out | apply below_alloc | apply pw_below_drewN | apply below_drew1 | refine below_set ?_ GE538.out | refine below_set ?_ GE564.out) | exact HB.out)⟩
          ·replace c90 := Bool.eq_false_iff.mpr c90
           subst c90
           have H1 : ((laws_markIntS.f kj60 t565 1).bind fun bt590 => ((laws_markHaveS.f kj60 t568 bt590.1).bind fun bt592 => ((laws_heldIntS.f kj60 bt590.2 1).bind fun t594 => (if t594 < 0 then (some false) else ((laws_heldHaveS.f kj60 bt592.2 t594).bind fun t595 => (if t595 < 0 then (some false) else (if t595 = bt592.1 then ((laws_toHaveS.f kj60 l0).bind fun t596 => ((laws_toSummary.f kj60 a1_0 a1_1 l1_2).bind fun bt599 => ((impl_AskFor.f kj60 t596 bt599.1 bt599.2.1 bt599.2.2).bind fun bt604 => ((laws_eqIntS.f kj60 bt604.1 t549).bind fun t611 => (if t611 = true then ((laws_eqHaveS.f kj60 bt604.2.1 t552).bind fun t612 => (if t612 = true then (laws_FnExactAskFor.j2 kj60 bt590.2 bt592.2 bt592.1 (bt604.2.2 != t555)) else (laws_FnExactAskFor.j2 kj60 bt590.2 bt592.2 bt592.1 true))) else (laws_FnExactAskFor.j2 kj60 bt590.2 bt592.2 bt592.1 true)))))) else (some false)))))))) = some r := by rw [if_neg (show ¬ (false = true) by decide)] at H; exact H
           clear H
           have H := H1
           clear H1
           replace H := Option.bind_eq_some_iff.mp H
           obtain ⟨⟨t590, t591⟩, A910, H⟩ := H
           replace H : ((laws_markHaveS.f kj60 t568 t590).bind fun bt592 => ((laws_heldIntS.f kj60 t591 1).bind fun t594 => (if t594 < 0 then (some false) else ((laws_heldHaveS.f kj60 bt592.2 t594).bind fun t595 => (if t595 < 0 then (some false) else (if t595 = bt592.1 then ((laws_toHaveS.f kj60 l0).bind fun t596 => ((laws_toSummary.f kj60 a1_0 a1_1 l1_2).bind fun bt599 => ((impl_AskFor.f kj60 t596 bt599.1 bt599.2.1 bt599.2.2).bind fun bt604 => ((laws_eqIntS.f kj60 bt604.1 t549).bind fun t611 => (if t611 = true then ((laws_eqHaveS.f kj60 bt604.2.1 t552).bind fun t612 => (if t612 = true then (laws_FnExactAskFor.j2 kj60 t591 bt592.2 bt592.1 (bt604.2.2 != t555)) else (laws_FnExactAskFor.j2 kj60 t591 bt592.2 bt592.1 true))) else (laws_FnExactAskFor.j2 kj60 t591 bt592.2 bt592.1 true)))))) else (some false))))))) = some r := H
           have A91 := Aside0.mk A910
           clear A910
           replace H := Option.bind_eq_some_iff.mp H
           obtain ⟨⟨t592, t593⟩, A920, H⟩ := H
           replace H : ((laws_heldIntS.f kj60 t591 1).bind fun t594 => (if t594 < 0 then (some false) else ((laws_heldHaveS.f kj60 t593 t594).bind fun t595 => (if t595 < 0 then (some false) else (if t595 = t592 then ((laws_toHaveS.f kj60 l0).bind fun t596 => ((laws_toSummary.f kj60 a1_0 a1_1 l1_2).bind fun bt599 => ((impl_AskFor.f kj60 t596 bt599.1 bt599.2.1 bt599.2.2).bind fun bt604 => ((laws_eqIntS.f kj60 bt604.1 t549).bind fun t611 => (if t611 = true then ((laws_eqHaveS.f kj60 bt604.2.1 t552).bind fun t612 => (if t612 = true then (laws_FnExactAskFor.j2 kj60 t591 t593 t592 (bt604.2.2 != t555)) else (laws_FnExactAskFor.j2 kj60 t591 t593 t592 true))) else (laws_FnExactAskFor.j2 kj60 t591 t593 t592 true)))))) else (some false)))))) = some r := H
           have A92 := Aside0.mk A920
           clear A920
           replace H := Option.bind_eq_some_iff.mp H
           obtain ⟨t594, A930, H⟩ := H
           replace H : (if t594 < 0 then (some false) else ((laws_heldHaveS.f kj60 t593 t594).bind fun t595 => (if t595 < 0 then (some false) else (if t595 = t592 then ((laws_toHaveS.f kj60 l0).bind fun t596 => ((laws_toSummary.f kj60 a1_0 a1_1 l1_2).bind fun bt599 => ((impl_AskFor.f kj60 t596 bt599.1 bt599.2.1 bt599.2.2).bind fun bt604 => ((laws_eqIntS.f kj60 bt604.1 t549).bind fun t611 => (if t611 = true then ((laws_eqHaveS.f kj60 bt604.2.1 t552).bind fun t612 => (if t612 = true then (laws_FnExactAskFor.j2 kj60 t591 t593 t592 (bt604.2.2 != t555)) else (laws_FnExactAskFor.j2 kj60 t591 t593 t592 true))) else (laws_FnExactAskFor.j2 kj60 t591 t593 t592 true)))))) else (some false))))) = some r := H
           have A93 := Aside0.mk A930
           clear A930
           by_cases c94 : t594 < 0
           ·rw [if_pos c94] at H
            have c94b0 : decide (t594 < 0) = true := decide_eq_true c94
            clear c94
            obtain rfl := Option.some.inj H
            obtain ⟨Ao95, co95, eo95⟩ := Kd.R_slice HO_11.out
            subst eo95
            go_wp2_with (first | ((with_reducible refine gate_callee (f := 23) rfl ?_); refine goesL_ (some 102) rfl rfl Try.func23 (by kernel_rfl) rfl #[.slice Ao95 t565.length co95, .int .i64 1] rfl (by (try simp only [List.map_toArray, List.map_cons, List.map_nil]); first | done | rfl | (simp only [List.length_drop, List.length_take]; rfl)) ?_; (with_reducible refine (laws_markIntS.calls kj60 (fun k_ => some k_ = (.slice Ao95 t565.length co95 : Value).ownBlock) (.slice Ao95 t565.length co95) t565 1 t590 t591 w _ ?side1 ?side2 A91.out).mono ?_); (case side1 => repeat (first | (with_reducible first | exact HB.out | apply below_alloc | apply pw_below_drewN | apply below_drew1 | refine below_set ?_ GE538.out | refine below_set ?_ GE564.out) | exact HB.out)); (case side2 => exact Kd.R_tight rfl HO_11.out); rintro e w96 ⟨rfl, hy0, hb, hkp⟩; refine ⟨_, rfl, ?_⟩; have n0_ := Aside0.mk (Kd.R_mono (ok' := fun k_ => some k_ ≠ (.slice Ao95 t565.length co95 : Value).ownBlock) (Kd.R_keptB (HO_6.out) hkp (fun k_ hk_ hs_ => (hk_) hs_)) (fun k_ hk_ => hk_.1)); have n1_ := Aside0.mk (Kd.R_mono (ok' := fun k_ => some k_ ≠ (v569 : Value).ownBlock ∧ some k_ ≠ (.slice Ao33 t587.length co33 : Value).ownBlock) (Kd.R_keptB ((Kd.R_apart' HO_7.out (Kd.R_typed HO_11.out) (by decide))) hkp (fun k_ hk_ hs_ => (hk_.2) hs_)) (fun k_ hk_ => ⟨hk_.1.1.1, hk_.1.1.2⟩)); have n2_ := Aside0.mk (Kd.R_reok rfl hy0 (fun k_ e_ => HO_11.out.1 k_ e_)); have n3_ := Aside0.mk (Kd.R_mono (ok' := fun k_ => some k_ ≠ (v553 : Value).ownBlock ∧ some k_ ≠ (.slice Ao33 t587.length co33 : Value).ownBlock) (Kd.R_keptB ((Kd.R_apart' HO_12.out (Kd.R_typed HO_11.out) (by decide))) hkp (fun k_ hk_ hs_ => (hk_.2) hs_)) (fun k_ hk_ => ⟨hk_.1.1.1, hk_.1.1.2⟩)); have n4_ := Aside0.mk (Kd.R_mono (ok' := fun k_ => some k_ ≠ (v553 : Value).ownBlock ∧ some k_ ≠ (v569 : Value).ownBlock) (Kd.R_keptB ((Kd.R_apart' HO_565002.out (Kd.R_typed HO_11.out) (by decide))) hkp (fun k_ hk_ hs_ => (hk_.2) hs_)) (fun k_ hk_ => ⟨hk_.1.1.1, hk_.1.1.2⟩)); have n5_ := Aside0.mk (blk_kept (by (with_reducible repeat (first | refine blk_drewN ?_ _ | refine blk_drew ?_ | refine blk_alloc ?_ _)); exact BK538.out) hkp (fun hs_ => (fun e_ => (Kd.R_ne HO_11.out BK538.out (by decide)) e_) hs_)); have n6_ := Aside0.mk (blk_kept (by (with_reducible repeat (first | refine blk_drewN ?_ _ | refine blk_drew ?_ | refine blk_alloc ?_ _)); exact BK564.out) hkp (fun hs_ => (fun e_ => (Kd.R_ne HO_11.out BK564.out (by decide)) e_) hs_)); have n7_ := Aside0.mk (hb); clear HO_6; clear HO_7; clear HO_11; clear HO_12; clear HO_565002; clear BK538; clear BK564; clear HB; have HO_6 := n0_; have HO_7 := n1_; have HO_11 := n2_; have HO_12 := n3_; have HO_565002 := n4_; have BK538 := n5_; have BK564 := n6_; have HB := n7_; clear n0_ n1_ n2_ n3_ n4_ n5_ n6_ n7_; (try clear hb); (try clear hkp); (try clear hy0); obtain ⟨Ao97, co97, eo97⟩ := Kd.R_slice HO_12.out; subst eo97) | ((with_reducible refine gate_callee (f := 38) rfl ?_); refine goesL_ (some 105) rfl rfl Try.func38 (by kernel_rfl) rfl #[.slice Ao97 t568.length co97, .int .i64 t590] rfl (by (try simp only [List.map_toArray, List.map_cons, List.map_nil]); first | done | rfl | (simp only [List.length_drop, List.length_take]; rfl)) ?_; (with_reducible refine (laws_markHaveS.calls kj60 (fun k_ => some k_ = (.slice Ao97 t568.length co97 : Value).ownBlock) (.slice Ao97 t568.length co97) t568 t590 t592 t593 w _ ?side1 ?side2 A92.out).mono ?_); (case side1 => repeat (first | (with_reducible first | exact HB.out | apply below_alloc | apply pw_below_drewN | apply below_drew1 | refine below_set ?_ GE538.out | refine below_set ?_ GE564.out) | exact HB.out)); (case side2 => exact Kd.R_tight rfl HO_12.out); rintro e w98 ⟨rfl, hy0, hb, hkp⟩; refine ⟨_, rfl, ?_⟩; have n0_ := Aside0.mk (Kd.R_mono (ok' := fun k_ => some k_ ≠ (.slice Ao95 t565.length co95 : Value).ownBlock) (Kd.R_keptB ((Kd.R_apart' HO_6.out (Kd.R_typed HO_12.out) (by decide))) hkp (fun k_ hk_ hs_ => (hk_.2) hs_)) (fun k_ hk_ => hk_.1.1)); have n1_ := Aside0.mk (Kd.R_mono (ok' := fun k_ => some k_ ≠ (.slice Ao97 t568.length co97 : Value).ownBlock ∧ some k_ ≠ (.slice Ao33 t587.length co33 : Value).ownBlock) (Kd.R_keptB (HO_7.out) hkp (fun k_ hk_ hs_ => (hk_.1) hs_)) (fun k_ hk_ => ⟨hk_.1.1, hk_.1.2⟩)); have n2_ := Aside0.mk (Kd.R_mono (ok' := fun k_ => some k_ ≠ (v550 : Value).ownBlock) (Kd.R_keptB ((Kd.R_apart' HO_11.out (Kd.R_typed HO_12.out) (by decide))) hkp (fun k_ hk_ hs_ => (hk_.2) hs_)) (fun k_ hk_ => hk_.1.1)); have n3_ := Aside0.mk (Kd.R_reok rfl hy0 (fun k_ e_ => HO_12.out.1 k_ e_)); have n4_ := Aside0.mk (Kd.R_mono (ok' := fun k_ => some k_ ≠ (v553 : Value).ownBlock ∧ some k_ ≠ (.slice Ao97 t568.length co97 : Value).ownBlock) (Kd.R_keptB (HO_565002.out) hkp (fun k_ hk_ hs_ => (hk_.2) hs_)) (fun k_ hk_ => ⟨hk_.1.1, hk_.1.2⟩)); have n5_ := Aside0.mk (blk_kept (by (with_reducible repeat (first | refine blk_drewN ?_ _ | refine blk_drew ?_ | refine blk_alloc ?_ _)); exact BK538.out) hkp (fun hs_ => (fun e_ => (Kd.R_ne HO_12.out BK538.out (by decide)) e_) hs_)); have n6_ := Aside0.mk (blk_kept (by (with_reducible repeat (first | refine blk_drewN ?_ _ | refine blk_drew ?_ | refine blk_alloc ?_ _)); exact BK564.out) hkp (fun hs_ => (fun e_ => (Kd.R_ne HO_12.out BK564.out (by decide)) e_) hs_)); have n7_ := Aside0.mk (hb); clear HO_6; clear HO_7; clear HO_11; clear HO_12; clear HO_565002; clear BK538; clear BK564; clear HB; have HO_6 := n0_; have HO_7 := n1_; have HO_11 := n2_; have HO_12 := n3_; have HO_565002 := n4_; have BK538 := n5_; have BK564 := n6_; have HB := n7_; clear n0_ n1_ n2_ n3_ n4_ n5_ n6_ n7_; (try clear hb); (try clear hkp); (try clear hy0)) | ((with_reducible refine gate_callee (f := 27) rfl ?_); refine goesL_ (some 108) rfl rfl Try.func27 (by kernel_rfl) rfl #[.slice Ao95 t591.length co95, .int .i64 1] rfl (by (try simp only [List.map_toArray, List.map_cons, List.map_nil]); first | done | (rw [show t591.length = t565.length from (Kd.R_reads' HO_11.out).1.symm] <;> rfl) | rfl | (simp only [List.length_drop, List.length_take]; rfl)) ?_; (with_reducible refine (laws_heldIntS.calls kj60 _ _ t591 1 t594 _ ?side1 ?side2 A93.out).mono ?_); (case side1 => repeat (first | exact (Kd.R_reads' HO_11.out).2.2 | (with_reducible refine Kd.C_alloc ?_ _) | (with_reducible refine Kd.C_drewN ?_ _) | (with_reducible refine Kd.C_drew ?_))); (case side2 => rw [show t591.length = t565.length from (Kd.R_reads' HO_11.out).1.symm]; exact (Kd.R_reads' HO_11.out).2.1); rintro e w' ⟨rfl, ⟨nd, rfl⟩⟩; refine ⟨_, rfl, ?_⟩))
            go_ret
            exact ⟨by first | rfl | (simp [errW_none, errW_some] <;> rfl) | (simp [*, errW_none, errW_some] <;> rfl), by repeat (first | (with_reducible first | exact HB.out | apply below_alloc | apply pw_below_drewN | apply below_drew1 | refine below_set ?_ GE538.out | refine below_set ?_ GE564.out) | exact HB.out)⟩
           ·rw [if_neg c94] at H
            have c94b0 : decide (t594 < 0) = false := decide_eq_false c94
            clear c94
            replace H := Option.bind_eq_some_iff.mp H
            obtain ⟨t595, A990, H⟩ := H
            replace H : (if t595 < 0 then (some false) else (if t595 = t592 then ((laws_toHaveS.f kj60 l0).bind fun t596 => ((laws_toSummary.f kj60 a1_0 a1_1 l1_2).bind fun bt599 => ((impl_AskFor.f kj60 t596 bt599.1 bt599.2.1 bt599.2.2).bind fun bt604 => ((laws_eqIntS.f kj60 bt604.1 t549).bind fun t611 => (if t611 = true then ((laws_eqHaveS.f kj60 bt604.2.1 t552).bind fun t612 => (if t612 = true then (laws_FnExactAskFor.j2 kj60 t591 t593 t592 (bt604.2.2 != t555)) else (laws_FnExactAskFor.j2 kj60 t591 t593 t592 true))) else (laws_FnExactAskFor.j2 kj60 t591 t593 t592 true)))))) else (some false))) = some r := H
            have A99 := Aside0.mk A990
            clear A990
            by_cases c100 : t595 < 0
            ·rw [if_pos c100] at H
             have c100b0 : decide (t595 < 0) = true := decide_eq_true c100
             clear c100
             obtain rfl := Option.some.inj H
             obtain ⟨Ao101, co101, eo101⟩ := Kd.R_slice HO_11.out
             subst eo101
             go_wp2_with (first | ((with_reducible refine gate_callee (f := 23) rfl ?_); refine goesL_ (some 102) rfl rfl Try.func23 (by kernel_rfl) rfl #[.slice Ao101 t565.length co101, .int .i64 1] rfl (by (try simp only [List.map_toArray, List.map_cons, List.map_nil]); first | done | rfl | (simp only [List.length_drop, List.length_take]; rfl)) ?_; (with_reducible refine (laws_markIntS.calls kj60 (fun k_ => some k_ = (.slice Ao101 t565.length co101 : Value).ownBlock) (.slice Ao101 t565.length co101) t565 1 t590 t591 w _ ?side1 ?side2 A91.out).mono ?_); (case side1 => repeat (first | (with_reducible first | exact HB.out | apply below_alloc | apply pw_below_drewN | apply below_drew1 | refine below_set ?_ GE538.out | refine below_set ?_ GE564.out) | exact HB.out)); (case side2 => exact Kd.R_tight rfl HO_11.out); rintro e w102 ⟨rfl, hy0, hb, hkp⟩; refine ⟨_, rfl, ?_⟩; have n0_ := Aside0.mk (Kd.R_mono (ok' := fun k_ => some k_ ≠ (.slice Ao101 t565.length co101 : Value).ownBlock) (Kd.R_keptB (HO_6.out) hkp (fun k_ hk_ hs_ => (hk_) hs_)) (fun k_ hk_ => hk_.1)); have n1_ := Aside0.mk (Kd.R_mono (ok' := fun k_ => some k_ ≠ (v569 : Value).ownBlock ∧ some k_ ≠ (.slice Ao33 t587.length co33 : Value).ownBlock) (Kd.R_keptB ((Kd.R_apart' HO_7.out (Kd.R_typed HO_11.out) (by decide))) hkp (fun k_ hk_ hs_ => (hk_.2) hs_)) (fun k_ hk_ => ⟨hk_.1.1.1, hk_.1.1.2⟩)); have n2_ := Aside0.mk (Kd.R_reok rfl hy0 (fun k_ e_ => HO_11.out.1 k_ e_)); have n3_ := Aside0.mk (Kd.R_mono (ok' := fun k_ => some k_ ≠ (v553 : Value).ownBlock ∧ some k_ ≠ (.slice Ao33 t587.length co33 : Value).ownBlock) (Kd.R_keptB ((Kd.R_apart' HO_12.out (Kd.R_typed HO_11.out) (by decide))) hkp (fun k_ hk_ hs_ => (hk_.2) hs_)) (fun k_ hk_ => ⟨hk_.1.1.1, hk_.1.1.2⟩)); have n4_ := Aside0.mk (Kd.R_mono (ok' := fun k_ => some k_ ≠ (v553 : Value).ownBlock ∧ some k_ ≠ (v569 : Value).ownBlock) (Kd.R_keptB ((Kd.R_apart' HO_565002.out (Kd.R_typed HO_11.out) (by decide))) hkp (fun k_ hk_ hs_ => (hk_.2) hs_)) (fun k_ hk_ => ⟨hk_.1.1.1, hk_.1.1.2⟩)); have n5_ := Aside0.mk (blk_kept (by (with_reducible repeat (first | refine blk_drewN ?_ _ | refine blk_drew ?_ | refine blk_alloc ?_ _)); exact BK538.out) hkp (fun hs_ => (fun e_ => (Kd.R_ne HO_11.out BK538.out (by decide)) e_) hs_)); have n6_ := Aside0.mk (blk_kept (by (with_reducible repeat (first | refine blk_drewN ?_ _ | refine blk_drew ?_ | refine blk_alloc ?_ _)); exact BK564.out) hkp (fun hs_ => (fun e_ => (Kd.R_ne HO_11.out BK564.out (by decide)) e_) hs_)); have n7_ := Aside0.mk (hb); clear HO_6; clear HO_7; clear HO_11; clear HO_12; clear HO_565002; clear BK538; clear BK564; clear HB; have HO_6 := n0_; have HO_7 := n1_; have HO_11 := n2_; have HO_12 := n3_; have HO_565002 := n4_; have BK538 := n5_; have BK564 := n6_; have HB := n7_; clear n0_ n1_ n2_ n3_ n4_ n5_ n6_ n7_; (try clear hb); (try clear hkp); (try clear hy0); obtain ⟨Ao103, co103, eo103⟩ := Kd.R_slice HO_12.out; subst eo103) | ((with_reducible refine gate_callee (f := 38) rfl ?_); refine goesL_ (some 105) rfl rfl Try.func38 (by kernel_rfl) rfl #[.slice Ao103 t568.length co103, .int .i64 t590] rfl (by (try simp only [List.map_toArray, List.map_cons, List.map_nil]); first | done | rfl | (simp only [List.length_drop, List.length_take]; rfl)) ?_; (with_reducible refine (laws_markHaveS.calls kj60 (fun k_ => some k_ = (.slice Ao103 t568.length co103 : Value).ownBlock) (.slice Ao103 t568.length co103) t568 t590 t592 t593 w _ ?side1 ?side2 A92.out).mono ?_); (case side1 => repeat (first | (with_reducible first | exact HB.out | apply below_alloc | apply pw_below_drewN | apply below_drew1 | refine below_set ?_ GE538.out | refine below_set ?_ GE564.out) | exact HB.out)); (case side2 => exact Kd.R_tight rfl HO_12.out); rintro e w104 ⟨rfl, hy0, hb, hkp⟩; refine ⟨_, rfl, ?_⟩; have n0_ := Aside0.mk (Kd.R_mono (ok' := fun k_ => some k_ ≠ (.slice Ao101 t565.length co101 : Value).ownBlock) (Kd.R_keptB ((Kd.R_apart' HO_6.out (Kd.R_typed HO_12.out) (by decide))) hkp (fun k_ hk_ hs_ => (hk_.2) hs_)) (fun k_ hk_ => hk_.1.1)); have n1_ := Aside0.mk (Kd.R_mono (ok' := fun k_ => some k_ ≠ (.slice Ao103 t568.length co103 : Value).ownBlock ∧ some k_ ≠ (.slice Ao33 t587.length co33 : Value).ownBlock) (Kd.R_keptB (HO_7.out) hkp (fun k_ hk_ hs_ => (hk_.1) hs_)) (fun k_ hk_ => ⟨hk_.1.1, hk_.1.2⟩)); have n2_ := Aside0.mk (Kd.R_mono (ok' := fun k_ => some k_ ≠ (v550 : Value).ownBlock) (Kd.R_keptB ((Kd.R_apart' HO_11.out (Kd.R_typed HO_12.out) (by decide))) hkp (fun k_ hk_ hs_ => (hk_.2) hs_)) (fun k_ hk_ => hk_.1.1)); have n3_ := Aside0.mk (Kd.R_reok rfl hy0 (fun k_ e_ => HO_12.out.1 k_ e_)); have n4_ := Aside0.mk (Kd.R_mono (ok' := fun k_ => some k_ ≠ (v553 : Value).ownBlock ∧ some k_ ≠ (.slice Ao103 t568.length co103 : Value).ownBlock) (Kd.R_keptB (HO_565002.out) hkp (fun k_ hk_ hs_ => (hk_.2) hs_)) (fun k_ hk_ => ⟨hk_.1.1, hk_.1.2⟩)); have n5_ := Aside0.mk (blk_kept (by (with_reducible repeat (first | refine blk_drewN ?_ _ | refine blk_drew ?_ | refine blk_alloc ?_ _)); exact BK538.out) hkp (fun hs_ => (fun e_ => (Kd.R_ne HO_12.out BK538.out (by decide)) e_) hs_)); have n6_ := Aside0.mk (blk_kept (by (with_reducible repeat (first | refine blk_drewN ?_ _ | refine blk_drew ?_ | refine blk_alloc ?_ _)); exact BK564.out) hkp (fun hs_ => (fun e_ => (Kd.R_ne HO_12.out BK564.out (by decide)) e_) hs_)); have n7_ := Aside0.mk (hb); clear HO_6; clear HO_7; clear HO_11; clear HO_12; clear HO_565002; clear BK538; clear BK564; clear HB; have HO_6 := n0_; have HO_7 := n1_; have HO_11 := n2_; have HO_12 := n3_; have HO_565002 := n4_; have BK538 := n5_; have BK564 := n6_; have HB := n7_; clear n0_ n1_ n2_ n3_ n4_ n5_ n6_ n7_; (try clear hb); (try clear hkp); (try clear hy0)) | ((with_reducible refine gate_callee (f := 27) rfl ?_); refine goesL_ (some 108) rfl rfl Try.func27 (by kernel_rfl) rfl #[.slice Ao101 t591.length co101, .int .i64 1] rfl (by (try simp only [List.map_toArray, List.map_cons, List.map_nil]); first | done | (rw [show t591.length = t565.length from (Kd.R_reads' HO_11.out).1.symm] <;> rfl) | rfl | (simp only [List.length_drop, List.length_take]; rfl)) ?_; (with_reducible refine (laws_heldIntS.calls kj60 _ _ t591 1 t594 _ ?side1 ?side2 A93.out).mono ?_); (case side1 => repeat (first | exact (Kd.R_reads' HO_11.out).2.2 | (with_reducible refine Kd.C_alloc ?_ _) | (with_reducible refine Kd.C_drewN ?_ _) | (with_reducible refine Kd.C_drew ?_))); (case side2 => rw [show t591.length = t565.length from (Kd.R_reads' HO_11.out).1.symm]; exact (Kd.R_reads' HO_11.out).2.1); rintro e w' ⟨rfl, ⟨nd, rfl⟩⟩; refine ⟨_, rfl, ?_⟩) | ((with_reducible refine gate_callee (f := 40) rfl ?_); refine goesL_ (some 113) rfl rfl Try.func40 (by kernel_rfl) rfl #[.slice Ao103 t593.length co103, .int .i64 t594] rfl (by (try simp only [List.map_toArray, List.map_cons, List.map_nil]); first | done | (rw [show t593.length = t568.length from (Kd.R_reads' HO_12.out).1.symm] <;> rfl) | rfl | (simp only [List.length_drop, List.length_take]; rfl)) ?_; (with_reducible refine (laws_heldHaveS.calls kj60 _ _ t593 t594 t595 _ ?side1 ?side2 A99.out).mono ?_); (case side1 => repeat (first | exact (Kd.R_reads' HO_12.out).2.2 | (with_reducible refine Kd.C_alloc ?_ _) | (with_reducible refine Kd.C_drewN ?_ _) | (with_reducible refine Kd.C_drew ?_))); (case side2 => rw [show t593.length = t568.length from (Kd.R_reads' HO_12.out).1.symm]; exact (Kd.R_reads' HO_12.out).2.1); rintro e w' ⟨rfl, ⟨nd, rfl⟩⟩; refine ⟨_, rfl, ?_⟩))
             go_ret
             exact ⟨by first | rfl | (simp [errW_none, errW_some] <;> rfl) | (simp [*, errW_none, errW_some] <;> rfl), by repeat (first | (with_reducible first | exact HB.out | apply below_alloc | apply pw_below_drewN | apply below_drew1 | refine below_set ?_ GE538.out | refine below_set ?_ GE564.out) | exact HB.out)⟩
            ·rw [if_neg c100] at H
             have c100b0 : decide (t595 < 0) = false := decide_eq_false c100
             clear c100
             by_cases c105 : t595 = t592
             ·rw [if_pos c105] at H
              have c105b0 : (t595 == t592) = true := beq_iff_eq.mpr c105
              have c105b1 : (t595 != t592) = false := bne_eq_false_iff_eq.mpr c105
              clear c105
              replace H := Option.bind_eq_some_iff.mp H
              obtain ⟨t596, A1060, H⟩ := H
              replace H : ((laws_toSummary.f kj60 a1_0 a1_1 l1_2).bind fun bt599 => ((impl_AskFor.f kj60 t596 bt599.1 bt599.2.1 bt599.2.2).bind fun bt604 => ((laws_eqIntS.f kj60 bt604.1 t549).bind fun t611 => (if t611 = true then ((laws_eqHaveS.f kj60 bt604.2.1 t552).bind fun t612 => (if t612 = true then (laws_FnExactAskFor.j2 kj60 t591 t593 t592 (bt604.2.2 != t555)) else (laws_FnExactAskFor.j2 kj60 t591 t593 t592 true))) else (laws_FnExactAskFor.j2 kj60 t591 t593 t592 true))))) = some r := H
              have A106 := Aside0.mk A1060
              clear A1060
              replace H := Option.bind_eq_some_iff.mp H
              obtain ⟨⟨t599, t600, t601⟩, A1070, H⟩ := H
              replace H : ((impl_AskFor.f kj60 t596 t599 t600 t601).bind fun bt604 => ((laws_eqIntS.f kj60 bt604.1 t549).bind fun t611 => (if t611 = true then ((laws_eqHaveS.f kj60 bt604.2.1 t552).bind fun t612 => (if t612 = true then (laws_FnExactAskFor.j2 kj60 t591 t593 t592 (bt604.2.2 != t555)) else (laws_FnExactAskFor.j2 kj60 t591 t593 t592 true))) else (laws_FnExactAskFor.j2 kj60 t591 t593 t592 true)))) = some r := H
              have A107 := Aside0.mk A1070
              clear A1070
              replace H := Option.bind_eq_some_iff.mp H
              obtain ⟨⟨t604, t607, t610⟩, A1080, H⟩ := H
              replace H : ((laws_eqIntS.f kj60 t604 t549).bind fun t611 => (if t611 = true then ((laws_eqHaveS.f kj60 t607 t552).bind fun t612 => (if t612 = true then (laws_FnExactAskFor.j2 kj60 t591 t593 t592 (t610 != t555)) else (laws_FnExactAskFor.j2 kj60 t591 t593 t592 true))) else (laws_FnExactAskFor.j2 kj60 t591 t593 t592 true))) = some r := H
              have A108 := Aside0.mk A1080
              clear A1080
              have HC109 := Aside0.mk H
              clear H
              obtain ⟨Ao110, co110, eo110⟩ := Kd.R_slice HO_11.out
              subst eo110
              try go_wp2_with (first | ((with_reducible refine gate_callee (f := 23) rfl ?_); refine goesL_ (some 102) rfl rfl Try.func23 (by kernel_rfl) rfl #[.slice Ao110 t565.length co110, .int .i64 1] rfl (by (try simp only [List.map_toArray, List.map_cons, List.map_nil]); first | done | rfl | (simp only [List.length_drop, List.length_take]; rfl)) ?_; (with_reducible refine (laws_markIntS.calls kj60 (fun k_ => some k_ = (.slice Ao110 t565.length co110 : Value).ownBlock) (.slice Ao110 t565.length co110) t565 1 t590 t591 w _ ?side1 ?side2 A91.out).mono ?_); (case side1 => repeat (first | (with_reducible first | exact HB.out | apply below_alloc | apply pw_below_drewN | apply below_drew1 | refine below_set ?_ GE538.out | refine below_set ?_ GE564.out) | exact HB.out)); (case side2 => exact Kd.R_tight rfl HO_11.out); rintro e w111 ⟨rfl, hy0, hb, hkp⟩; refine ⟨_, rfl, ?_⟩; have n0_ := Aside0.mk (Kd.R_mono (ok' := fun k_ => some k_ ≠ (.slice Ao110 t565.length co110 : Value).ownBlock) (Kd.R_keptB (HO_6.out) hkp (fun k_ hk_ hs_ => (hk_) hs_)) (fun k_ hk_ => hk_.1)); have n1_ := Aside0.mk (Kd.R_mono (ok' := fun k_ => some k_ ≠ (v569 : Value).ownBlock ∧ some k_ ≠ (.slice Ao33 t587.length co33 : Value).ownBlock) (Kd.R_keptB ((Kd.R_apart' HO_7.out (Kd.R_typed HO_11.out) (by decide))) hkp (fun k_ hk_ hs_ => (hk_.2) hs_)) (fun k_ hk_ => ⟨hk_.1.1.1, hk_.1.1.2⟩)); have n2_ := Aside0.mk (Kd.R_reok rfl hy0 (fun k_ e_ => HO_11.out.1 k_ e_)); have n3_ := Aside0.mk (Kd.R_mono (ok' := fun k_ => some k_ ≠ (v553 : Value).ownBlock ∧ some k_ ≠ (.slice Ao33 t587.length co33 : Value).ownBlock) (Kd.R_keptB ((Kd.R_apart' HO_12.out (Kd.R_typed HO_11.out) (by decide))) hkp (fun k_ hk_ hs_ => (hk_.2) hs_)) (fun k_ hk_ => ⟨hk_.1.1.1, hk_.1.1.2⟩)); have n4_ := Aside0.mk (Kd.R_mono (ok' := fun k_ => some k_ ≠ (v553 : Value).ownBlock ∧ some k_ ≠ (v569 : Value).ownBlock) (Kd.R_keptB ((Kd.R_apart' HO_565002.out (Kd.R_typed HO_11.out) (by decide))) hkp (fun k_ hk_ hs_ => (hk_.2) hs_)) (fun k_ hk_ => ⟨hk_.1.1.1, hk_.1.1.2⟩)); have n5_ := Aside0.mk (blk_kept (by (with_reducible repeat (first | refine blk_drewN ?_ _ | refine blk_drew ?_ | refine blk_alloc ?_ _)); exact BK538.out) hkp (fun hs_ => (fun e_ => (Kd.R_ne HO_11.out BK538.out (by decide)) e_) hs_)); have n6_ := Aside0.mk (blk_kept (by (with_reducible repeat (first | refine blk_drewN ?_ _ | refine blk_drew ?_ | refine blk_alloc ?_ _)); exact BK564.out) hkp (fun hs_ => (fun e_ => (Kd.R_ne HO_11.out BK564.out (by decide)) e_) hs_)); have n7_ := Aside0.mk (hb); clear HO_6; clear HO_7; clear HO_11; clear HO_12; clear HO_565002; clear BK538; clear BK564; clear HB; have HO_6 := n0_; have HO_7 := n1_; have HO_11 := n2_; have HO_12 := n3_; have HO_565002 := n4_; have BK538 := n5_; have BK564 := n6_; have HB := n7_; clear n0_ n1_ n2_ n3_ n4_ n5_ n6_ n7_; (try clear hb); (try clear hkp); (try clear hy0); obtain ⟨Ao112, co112, eo112⟩ := Kd.R_slice HO_12.out; subst eo112) | ((with_reducible refine gate_callee (f := 38) rfl ?_); refine goesL_ (some 105) rfl rfl Try.func38 (by kernel_rfl) rfl #[.slice Ao112 t568.length co112, .int .i64 t590] rfl (by (try simp only [List.map_toArray, List.map_cons, List.map_nil]); first | done | rfl | (simp only [List.length_drop, List.length_take]; rfl)) ?_; (with_reducible refine (laws_markHaveS.calls kj60 (fun k_ => some k_ = (.slice Ao112 t568.length co112 : Value).ownBlock) (.slice Ao112 t568.length co112) t568 t590 t592 t593 w _ ?side1 ?side2 A92.out).mono ?_); (case side1 => repeat (first | (with_reducible first | exact HB.out | apply below_alloc | apply pw_below_drewN | apply below_drew1 | refine below_set ?_ GE538.out | refine below_set ?_ GE564.out) | exact HB.out)); (case side2 => exact Kd.R_tight rfl HO_12.out); rintro e w113 ⟨rfl, hy0, hb, hkp⟩; refine ⟨_, rfl, ?_⟩; have n0_ := Aside0.mk (Kd.R_mono (ok' := fun k_ => some k_ ≠ (.slice Ao110 t565.length co110 : Value).ownBlock) (Kd.R_keptB ((Kd.R_apart' HO_6.out (Kd.R_typed HO_12.out) (by decide))) hkp (fun k_ hk_ hs_ => (hk_.2) hs_)) (fun k_ hk_ => hk_.1.1)); have n1_ := Aside0.mk (Kd.R_mono (ok' := fun k_ => some k_ ≠ (.slice Ao112 t568.length co112 : Value).ownBlock ∧ some k_ ≠ (.slice Ao33 t587.length co33 : Value).ownBlock) (Kd.R_keptB (HO_7.out) hkp (fun k_ hk_ hs_ => (hk_.1) hs_)) (fun k_ hk_ => ⟨hk_.1.1, hk_.1.2⟩)); have n2_ := Aside0.mk (Kd.R_mono (ok' := fun k_ => some k_ ≠ (v550 : Value).ownBlock) (Kd.R_keptB ((Kd.R_apart' HO_11.out (Kd.R_typed HO_12.out) (by decide))) hkp (fun k_ hk_ hs_ => (hk_.2) hs_)) (fun k_ hk_ => hk_.1.1)); have n3_ := Aside0.mk (Kd.R_reok rfl hy0 (fun k_ e_ => HO_12.out.1 k_ e_)); have n4_ := Aside0.mk (Kd.R_mono (ok' := fun k_ => some k_ ≠ (v553 : Value).ownBlock ∧ some k_ ≠ (.slice Ao112 t568.length co112 : Value).ownBlock) (Kd.R_keptB (HO_565002.out) hkp (fun k_ hk_ hs_ => (hk_.2) hs_)) (fun k_ hk_ => ⟨hk_.1.1, hk_.1.2⟩)); have n5_ := Aside0.mk (blk_kept (by (with_reducible repeat (first | refine blk_drewN ?_ _ | refine blk_drew ?_ | refine blk_alloc ?_ _)); exact BK538.out) hkp (fun hs_ => (fun e_ => (Kd.R_ne HO_12.out BK538.out (by decide)) e_) hs_)); have n6_ := Aside0.mk (blk_kept (by (with_reducible repeat (first | refine blk_drewN ?_ _ | refine blk_drew ?_ | refine blk_alloc ?_ _)); exact BK564.out) hkp (fun hs_ => (fun e_ => (Kd.R_ne HO_12.out BK564.out (by decide)) e_) hs_)); have n7_ := Aside0.mk (hb); clear HO_6; clear HO_7; clear HO_11; clear HO_12; clear HO_565002; clear BK538; clear BK564; clear HB; have HO_6 := n0_; have HO_7 := n1_; have HO_11 := n2_; have HO_12 := n3_; have HO_565002 := n4_; have BK538 := n5_; have BK564 := n6_; have HB := n7_; clear n0_ n1_ n2_ n3_ n4_ n5_ n6_ n7_; (try clear hb); (try clear hkp); (try clear hy0)) | ((with_reducible refine gate_callee (f := 27) rfl ?_); refine goesL_ (some 108) rfl rfl Try.func27 (by kernel_rfl) rfl #[.slice Ao110 t591.length co110, .int .i64 1] rfl (by (try simp only [List.map_toArray, List.map_cons, List.map_nil]); first | done | (rw [show t591.length = t565.length from (Kd.R_reads' HO_11.out).1.symm] <;> rfl) | rfl | (simp only [List.length_drop, List.length_take]; rfl)) ?_; (with_reducible refine (laws_heldIntS.calls kj60 _ _ t591 1 t594 _ ?side1 ?side2 A93.out).mono ?_); (case side1 => repeat (first | exact (Kd.R_reads' HO_11.out).2.2 | (with_reducible refine Kd.C_alloc ?_ _) | (with_reducible refine Kd.C_drewN ?_ _) | (with_reducible refine Kd.C_drew ?_))); (case side2 => rw [show t591.length = t565.length from (Kd.R_reads' HO_11.out).1.symm]; exact (Kd.R_reads' HO_11.out).2.1); rintro e w' ⟨rfl, ⟨nd, rfl⟩⟩; refine ⟨_, rfl, ?_⟩) | ((with_reducible refine gate_callee (f := 40) rfl ?_); refine goesL_ (some 113) rfl rfl Try.func40 (by kernel_rfl) rfl #[.slice Ao112 t593.length co112, .int .i64 t594] rfl (by (try simp only [List.map_toArray, List.map_cons, List.map_nil]); first | done | (rw [show t593.length = t568.length from (Kd.R_reads' HO_12.out).1.symm] <;> rfl) | rfl | (simp only [List.length_drop, List.length_take]; rfl)) ?_; (with_reducible refine (laws_heldHaveS.calls kj60 _ _ t593 t594 t595 _ ?side1 ?side2 A99.out).mono ?_); (case side1 => repeat (first | exact (Kd.R_reads' HO_12.out).2.2 | (with_reducible refine Kd.C_alloc ?_ _) | (with_reducible refine Kd.C_drewN ?_ _) | (with_reducible refine Kd.C_drew ?_))); (case side2 => rw [show t593.length = t568.length from (Kd.R_reads' HO_12.out).1.symm]; exact (Kd.R_reads' HO_12.out).2.1); rintro e w' ⟨rfl, ⟨nd, rfl⟩⟩; refine ⟨_, rfl, ?_⟩))
              (try (rw [drewN_self w113]; generalize hq_ : World.drewN w113 _ = w113; have n0_ : Aside0 (Kd.R (Kd.int .i64) 3 w113 w.heap.size (fun k_ => some k_ ≠ (v550 : Value).ownBlock) (.slice Ao110 t565.length co110) t591) := ⟨by rw [← hq_]; exact (by (with_reducible repeat (first | apply Kd.R_alloc | apply Kd.R_drewN | apply Kd.R_drew)); exact HO_11.out)⟩; have n1_ : Aside0 (Kd.R k104 104 w113 w.heap.size (fun k_ => some k_ ≠ (.slice Ao33 t587.length co33 : Value).ownBlock ∧ some k_ ≠ (v553 : Value).ownBlock) (.slice Ao112 t568.length co112) t593) := ⟨by rw [← hq_]; exact (by (with_reducible repeat (first | apply Kd.R_alloc | apply Kd.R_drewN | apply Kd.R_drew)); exact Kd.R_mono HO_12.out (fun _ hk => ⟨hk.2, hk.1⟩))⟩; have n2_ : Aside0 (Kd.R k104 104 w113 w.heap.size (fun k_ => some k_ ≠ (.slice Ao112 t568.length co112 : Value).ownBlock ∧ some k_ ≠ (v553 : Value).ownBlock) (.slice Ao33 t587.length co33) t587) := ⟨by rw [← hq_]; exact (by (with_reducible repeat (first | apply Kd.R_alloc | apply Kd.R_drewN | apply Kd.R_drew)); exact Kd.R_mono HO_565002.out (fun _ hk => ⟨hk.2, hk.1⟩))⟩; have n3_ : Aside0 (Kd.R (Kd.int .i64) 3 w113 w.heap.size (fun k_ => some k_ ≠ (.slice Ao110 t565.length co110 : Value).ownBlock) v550 t549) := ⟨by rw [← hq_]; exact (by (with_reducible repeat (first | apply Kd.R_alloc | apply Kd.R_drewN | apply Kd.R_drew)); exact HO_6.out)⟩; have n4_ : Aside0 (Kd.R k104 104 w113 w.heap.size (fun k_ => some k_ ≠ (.slice Ao112 t568.length co112 : Value).ownBlock ∧ some k_ ≠ (.slice Ao33 t587.length co33 : Value).ownBlock) v553 t552) := ⟨by rw [← hq_]; exact (by (with_reducible repeat (first | apply Kd.R_alloc | apply Kd.R_drewN | apply Kd.R_drew)); exact HO_7.out)⟩; have n5_ : Aside0 (w113.heap[gb538]? = some (.cells #[.int .i64 a1_0, .int .i64 a1_1, .slice A1_2 l1_2.length c1_2] 42 (0, 0))) := ⟨by rw [← hq_]; exact (by (with_reducible repeat (first | refine blk_drewN ?_ _ | refine blk_drew ?_ | refine blk_alloc ?_ _)); exact BK538.out)⟩; have n6_ : Aside0 (w113.heap[gb564]? = some (.cells #[.int .i64 t559, .int .i64 t560, .slice Ao33 t587.length co33] 50 (0, 0))) := ⟨by rw [← hq_]; exact (by (with_reducible repeat (first | refine blk_drewN ?_ _ | refine blk_drew ?_ | refine blk_alloc ?_ _)); exact BK564.out)⟩; have n7_ : Aside0 (Below w.heap.size w w113) := ⟨by rw [← hq_]; exact (by repeat (first | (with_reducible first | exact HB.out | apply below_alloc | apply pw_below_drewN | apply below_drew1 | refine below_set ?_ GE538.out | refine below_set ?_ GE564.out) | exact HB.out))⟩; clear HO_11 HO_12 HO_565002 HO_6 HO_7 BK538 BK564 HB hq_; have HO_11 := n0_; have HO_12 := n1_; have HO_565002 := n2_; have HO_6 := n3_; have HO_7 := n4_; have BK538 := n5_; have BK564 := n6_; have HB := n7_; clear n0_ n1_ n2_ n3_ n4_ n5_ n6_ n7_))
              have n0_ := Aside0.mk (Kd.R_drew HO_6.out)
              have n1_ := Aside0.mk (Kd.R_drew HO_7.out)
              have n2_ := Aside0.mk (Kd.R_drew HO_11.out)
              have n3_ := Aside0.mk (Kd.R_drew HO_12.out)
              have n4_ := Aside0.mk (Kd.R_drew HO_565002.out)
              have n5_ := Aside0.mk (blk_drew BK538.out)
              have n6_ := Aside0.mk (blk_drew BK564.out)
              have n7_ := Aside0.mk (below_drew1 HB.out)
              clear HO_6
              clear HO_7
              clear HO_11
              clear HO_12
              clear HO_565002
              clear BK538
              clear BK564
              clear HB
              have HO_6 := n0_
              have HO_7 := n1_
              have HO_11 := n2_
              have HO_12 := n3_
              have HO_565002 := n4_
              have BK538 := n5_
              have BK564 := n6_
              have HB := n7_
              clear n0_ n1_ n2_ n3_ n4_ n5_ n6_ n7_
              refine start_ (n := 12) (S := fun w' => w'.cell? ⟨gb538, 0, none⟩ = some (.int .i64 a1_0) ∧ w'.cell? ⟨gb538, 1, none⟩ = some (.int .i64 a1_1) ∧ w'.cell? ⟨gb538, 2, none⟩ = some (.slice A1_2 l1_2.length c1_2)) (ds := []) #[false, false, false, false, false, false, false, false, false, false, false, false] (by kernel_rfl) rfl rfl ⟨(blk_cell BK538.out 0).trans rfl, (blk_cell BK538.out 1).trans rfl, (blk_cell BK538.out 2).trans rfl⟩ (fun hHeld => ?_); refine with_tabW laws_FnExactAskFor.tab35 laws_FnExactAskFor.bits35 (fun HT_ HW_ => ?_)
              generalize w113.drew = w114 at HO_6 HO_7 HO_11 HO_12 HO_565002 BK538 BK564 HB hHeld ⊢
              refine pure_ (i := 0) (N := some 120) (v := ?_) (a' := ?_) #[true, false, false, false, false, false, false, false, false, false, false, false] rfl rfl (any_of HT_.out (by kernel_rfl)) (fun _ _ _ h => h) (Or.inl ⟨by rfl, ?_⟩) ?_ ?_
              rotate_left
              ·intro w'
               go_simp
               with_reducible rfl
              rotate_left
              ·simp only [Act.put, List.setIfInBounds_toArray, List.set_cons_zero, List.set_cons_succ, i64_w, i32_w]
               rfl
              refine take_ (i := 2) (N := some 122) (v := ?_) (a' := ?_) #[true, false, true, false, false, false, false, false, false, false, false, false] rfl rfl (take_ofW HT_.out HW_.out (by kernel_rfl)) (fun _ _ _ h => h) (Or.inl ⟨by rfl, ?_⟩) hHeld ?_ ?_
              rotate_left
              ·rintro w' ⟨s0, s1, s2⟩
               go_simp
               with_reducible rfl
              rotate_left
              ·simp only [Act.put, List.setIfInBounds_toArray, List.set_cons_zero, List.set_cons_succ, i64_w, i32_w]
               rfl
              refine one_ (i := 1) (N := some 121) #[true, true, true, false, false, false, false, false, false, false, false, false] rfl rfl (one_of HT_.out (by kernel_rfl)) (by decide) (fun K hK => ?_)
              refine goes_ Try.func33 (by kernel_rfl) rfl #[.slice A0 l0.length c0] (by rfl) rfl rfl (by (try simp only [List.map_toArray, List.map_cons, List.map_nil]); first | done | rfl | (simp only [List.length_drop, List.length_take]; rfl)) ?_
              with_reducible refine (laws_toHaveS.calls kj60 _ _ l0 t596 _ ?side1 ?side2 A106.out).mono ?_
              (case side1 => repeat (first | exact (Kd.C_below HR0.out HB.out) | (with_reducible refine Kd.C_alloc ?_ _) | (with_reducible refine Kd.C_drewN ?_ _) | (with_reducible refine Kd.C_drew ?_)))
              (case side2 => exact HC0.out)
              rintro e w115 ⟨v597, rfl, ho0, hb⟩
              refine ⟨_, rfl, ?_⟩
              have n0_ := Aside0.mk (Kd.R_below (by (with_reducible repeat (first | apply Kd.R_alloc | apply Kd.R_drewN | apply Kd.R_drew)); exact HO_6.out) hb)
              have n1_ := Aside0.mk (Kd.R_elder' (by (with_reducible repeat (first | apply Kd.R_alloc | apply Kd.R_drewN | apply Kd.R_drew)); exact HO_7.out) (Kd.R_base ho0) hb)
              have n2_ := Aside0.mk (Kd.R_below (by (with_reducible repeat (first | apply Kd.R_alloc | apply Kd.R_drewN | apply Kd.R_drew)); exact HO_11.out) hb)
              have n3_ := Aside0.mk (Kd.R_elder' (by (with_reducible repeat (first | apply Kd.R_alloc | apply Kd.R_drewN | apply Kd.R_drew)); exact HO_12.out) (Kd.R_base ho0) hb)
              have n4_ := Aside0.mk (Kd.R_elder' (by (with_reducible repeat (first | apply Kd.R_alloc | apply Kd.R_drewN | apply Kd.R_drew)); exact HO_565002.out) (Kd.R_base ho0) hb)
              have n5_ := Aside0.mk (Kd.R_lower (Kd.R_new' (Kd.R_new' (Kd.R_new' ho0 (Kd.R_lt (by (with_reducible repeat (first | apply Kd.R_alloc | apply Kd.R_drewN | apply Kd.R_drew)); exact HO_7.out))) (Kd.R_lt (by (with_reducible repeat (first | apply Kd.R_alloc | apply Kd.R_drewN | apply Kd.R_drew)); exact HO_12.out))) (Kd.R_lt (by (with_reducible repeat (first | apply Kd.R_alloc | apply Kd.R_drewN | apply Kd.R_drew)); exact HO_565002.out))) (below_size (by repeat (first | (with_reducible first | exact HB.out | apply below_alloc | apply pw_below_drewN | apply below_drew1 | refine below_set ?_ GE538.out | refine below_set ?_ GE564.out) | exact HB.out))))
              have n6_ := Aside0.mk (blk_below (g := gb538) (o := .cells #[.int .i64 a1_0, .int .i64 a1_1, .slice A1_2 l1_2.length c1_2] 42 (0, 0)) (by (with_reducible repeat (first | refine blk_drewN ?_ _ | refine blk_drew ?_ | refine blk_alloc ?_ _)); exact BK538.out) hb)
              have n7_ := Aside0.mk (blk_below (g := gb564) (o := .cells #[.int .i64 t559, .int .i64 t560, .slice Ao33 t587.length co33] 50 (0, 0)) (by (with_reducible repeat (first | refine blk_drewN ?_ _ | refine blk_drew ?_ | refine blk_alloc ?_ _)); exact BK564.out) hb)
              have n8_ := Aside0.mk (below_step (by repeat (first | (with_reducible first | exact HB.out | apply below_alloc | apply pw_below_drewN | apply below_drew1 | refine below_set ?_ GE538.out | refine below_set ?_ GE564.out) | exact HB.out)) hb)
              clear HO_6
              clear HO_7
              clear HO_11
              clear HO_12
              clear HO_565002
              clear BK538
              clear BK564
              clear HB
              have HO_6 := n0_
              have HO_7 := n1_
              have HO_11 := n2_
              have HO_12 := n3_
              have HO_565002 := n4_
              have HO598 := n5_
              have BK538 := n6_
              have BK564 := n7_
              have HB := n8_
              clear n0_ n1_ n2_ n3_ n4_ n5_ n6_ n7_ n8_
              (try clear hb)
              (try clear hb2)
              (try clear hk)
              (try clear hi)
              (try clear ho0)
              refine hK.out _ _ ⟨(blk_cell BK538.out 0).trans rfl, (blk_cell BK538.out 1).trans rfl, (blk_cell BK538.out 2).trans rfl⟩ (fun hHeld => ?_)
              clear hK K
              refine norm_ (a' := ?_) ?_ ?_
              rotate_left
              ·show Act.put _ (some 121) _ = _
               simp only [Act.put, List.setIfInBounds_toArray, List.set_cons_zero, List.set_cons_succ, i64_w, i32_w]
               rfl
              refine one_ (i := 3) (N := some 123) #[true, true, true, true, false, false, false, false, false, false, false, false] rfl rfl (one_of HT_.out (by kernel_rfl)) (by decide) (fun K hK => ?_)
              refine goes_ Try.func34 (by kernel_rfl) rfl #[.agg #[.int .i64 a1_0, .int .i64 a1_1, .slice A1_2 l1_2.length c1_2]] (by rfl) rfl rfl (by (try simp only [List.map_toArray, List.map_cons, List.map_nil]); first | done | rfl | (simp only [List.length_drop, List.length_take]; rfl)) ?_
              with_reducible refine (laws_toSummary.calls kj60 a1_0 a1_1 _ _ l1_2 t599 t600 t601 _ ?side1 ?side2 A107.out).mono ?_
              (case side1 => repeat (first | exact (Kd.C_below HR1_2.out HB.out) | (with_reducible refine Kd.C_alloc ?_ _) | (with_reducible refine Kd.C_drewN ?_ _) | (with_reducible refine Kd.C_drew ?_)))
              (case side2 => exact HC1_2.out)
              rintro e w116 ⟨v602, rfl, ho0, hb⟩
              refine ⟨_, rfl, ?_⟩
              have n0_ := Aside0.mk (Kd.R_below (by (with_reducible repeat (first | apply Kd.R_alloc | apply Kd.R_drewN | apply Kd.R_drew)); exact HO_6.out) hb)
              have n1_ := Aside0.mk (Kd.R_elder' (by (with_reducible repeat (first | apply Kd.R_alloc | apply Kd.R_drewN | apply Kd.R_drew)); exact HO_7.out) (Kd.R_base ho0) hb)
              have n2_ := Aside0.mk (Kd.R_below (by (with_reducible repeat (first | apply Kd.R_alloc | apply Kd.R_drewN | apply Kd.R_drew)); exact HO_11.out) hb)
              have n3_ := Aside0.mk (Kd.R_elder' (by (with_reducible repeat (first | apply Kd.R_alloc | apply Kd.R_drewN | apply Kd.R_drew)); exact HO_12.out) (Kd.R_base ho0) hb)
              have n4_ := Aside0.mk (Kd.R_elder' (by (with_reducible repeat (first | apply Kd.R_alloc | apply Kd.R_drewN | apply Kd.R_drew)); exact HO_565002.out) (Kd.R_base ho0) hb)
              have n5_ := Aside0.mk (Kd.R_elder' (by (with_reducible repeat (first | apply Kd.R_alloc | apply Kd.R_drewN | apply Kd.R_drew)); exact HO598.out) (Kd.R_base ho0) hb)
              have n6_ := Aside0.mk (Kd.R_lower (Kd.R_new' (Kd.R_new' (Kd.R_new' (Kd.R_new' ho0 (Kd.R_lt (by (with_reducible repeat (first | apply Kd.R_alloc | apply Kd.R_drewN | apply Kd.R_drew)); exact HO_7.out))) (Kd.R_lt (by (with_reducible repeat (first | apply Kd.R_alloc | apply Kd.R_drewN | apply Kd.R_drew)); exact HO_12.out))) (Kd.R_lt (by (with_reducible repeat (first | apply Kd.R_alloc | apply Kd.R_drewN | apply Kd.R_drew)); exact HO_565002.out))) (Kd.R_lt (by (with_reducible repeat (first | apply Kd.R_alloc | apply Kd.R_drewN | apply Kd.R_drew)); exact HO598.out))) (below_size (by repeat (first | (with_reducible first | exact HB.out | apply below_alloc | apply pw_below_drewN | apply below_drew1 | refine below_set ?_ GE538.out | refine below_set ?_ GE564.out) | exact HB.out))))
              have n7_ := Aside0.mk (blk_below (g := gb538) (o := .cells #[.int .i64 a1_0, .int .i64 a1_1, .slice A1_2 l1_2.length c1_2] 42 (0, 0)) (by (with_reducible repeat (first | refine blk_drewN ?_ _ | refine blk_drew ?_ | refine blk_alloc ?_ _)); exact BK538.out) hb)
              have n8_ := Aside0.mk (blk_below (g := gb564) (o := .cells #[.int .i64 t559, .int .i64 t560, .slice Ao33 t587.length co33] 50 (0, 0)) (by (with_reducible repeat (first | refine blk_drewN ?_ _ | refine blk_drew ?_ | refine blk_alloc ?_ _)); exact BK564.out) hb)
              have n9_ := Aside0.mk (below_step (by repeat (first | (with_reducible first | exact HB.out | apply below_alloc | apply pw_below_drewN | apply below_drew1 | refine below_set ?_ GE538.out | refine below_set ?_ GE564.out) | exact HB.out)) hb)
              clear HO_6
              clear HO_7
              clear HO_11
              clear HO_12
              clear HO_565002
              clear HO598
              clear BK538
              clear BK564
              clear HB
              have HO_6 := n0_
              have HO_7 := n1_
              have HO_11 := n2_
              have HO_12 := n3_
              have HO_565002 := n4_
              have HO598 := n5_
              have HO603 := n6_
              have BK538 := n7_
              have BK564 := n8_
              have HB := n9_
              clear n0_ n1_ n2_ n3_ n4_ n5_ n6_ n7_ n8_ n9_
              (try clear hb)
              (try clear hb2)
              (try clear hk)
              (try clear hi)
              (try clear ho0)
              obtain ⟨Ao117, co117, eo117⟩ := Kd.R_slice HO598.out
              (first | subst eo117 | (injection eo117 with f1_ f2_ f3_; have f4_ := f1_.symm; have f5_ := f3_.symm; clear f1_ f2_ f3_; subst f4_; subst f5_))
              obtain ⟨Ao118, co118, eo118⟩ := Kd.R_slice HO603.out
              (first | subst eo118 | (injection eo118 with f1_ f2_ f3_; have f4_ := f1_.symm; have f5_ := f3_.symm; clear f1_ f2_ f3_; subst f4_; subst f5_))
              refine hK.out _ _ ⟨(blk_cell BK538.out 0).trans rfl, (blk_cell BK538.out 1).trans rfl, (blk_cell BK538.out 2).trans rfl⟩ (fun hHeld => ?_)
              clear hK K
              refine norm_ (a' := ?_) ?_ ?_
              rotate_left
              ·show Act.put _ (some 123) _ = _
               simp only [Act.put, List.setIfInBounds_toArray, List.set_cons_zero, List.set_cons_succ, i64_w, i32_w]
               rfl
              refine one_ (i := 4) (N := some 124) #[true, true, true, true, true, false, false, false, false, false, false, false] rfl rfl (one_of HT_.out (by kernel_rfl)) (by decide) (fun K hK => ?_)
              refine goes_ Try.func35 (by kernel_rfl) rfl #[.slice Ao117 t596.length co117, .agg #[.int .i64 t599, .int .i64 t600, .slice Ao118 t601.length co118]] (by rfl) rfl rfl (by (try simp only [List.map_toArray, List.map_cons, List.map_nil]); first | done | rfl | (simp only [List.length_drop, List.length_take]; rfl)) ?_
              with_reducible refine (impl_AskFor.calls kj60 _ _ t596 t599 t600 _ _ t601 t604 t607 t610 _ ?side1 ?side2 ?side3 ?side4 A108.out).mono ?_
              (case side1 => repeat (first | exact (Kd.R_reads' HO598.out).2.2 | (with_reducible refine Kd.C_alloc ?_ _) | (with_reducible refine Kd.C_drewN ?_ _) | (with_reducible refine Kd.C_drew ?_)))
              (case side2 => exact (Kd.R_reads' HO598.out).2.1)
              (case side3 => repeat (first | exact (Kd.R_reads' HO603.out).2.2 | (with_reducible refine Kd.C_alloc ?_ _) | (with_reducible refine Kd.C_drewN ?_ _) | (with_reducible refine Kd.C_drew ?_)))
              (case side4 => exact (Kd.R_reads' HO603.out).2.1)
              rintro e w119 ⟨v605, v608, rfl, ho0, ho1, hb⟩
              refine ⟨_, rfl, ?_⟩
              have n0_ := Aside0.mk (Kd.R_elder' (by (with_reducible repeat (first | apply Kd.R_alloc | apply Kd.R_drewN | apply Kd.R_drew)); exact HO_6.out) (Kd.R_base ho0) hb)
              have n1_ := Aside0.mk (Kd.R_elder' (by (with_reducible repeat (first | apply Kd.R_alloc | apply Kd.R_drewN | apply Kd.R_drew)); exact HO_7.out) (Kd.R_base ho1) hb)
              have n2_ := Aside0.mk (Kd.R_elder' (by (with_reducible repeat (first | apply Kd.R_alloc | apply Kd.R_drewN | apply Kd.R_drew)); exact HO_11.out) (Kd.R_base ho0) hb)
              have n3_ := Aside0.mk (Kd.R_elder' (by (with_reducible repeat (first | apply Kd.R_alloc | apply Kd.R_drewN | apply Kd.R_drew)); exact HO_12.out) (Kd.R_base ho1) hb)
              have n4_ := Aside0.mk (Kd.R_elder' (by (with_reducible repeat (first | apply Kd.R_alloc | apply Kd.R_drewN | apply Kd.R_drew)); exact HO_565002.out) (Kd.R_base ho1) hb)
              have n5_ := Aside0.mk (Kd.R_elder' (by (with_reducible repeat (first | apply Kd.R_alloc | apply Kd.R_drewN | apply Kd.R_drew)); exact HO598.out) (Kd.R_base ho1) hb)
              have n6_ := Aside0.mk (Kd.R_elder' (by (with_reducible repeat (first | apply Kd.R_alloc | apply Kd.R_drewN | apply Kd.R_drew)); exact HO603.out) (Kd.R_base ho1) hb)
              have n7_ := Aside0.mk (Kd.R_lower (Kd.R_new' (Kd.R_new' ho0 (Kd.R_lt (by (with_reducible repeat (first | apply Kd.R_alloc | apply Kd.R_drewN | apply Kd.R_drew)); exact HO_6.out))) (Kd.R_lt (by (with_reducible repeat (first | apply Kd.R_alloc | apply Kd.R_drewN | apply Kd.R_drew)); exact HO_11.out))) (below_size (by repeat (first | (with_reducible first | exact HB.out | apply below_alloc | apply pw_below_drewN | apply below_drew1 | refine below_set ?_ GE538.out | refine below_set ?_ GE564.out) | exact HB.out))))
              have n8_ := Aside0.mk (Kd.R_lower (Kd.R_new' (Kd.R_new' (Kd.R_new' (Kd.R_new' (Kd.R_new' ho1 (Kd.R_lt (by (with_reducible repeat (first | apply Kd.R_alloc | apply Kd.R_drewN | apply Kd.R_drew)); exact HO_7.out))) (Kd.R_lt (by (with_reducible repeat (first | apply Kd.R_alloc | apply Kd.R_drewN | apply Kd.R_drew)); exact HO_12.out))) (Kd.R_lt (by (with_reducible repeat (first | apply Kd.R_alloc | apply Kd.R_drewN | apply Kd.R_drew)); exact HO_565002.out))) (Kd.R_lt (by (with_reducible repeat (first | apply Kd.R_alloc | apply Kd.R_drewN | apply Kd.R_drew)); exact HO598.out))) (Kd.R_lt (by (with_reducible repeat (first | apply Kd.R_alloc | apply Kd.R_drewN | apply Kd.R_drew)); exact HO603.out))) (below_size (by repeat (first | (with_reducible first | exact HB.out | apply below_alloc | apply pw_below_drewN | apply below_drew1 | refine below_set ?_ GE538.out | refine below_set ?_ GE564.out) | exact HB.out))))
              have n9_ := Aside0.mk (blk_below (g := gb538) (o := .cells #[.int .i64 a1_0, .int .i64 a1_1, .slice A1_2 l1_2.length c1_2] 42 (0, 0)) (by (with_reducible repeat (first | refine blk_drewN ?_ _ | refine blk_drew ?_ | refine blk_alloc ?_ _)); exact BK538.out) hb)
              have n10_ := Aside0.mk (blk_below (g := gb564) (o := .cells #[.int .i64 t559, .int .i64 t560, .slice Ao33 t587.length co33] 50 (0, 0)) (by (with_reducible repeat (first | refine blk_drewN ?_ _ | refine blk_drew ?_ | refine blk_alloc ?_ _)); exact BK564.out) hb)
              have n11_ := Aside0.mk (below_step (by repeat (first | (with_reducible first | exact HB.out | apply below_alloc | apply pw_below_drewN | apply below_drew1 | refine below_set ?_ GE538.out | refine below_set ?_ GE564.out) | exact HB.out)) hb)
              clear HO_6
              clear HO_7
              clear HO_11
              clear HO_12
              clear HO_565002
              clear HO598
              clear HO603
              clear BK538
              clear BK564
              clear HB
              have HO_6 := n0_
              have HO_7 := n1_
              have HO_11 := n2_
              have HO_12 := n3_
              have HO_565002 := n4_
              have HO598 := n5_
              have HO603 := n6_
              have HO606 := n7_
              have HO609 := n8_
              have BK538 := n9_
              have BK564 := n10_
              have HB := n11_
              clear n0_ n1_ n2_ n3_ n4_ n5_ n6_ n7_ n8_ n9_ n10_ n11_
              (try clear hb)
              (try clear hb2)
              (try clear hk)
              (try clear hi)
              (try clear ho0)
              (try clear ho1)
              refine hK.out _ _ ⟨(blk_cell BK538.out 0).trans rfl, (blk_cell BK538.out 1).trans rfl, (blk_cell BK538.out 2).trans rfl⟩ (fun hHeld => ?_)
              clear hK K
              refine norm_ (a' := ?_) ?_ ?_
              rotate_left
              ·show Act.put _ (some 124) _ = _
               simp only [Act.put, List.setIfInBounds_toArray, List.set_cons_zero, List.set_cons_succ, i64_w, i32_w]
               rfl
              refine pure_ (i := 5) (N := some 119) (v := ?_) (a' := ?_) #[true, true, true, true, true, true, false, false, false, false, false, false] rfl rfl (any_of HT_.out (by kernel_rfl)) (fun _ _ _ h => h) (Or.inl ⟨by rfl, ?_⟩) ?_ ?_
              rotate_left
              ·intro w'
               go_simp
               with_reducible rfl
              rotate_left
              ·simp only [Act.put, List.setIfInBounds_toArray, List.set_cons_zero, List.set_cons_succ, i64_w, i32_w]
               rfl
              refine pure_ (i := 6) (N := some 125) (v := ?_) (a' := ?_) #[true, true, true, true, true, true, true, false, false, false, false, false] rfl rfl (any_of HT_.out (by kernel_rfl)) (fun _ _ _ h => h) (Or.inl ⟨by rfl, ?_⟩) ?_ ?_
              rotate_left
              ·intro w'
               go_simp
               with_reducible rfl
              rotate_left
              ·simp only [Act.put, List.setIfInBounds_toArray, List.set_cons_zero, List.set_cons_succ, i64_w, i32_w]
               rfl
              refine pure_ (i := 7) (N := some 126) (v := ?_) (a' := ?_) #[true, true, true, true, true, true, true, true, false, false, false, false] rfl rfl (any_of HT_.out (by kernel_rfl)) (fun _ _ _ h => h) (Or.inl ⟨by rfl, ?_⟩) ?_ ?_
              rotate_left
              ·intro w'
               go_simp
               with_reducible rfl
              rotate_left
              ·simp only [Act.put, List.setIfInBounds_toArray, List.set_cons_zero, List.set_cons_succ, i64_w, i32_w]
               rfl
              refine pure_ (i := 8) (N := some 127) (v := ?_) (a' := ?_) #[true, true, true, true, true, true, true, true, true, false, false, false] rfl rfl (any_of HT_.out (by kernel_rfl)) (fun _ _ _ h => h) (Or.inl ⟨by rfl, ?_⟩) ?_ ?_
              rotate_left
              ·intro w'
               go_simp
               with_reducible rfl
              rotate_left
              ·simp only [Act.put, List.setIfInBounds_toArray, List.set_cons_zero, List.set_cons_succ, i64_w, i32_w]
               rfl
              refine pure_ (i := 9) (N := some 17) (v := ?_) (a' := ?_) #[true, true, true, true, true, true, true, true, true, true, false, false] rfl rfl (any_of HT_.out (by kernel_rfl)) (fun _ _ _ h => h) (Or.inl ⟨by rfl, ?_⟩) ?_ ?_
              rotate_left
              ·intro w'
               go_simp
               with_reducible rfl
              rotate_left
              ·simp only [Act.put, List.setIfInBounds_toArray, List.set_cons_zero, List.set_cons_succ, i64_w, i32_w]
               rfl
              refine pure_ (i := 10) (N := some 18) (v := ?_) (a' := ?_) #[true, true, true, true, true, true, true, true, true, true, true, false] rfl rfl (any_of HT_.out (by kernel_rfl)) (fun _ _ _ h => h) (Or.inl ⟨by rfl, ?_⟩) ?_ ?_
              rotate_left
              ·intro w'
               go_simp
               with_reducible rfl
              rotate_left
              ·simp only [Act.put, List.setIfInBounds_toArray, List.set_cons_zero, List.set_cons_succ, i64_w, i32_w]
               rfl
              refine pure_ (i := 11) (N := some 19) (v := ?_) (a' := ?_) #[true, true, true, true, true, true, true, true, true, true, true, true] rfl rfl (any_of HT_.out (by kernel_rfl)) (fun _ _ _ h => h) (Or.inl ⟨by rfl, ?_⟩) ?_ ?_
              rotate_left
              ·intro w'
               go_simp
               with_reducible rfl
              rotate_left
              ·simp only [Act.put, List.setIfInBounds_toArray, List.set_cons_zero, List.set_cons_succ, i64_w, i32_w]
               rfl
              refine done_ (done_of HT_.out (by kernel_rfl)) ?_
              go_upto_region 36 with (fail)
              go_cut [142] (fun v142 wc => ∃ (kq : Nat) (x142_108 : Bool), v142 = .bool x142_108 ∧ Aside0 (laws_FnExactAskFor.j2 kq t591 t593 t592 x142_108 = some r) ∧ Aside0 (kq ≤ kj60) ∧ Aside0 (Kd.R (Kd.int .i64) 3 wc w.heap.size (fun _ => True) (.slice Ao110 t565.length co110) t591) ∧ Aside0 (Kd.R k104 104 wc w.heap.size (fun k_ => some k_ ≠ ((.slice Ao33 t587.length co33) : Value).ownBlock) (.slice Ao112 t568.length co112) t593) ∧ Aside0 (Kd.R k104 104 wc w.heap.size (fun k_ => some k_ ≠ ((.slice Ao112 t568.length co112) : Value).ownBlock) (.slice Ao33 t587.length co33) t587) ∧ Aside0 (wc.heap[gb538]? = some (.cells #[.int .i64 a1_0, .int .i64 a1_1, (.slice A1_2 l1_2.length c1_2)] 42 (0, 0))) ∧ Aside0 (wc.heap[gb564]? = some (.cells #[.int .i64 t559, .int .i64 t560, (.slice Ao33 t587.length co33)] 50 (0, 0))) ∧ Aside0 (Below w.heap.size w wc))
              case first =>
               have H := HC109.out
               clear HC109
               replace H := Option.bind_eq_some_iff.mp H
               obtain ⟨t611, A1200, H⟩ := H
               replace H : (if t611 = true then ((laws_eqHaveS.f kj60 t607 t552).bind fun t612 => (if t612 = true then (laws_FnExactAskFor.j2 kj60 t591 t593 t592 (t610 != t555)) else (laws_FnExactAskFor.j2 kj60 t591 t593 t592 true))) else (laws_FnExactAskFor.j2 kj60 t591 t593 t592 true)) = some r := H
               have A120 := Aside0.mk A1200
               clear A1200
               by_cases c121 : t611 = true
               ·subst c121
                have H1 : ((laws_eqHaveS.f kj60 t607 t552).bind fun t612 => (if t612 = true then (laws_FnExactAskFor.j2 kj60 t591 t593 t592 (t610 != t555)) else (laws_FnExactAskFor.j2 kj60 t591 t593 t592 true))) = some r := by rw [if_pos rfl] at H; exact H
                clear H
                have H := H1
                clear H1
                replace H := Option.bind_eq_some_iff.mp H
                obtain ⟨t612, A1220, H⟩ := H
                replace H : (if t612 = true then (laws_FnExactAskFor.j2 kj60 t591 t593 t592 (t610 != t555)) else (laws_FnExactAskFor.j2 kj60 t591 t593 t592 true)) = some r := H
                have A122 := Aside0.mk A1220
                clear A1220
                by_cases c123 : t612 = true
                ·subst c123
                 have H1 : (laws_FnExactAskFor.j2 kj60 t591 t593 t592 (t610 != t555)) = some r := by rw [if_pos rfl] at H; exact H
                 clear H
                 have H := H1
                 clear H1
                 have H' := Aside0.mk H
                 clear H
                 obtain ⟨Ao124, co124, eo124⟩ := Kd.R_slice HO606.out
                 subst eo124
                 obtain ⟨Ao125, co125, eo125⟩ := Kd.R_slice HO_6.out
                 subst eo125
                 go_wp2_with (first | ((with_reducible refine gate_callee (f := 21) rfl ?_); refine goesL_ (some 130) rfl rfl Try.func21 (by kernel_rfl) rfl #[.slice Ao124 t604.length co124, .slice Ao125 t549.length co125] rfl (by (try simp only [List.map_toArray, List.map_cons, List.map_nil]); first | done | rfl | (simp only [List.length_drop, List.length_take]; rfl)) ?_; (with_reducible refine (laws_eqIntS.calls kj60 _ _ t604 _ _ t549 true _ ?side1 ?side2 ?side3 ?side4 A120.out).mono ?_); (case side1 => repeat (first | exact (Kd.R_reads' HO606.out).2.2 | (with_reducible refine Kd.C_alloc ?_ _) | (with_reducible refine Kd.C_drewN ?_ _) | (with_reducible refine Kd.C_drew ?_))); (case side2 => exact (Kd.R_reads' HO606.out).2.1); (case side3 => repeat (first | exact (Kd.R_reads' HO_6.out).2.2 | (with_reducible refine Kd.C_alloc ?_ _) | (with_reducible refine Kd.C_drewN ?_ _) | (with_reducible refine Kd.C_drew ?_))); (case side4 => exact (Kd.R_reads' HO_6.out).2.1); rintro e w' ⟨rfl, ⟨nd, rfl⟩⟩; refine ⟨_, rfl, ?_⟩; obtain ⟨Ao126, co126, eo126⟩ := Kd.R_slice HO609.out; subst eo126; obtain ⟨Ao127, co127, eo127⟩ := Kd.R_slice HO_7.out; subst eo127) | (go_at_call 36; (with_reducible refine (laws_eqHaveS.calls kj60 _ _ t607 _ _ t552 true _ ?side1 ?side2 ?side3 ?side4 A122.out).mono ?_); (case side1 => repeat (first | exact (Kd.R_reads' HO609.out).2.2 | (with_reducible refine Kd.C_alloc ?_ _) | (with_reducible refine Kd.C_drewN ?_ _) | (with_reducible refine Kd.C_drew ?_))); (case side2 => exact (Kd.R_reads' HO609.out).2.1); (case side3 => repeat (first | exact (Kd.R_reads' HO_7.out).2.2 | (with_reducible refine Kd.C_alloc ?_ _) | (with_reducible refine Kd.C_drewN ?_ _) | (with_reducible refine Kd.C_drew ?_))); (case side4 => exact (Kd.R_reads' HO_7.out).2.1); rintro e w128 ⟨rfl, hb⟩; have n0_ := Aside0.mk (Kd.R_below (by (with_reducible repeat (first | apply Kd.R_alloc | apply Kd.R_drewN | apply Kd.R_drew)); exact HO_6.out) hb); have n1_ := Aside0.mk (Kd.R_below (by (with_reducible repeat (first | apply Kd.R_alloc | apply Kd.R_drewN | apply Kd.R_drew)); exact HO_7.out) hb); have n2_ := Aside0.mk (Kd.R_below (by (with_reducible repeat (first | apply Kd.R_alloc | apply Kd.R_drewN | apply Kd.R_drew)); exact HO_11.out) hb); have n3_ := Aside0.mk (Kd.R_below (by (with_reducible repeat (first | apply Kd.R_alloc | apply Kd.R_drewN | apply Kd.R_drew)); exact HO_12.out) hb); have n4_ := Aside0.mk (Kd.R_below (by (with_reducible repeat (first | apply Kd.R_alloc | apply Kd.R_drewN | apply Kd.R_drew)); exact HO_565002.out) hb); have n5_ := Aside0.mk (Kd.R_below (by (with_reducible repeat (first | apply Kd.R_alloc | apply Kd.R_drewN | apply Kd.R_drew)); exact HO598.out) hb); have n6_ := Aside0.mk (Kd.R_below (by (with_reducible repeat (first | apply Kd.R_alloc | apply Kd.R_drewN | apply Kd.R_drew)); exact HO603.out) hb); have n7_ := Aside0.mk (Kd.R_below (by (with_reducible repeat (first | apply Kd.R_alloc | apply Kd.R_drewN | apply Kd.R_drew)); exact HO606.out) hb); have n8_ := Aside0.mk (Kd.R_below (by (with_reducible repeat (first | apply Kd.R_alloc | apply Kd.R_drewN | apply Kd.R_drew)); exact HO609.out) hb); have n9_ := Aside0.mk (blk_below (g := gb538) (o := .cells #[.int .i64 a1_0, .int .i64 a1_1, .slice A1_2 l1_2.length c1_2] 42 (0, 0)) (by (with_reducible repeat (first | refine blk_drewN ?_ _ | refine blk_drew ?_ | refine blk_alloc ?_ _)); exact BK538.out) hb); have n10_ := Aside0.mk (blk_below (g := gb564) (o := .cells #[.int .i64 t559, .int .i64 t560, .slice Ao33 t587.length co33] 50 (0, 0)) (by (with_reducible repeat (first | refine blk_drewN ?_ _ | refine blk_drew ?_ | refine blk_alloc ?_ _)); exact BK564.out) hb); have n11_ := Aside0.mk (below_step (by repeat (first | (with_reducible first | exact HB.out | apply below_alloc | apply pw_below_drewN | apply below_drew1 | refine below_set ?_ GE538.out | refine below_set ?_ GE564.out) | exact HB.out)) hb); clear HO_6; clear HO_7; clear HO_11; clear HO_12; clear HO_565002; clear HO598; clear HO603; clear HO606; clear HO609; clear BK538; clear BK564; clear HB; have HO_6 := n0_; have HO_7 := n1_; have HO_11 := n2_; have HO_12 := n3_; have HO_565002 := n4_; have HO598 := n5_; have HO603 := n6_; have HO606 := n7_; have HO609 := n8_; have BK538 := n9_; have BK564 := n10_; have HB := n11_; clear n0_ n1_ n2_ n3_ n4_ n5_ n6_ n7_ n8_ n9_ n10_ n11_; (try clear hb); (try clear hb2); (try clear hk); (try clear hi)))
                 go_meet
                 case rel => exact ⟨_, ((t610 != t555)), (by first | rfl | (simp; done) | (simp [*]; done)), H', ⟨by have := HJ16.out; have := HJ60.out; first | omega | exact Nat.le_refl _⟩, ⟨by (try simp only [hl565002_60]); (with_reducible repeat (first | apply Kd.R_alloc | apply Kd.R_drewN | apply Kd.R_drew)); exact Kd.R_mono HO_11.out (fun _ hk => trivial)⟩, ⟨by (try simp only [hl565002_60]); (with_reducible repeat (first | apply Kd.R_alloc | apply Kd.R_drewN | apply Kd.R_drew)); exact Kd.R_mono HO_12.out (fun _ hk => by first | exact hk.1.1.1.2 | exact hk.2 | exact hk.1.2 | exact hk.1.1.2 | exact hk.1.1.1.1.2 | exact hk.1.1.1.1 | exact hk.1.1.1)⟩, ⟨by (try simp only [hl565002_60]); (with_reducible repeat (first | apply Kd.R_alloc | apply Kd.R_drewN | apply Kd.R_drew)); exact Kd.R_mono HO_565002.out (fun _ hk => by first | exact hk.1.1.1.2 | exact hk.2 | exact hk.1.2 | exact hk.1.1.2 | exact hk.1.1.1.1.2 | exact hk.1.1.1.1 | exact hk.1.1.1)⟩, ⟨by (try simp only [hl565002_60]); (with_reducible repeat (first | refine blk_drewN ?_ _ | refine blk_drew ?_ | refine blk_alloc ?_ _)); exact BK538.out⟩, ⟨by (try simp only [hl565002_60]); (with_reducible repeat (first | refine blk_drewN ?_ _ | refine blk_drew ?_ | refine blk_alloc ?_ _)); exact BK564.out⟩, ⟨by repeat (first | (with_reducible first | exact HB.out | apply below_alloc | apply pw_below_drewN | apply below_drew1 | refine below_set ?_ GE538.out | refine below_set ?_ GE564.out) | exact HB.out)⟩⟩
                ·replace c123 := Bool.eq_false_iff.mpr c123
                 subst c123
                 have H1 : (laws_FnExactAskFor.j2 kj60 t591 t593 t592 true) = some r := by rw [if_neg (show ¬ (false = true) by decide)] at H; exact H
                 clear H
                 have H := H1
                 clear H1
                 have H' := Aside0.mk H
                 clear H
                 obtain ⟨Ao129, co129, eo129⟩ := Kd.R_slice HO606.out
                 subst eo129
                 obtain ⟨Ao130, co130, eo130⟩ := Kd.R_slice HO_6.out
                 subst eo130
                 go_wp2_with (first | ((with_reducible refine gate_callee (f := 21) rfl ?_); refine goesL_ (some 130) rfl rfl Try.func21 (by kernel_rfl) rfl #[.slice Ao129 t604.length co129, .slice Ao130 t549.length co130] rfl (by (try simp only [List.map_toArray, List.map_cons, List.map_nil]); first | done | rfl | (simp only [List.length_drop, List.length_take]; rfl)) ?_; (with_reducible refine (laws_eqIntS.calls kj60 _ _ t604 _ _ t549 true _ ?side1 ?side2 ?side3 ?side4 A120.out).mono ?_); (case side1 => repeat (first | exact (Kd.R_reads' HO606.out).2.2 | (with_reducible refine Kd.C_alloc ?_ _) | (with_reducible refine Kd.C_drewN ?_ _) | (with_reducible refine Kd.C_drew ?_))); (case side2 => exact (Kd.R_reads' HO606.out).2.1); (case side3 => repeat (first | exact (Kd.R_reads' HO_6.out).2.2 | (with_reducible refine Kd.C_alloc ?_ _) | (with_reducible refine Kd.C_drewN ?_ _) | (with_reducible refine Kd.C_drew ?_))); (case side4 => exact (Kd.R_reads' HO_6.out).2.1); rintro e w' ⟨rfl, ⟨nd, rfl⟩⟩; refine ⟨_, rfl, ?_⟩; obtain ⟨Ao131, co131, eo131⟩ := Kd.R_slice HO609.out; subst eo131; obtain ⟨Ao132, co132, eo132⟩ := Kd.R_slice HO_7.out; subst eo132) | (go_at_call 36; (with_reducible refine (laws_eqHaveS.calls kj60 _ _ t607 _ _ t552 false _ ?side1 ?side2 ?side3 ?side4 A122.out).mono ?_); (case side1 => repeat (first | exact (Kd.R_reads' HO609.out).2.2 | (with_reducible refine Kd.C_alloc ?_ _) | (with_reducible refine Kd.C_drewN ?_ _) | (with_reducible refine Kd.C_drew ?_))); (case side2 => exact (Kd.R_reads' HO609.out).2.1); (case side3 => repeat (first | exact (Kd.R_reads' HO_7.out).2.2 | (with_reducible refine Kd.C_alloc ?_ _) | (with_reducible refine Kd.C_drewN ?_ _) | (with_reducible refine Kd.C_drew ?_))); (case side4 => exact (Kd.R_reads' HO_7.out).2.1); rintro e w133 ⟨rfl, hb⟩; have n0_ := Aside0.mk (Kd.R_below (by (with_reducible repeat (first | apply Kd.R_alloc | apply Kd.R_drewN | apply Kd.R_drew)); exact HO_6.out) hb); have n1_ := Aside0.mk (Kd.R_below (by (with_reducible repeat (first | apply Kd.R_alloc | apply Kd.R_drewN | apply Kd.R_drew)); exact HO_7.out) hb); have n2_ := Aside0.mk (Kd.R_below (by (with_reducible repeat (first | apply Kd.R_alloc | apply Kd.R_drewN | apply Kd.R_drew)); exact HO_11.out) hb); have n3_ := Aside0.mk (Kd.R_below (by (with_reducible repeat (first | apply Kd.R_alloc | apply Kd.R_drewN | apply Kd.R_drew)); exact HO_12.out) hb); have n4_ := Aside0.mk (Kd.R_below (by (with_reducible repeat (first | apply Kd.R_alloc | apply Kd.R_drewN | apply Kd.R_drew)); exact HO_565002.out) hb); have n5_ := Aside0.mk (Kd.R_below (by (with_reducible repeat (first | apply Kd.R_alloc | apply Kd.R_drewN | apply Kd.R_drew)); exact HO598.out) hb); have n6_ := Aside0.mk (Kd.R_below (by (with_reducible repeat (first | apply Kd.R_alloc | apply Kd.R_drewN | apply Kd.R_drew)); exact HO603.out) hb); have n7_ := Aside0.mk (Kd.R_below (by (with_reducible repeat (first | apply Kd.R_alloc | apply Kd.R_drewN | apply Kd.R_drew)); exact HO606.out) hb); have n8_ := Aside0.mk (Kd.R_below (by (with_reducible repeat (first | apply Kd.R_alloc | apply Kd.R_drewN | apply Kd.R_drew)); exact HO609.out) hb); have n9_ := Aside0.mk (blk_below (g := gb538) (o := .cells #[.int .i64 a1_0, .int .i64 a1_1, .slice A1_2 l1_2.length c1_2] 42 (0, 0)) (by (with_reducible repeat (first | refine blk_drewN ?_ _ | refine blk_drew ?_ | refine blk_alloc ?_ _)); exact BK538.out) hb); have n10_ := Aside0.mk (blk_below (g := gb564) (o := .cells #[.int .i64 t559, .int .i64 t560, .slice Ao33 t587.length co33] 50 (0, 0)) (by (with_reducible repeat (first | refine blk_drewN ?_ _ | refine blk_drew ?_ | refine blk_alloc ?_ _)); exact BK564.out) hb); have n11_ := Aside0.mk (below_step (by repeat (first | (with_reducible first | exact HB.out | apply below_alloc | apply pw_below_drewN | apply below_drew1 | refine below_set ?_ GE538.out | refine below_set ?_ GE564.out) | exact HB.out)) hb); clear HO_6; clear HO_7; clear HO_11; clear HO_12; clear HO_565002; clear HO598; clear HO603; clear HO606; clear HO609; clear BK538; clear BK564; clear HB; have HO_6 := n0_; have HO_7 := n1_; have HO_11 := n2_; have HO_12 := n3_; have HO_565002 := n4_; have HO598 := n5_; have HO603 := n6_; have HO606 := n7_; have HO609 := n8_; have BK538 := n9_; have BK564 := n10_; have HB := n11_; clear n0_ n1_ n2_ n3_ n4_ n5_ n6_ n7_ n8_ n9_ n10_ n11_; (try clear hb); (try clear hb2); (try clear hk); (try clear hi)))
                 go_meet
                 case rel => exact ⟨_, (true), (by first | rfl | (simp; done) | (simp [*]; done)), H', ⟨by have := HJ16.out; have := HJ60.out; first | omega | exact Nat.le_refl _⟩, ⟨by (try simp only [hl565002_60]); (with_reducible repeat (first | apply Kd.R_alloc | apply Kd.R_drewN | apply Kd.R_drew)); exact Kd.R_mono HO_11.out (fun _ hk => trivial)⟩, ⟨by (try simp only [hl565002_60]); (with_reducible repeat (first | apply Kd.R_alloc | apply Kd.R_drewN | apply Kd.R_drew)); exact Kd.R_mono HO_12.out (fun _ hk => by first | exact hk.1.1.1.2 | exact hk.2 | exact hk.1.2 | exact hk.1.1.2 | exact hk.1.1.1.1.2 | exact hk.1.1.1.1 | exact hk.1.1.1)⟩, ⟨by (try simp only [hl565002_60]); (with_reducible repeat (first | apply Kd.R_alloc | apply Kd.R_drewN | apply Kd.R_drew)); exact Kd.R_mono HO_565002.out (fun _ hk => by first | exact hk.1.1.1.2 | exact hk.2 | exact hk.1.2 | exact hk.1.1.2 | exact hk.1.1.1.1.2 | exact hk.1.1.1.1 | exact hk.1.1.1)⟩, ⟨by (try simp only [hl565002_60]); (with_reducible repeat (first | refine blk_drewN ?_ _ | refine blk_drew ?_ | refine blk_alloc ?_ _)); exact BK538.out⟩, ⟨by (try simp only [hl565002_60]); (with_reducible repeat (first | refine blk_drewN ?_ _ | refine blk_drew ?_ | refine blk_alloc ?_ _)); exact BK564.out⟩, ⟨by repeat (first | (with_reducible first | exact HB.out | apply below_alloc | apply pw_below_drewN | apply below_drew1 | refine below_set ?_ GE538.out | refine below_set ?_ GE564.out) | exact HB.out)⟩⟩
               ·replace c121 := Bool.eq_false_iff.mpr c121
                subst c121
                have H1 : (laws_FnExactAskFor.j2 kj60 t591 t593 t592 true) = some r := by rw [if_neg (show ¬ (false = true) by decide)] at H; exact H
                clear H
                have H := H1
                clear H1
                have H' := Aside0.mk H
                clear H
                obtain ⟨Ao134, co134, eo134⟩ := Kd.R_slice HO606.out
                subst eo134
                obtain ⟨Ao135, co135, eo135⟩ := Kd.R_slice HO_6.out
                subst eo135
                go_wp2_with (first | ((with_reducible refine gate_callee (f := 21) rfl ?_); refine goesL_ (some 130) rfl rfl Try.func21 (by kernel_rfl) rfl #[.slice Ao134 t604.length co134, .slice Ao135 t549.length co135] rfl (by (try simp only [List.map_toArray, List.map_cons, List.map_nil]); first | done | rfl | (simp only [List.length_drop, List.length_take]; rfl)) ?_; (with_reducible refine (laws_eqIntS.calls kj60 _ _ t604 _ _ t549 false _ ?side1 ?side2 ?side3 ?side4 A120.out).mono ?_); (case side1 => repeat (first | exact (Kd.R_reads' HO606.out).2.2 | (with_reducible refine Kd.C_alloc ?_ _) | (with_reducible refine Kd.C_drewN ?_ _) | (with_reducible refine Kd.C_drew ?_))); (case side2 => exact (Kd.R_reads' HO606.out).2.1); (case side3 => repeat (first | exact (Kd.R_reads' HO_6.out).2.2 | (with_reducible refine Kd.C_alloc ?_ _) | (with_reducible refine Kd.C_drewN ?_ _) | (with_reducible refine Kd.C_drew ?_))); (case side4 => exact (Kd.R_reads' HO_6.out).2.1); rintro e w' ⟨rfl, ⟨nd, rfl⟩⟩; refine ⟨_, rfl, ?_⟩))
                go_meet
                case rel => exact ⟨_, (true), (by first | rfl | (simp; done) | (simp [*]; done)), H', ⟨by have := HJ16.out; have := HJ60.out; first | omega | exact Nat.le_refl _⟩, ⟨by (try simp only [hl565002_60]); (with_reducible repeat (first | apply Kd.R_alloc | apply Kd.R_drewN | apply Kd.R_drew)); exact Kd.R_mono HO_11.out (fun _ hk => trivial)⟩, ⟨by (try simp only [hl565002_60]); (with_reducible repeat (first | apply Kd.R_alloc | apply Kd.R_drewN | apply Kd.R_drew)); exact Kd.R_mono HO_12.out (fun _ hk => by first | exact hk.1.1.1.2 | exact hk.2 | exact hk.1.2 | exact hk.1.1.2 | exact hk.1.1.1.1.2 | exact hk.1.1.1.1 | exact hk.1.1.1)⟩, ⟨by (try simp only [hl565002_60]); (with_reducible repeat (first | apply Kd.R_alloc | apply Kd.R_drewN | apply Kd.R_drew)); exact Kd.R_mono HO_565002.out (fun _ hk => by first | exact hk.1.1.1.2 | exact hk.2 | exact hk.1.2 | exact hk.1.1.2 | exact hk.1.1.1.1.2 | exact hk.1.1.1.1 | exact hk.1.1.1)⟩, ⟨by (try simp only [hl565002_60]); (with_reducible repeat (first | refine blk_drewN ?_ _ | refine blk_drew ?_ | refine blk_alloc ?_ _)); exact BK538.out⟩, ⟨by (try simp only [hl565002_60]); (with_reducible repeat (first | refine blk_drewN ?_ _ | refine blk_drew ?_ | refine blk_alloc ?_ _)); exact BK564.out⟩, ⟨by repeat (first | (with_reducible first | exact HB.out | apply below_alloc | apply pw_below_drewN | apply below_drew1 | refine below_set ?_ GE538.out | refine below_set ?_ GE564.out) | exact HB.out)⟩⟩
              case rest =>
               clear HC109
               try clear c1
               try clear c2
               try clear p2
               try clear c3
               try clear c4
               try clear c4b0
               try clear c5
               try clear c6
               try clear c7
               try clear c7b0
               try clear c9
               try clear c10
               try clear c12
               try clear c21
               try clear c23
               try clear c27
               try clear c30
               try clear c31
               try clear c32
               try clear c33
               try clear c34
               try clear c35
               try clear c36
               try clear c37
               try clear c38
               try clear c39
               try clear c40
               try clear c52
               try clear c55
               try clear c58
               try clear c70
               try clear c73
               try clear c73b0
               try clear c75
               try clear c77
               try clear c90
               try clear c94
               try clear c94b0
               try clear c100
               try clear c100b0
               try clear c105
               try clear c105b0
               try clear c105b1
               try clear c121
               try clear c123
               try clear hcz19_0
               try clear hcz19_1
               try clear hcz19_2
               try clear hcz28_0
               try clear hcz28_1
               try clear hcz28_2
               try clear hcz32_0
               try clear hcz32_1
               try clear hcz32_2
               try clear hcz71_0
               try clear hcz71_1
               try clear hcz71_2
               try clear hcz9_0
               try clear hcz9_1
               try clear hcz9_2
               try clear hfz19_0
               try clear hfz19_1
               try clear hfz19_2
               try clear hfz28_0
               try clear hfz28_1
               try clear hfz28_2
               try clear hfz32_0
               try clear hfz32_1
               try clear hfz32_2
               try clear hfz71_0
               try clear hfz71_1
               try clear hfz71_2
               try clear hfz9_0
               try clear hfz9_1
               try clear hfz9_2
               try clear p2
               obtain ⟨kq, x142_108, rfl, HA, HJ108, HO_11, HO_12, HO_565002, BK538, BK564, HB⟩ := hcut
               have hl11_108 := (Kd.R_reads' HO_11.out).1
               rw [hl11_108] at HO_11
               (try simp only [hl11_108])
               (try simp only [hl11_108] at BK538)
               (try simp only [hl11_108] at BK564)
               (try simp only [hl11_108] at HO_12)
               (try simp only [hl11_108] at HO_565002)
               have hl12_108 := (Kd.R_reads' HO_12.out).1
               rw [hl12_108] at HO_12
               (try simp only [hl12_108])
               (try simp only [hl12_108] at BK538)
               (try simp only [hl12_108] at BK564)
               (try simp only [hl12_108] at HO_11)
               (try simp only [hl12_108] at HO_565002)
               cases kq with
               | zero => exact absurd HA.out (by simp [laws_FnExactAskFor.j2])
               | succ kj108 =>
                have H := HA.out
                clear HA
                simp only [laws_FnExactAskFor.j2] at H
                by_cases c136 : x142_108 = true
                ·subst c136
                 have H1 : (some false) = some r := by rw [if_pos rfl] at H; exact H
                 clear H
                 have H := H1
                 clear H1
                 obtain rfl := Option.some.inj H
                 go_wp2
                 go_ret
                 exact ⟨by first | rfl | (simp [errW_none, errW_some] <;> rfl) | (simp [*, errW_none, errW_some] <;> rfl), by repeat (first | (with_reducible first | exact HB.out | apply below_alloc | apply pw_below_drewN | apply below_drew1 | refine below_set ?_ GE538.out | refine below_set ?_ GE564.out) | exact HB.out)⟩
                ·replace c136 := Bool.eq_false_iff.mpr c136
                 subst c136
                 have H1 : ((laws_heldIntS.f kj108 t591 1).bind fun t613 => (if t613 < 0 then (some false) else ((laws_heldHaveS.f kj108 t593 t613).bind fun t614 => (if t614 < 0 then (some false) else (if t614 = t592 then (some true) else (some false)))))) = some r := by rw [if_neg (show ¬ (false = true) by decide)] at H; exact H
                 clear H
                 have H := H1
                 clear H1
                 replace H := Option.bind_eq_some_iff.mp H
                 obtain ⟨t613, A1370, H⟩ := H
                 replace H : (if t613 < 0 then (some false) else ((laws_heldHaveS.f kj108 t593 t613).bind fun t614 => (if t614 < 0 then (some false) else (if t614 = t592 then (some true) else (some false))))) = some r := H
                 have A137 := Aside0.mk A1370
                 clear A1370
                 by_cases c138 : t613 < 0
                 ·rw [if_pos c138] at H
                  have c138b0 : decide (t613 < 0) = true := decide_eq_true c138
                  clear c138
                  obtain rfl := Option.some.inj H
                  go_wp2_with (first | ((with_reducible refine gate_callee (f := 27) rfl ?_); refine goesL_ (some 145) rfl rfl Try.func27 (by kernel_rfl) rfl #[.slice Ao110 t591.length co110, .int .i64 1] rfl (by (try simp only [List.map_toArray, List.map_cons, List.map_nil]); first | done | rfl | (simp only [List.length_drop, List.length_take]; rfl)) ?_; (with_reducible refine (laws_heldIntS.calls kj108 _ _ t591 1 t613 _ ?side1 ?side2 A137.out).mono ?_); (case side1 => repeat (first | exact (Kd.R_reads' HO_11.out).2.2 | (with_reducible refine Kd.C_alloc ?_ _) | (with_reducible refine Kd.C_drewN ?_ _) | (with_reducible refine Kd.C_drew ?_))); (case side2 => exact (Kd.R_reads' HO_11.out).2.1); rintro e w' ⟨rfl, ⟨nd, rfl⟩⟩; refine ⟨_, rfl, ?_⟩))
                  go_ret
                  exact ⟨by first | rfl | (simp [errW_none, errW_some] <;> rfl) | (simp [*, errW_none, errW_some] <;> rfl), by repeat (first | (with_reducible first | exact HB.out | apply below_alloc | apply pw_below_drewN | apply below_drew1 | refine below_set ?_ GE538.out | refine below_set ?_ GE564.out) | exact HB.out)⟩
                 ·rw [if_neg c138] at H
                  have c138b0 : decide (t613 < 0) = false := decide_eq_false c138
                  clear c138
                  replace H := Option.bind_eq_some_iff.mp H
                  obtain ⟨t614, A1390, H⟩ := H
                  replace H : (if t614 < 0 then (some false) else (if t614 = t592 then (some true) else (some false))) = some r := H
                  have A139 := Aside0.mk A1390
                  clear A1390
                  by_cases c140 : t614 < 0
                  ·rw [if_pos c140] at H
                   have c140b0 : decide (t614 < 0) = true := decide_eq_true c140
                   clear c140
                   obtain rfl := Option.some.inj H
                   go_wp2_with (first | ((with_reducible refine gate_callee (f := 27) rfl ?_); refine goesL_ (some 145) rfl rfl Try.func27 (by kernel_rfl) rfl #[.slice Ao110 t591.length co110, .int .i64 1] rfl (by (try simp only [List.map_toArray, List.map_cons, List.map_nil]); first | done | rfl | (simp only [List.length_drop, List.length_take]; rfl)) ?_; (with_reducible refine (laws_heldIntS.calls kj108 _ _ t591 1 t613 _ ?side1 ?side2 A137.out).mono ?_); (case side1 => repeat (first | exact (Kd.R_reads' HO_11.out).2.2 | (with_reducible refine Kd.C_alloc ?_ _) | (with_reducible refine Kd.C_drewN ?_ _) | (with_reducible refine Kd.C_drew ?_))); (case side2 => exact (Kd.R_reads' HO_11.out).2.1); rintro e w' ⟨rfl, ⟨nd, rfl⟩⟩; refine ⟨_, rfl, ?_⟩) | ((with_reducible refine gate_callee (f := 40) rfl ?_); refine goesL_ (some 150) rfl rfl Try.func40 (by kernel_rfl) rfl #[.slice Ao112 t593.length co112, .int .i64 t613] rfl (by (try simp only [List.map_toArray, List.map_cons, List.map_nil]); first | done | rfl | (simp only [List.length_drop, List.length_take]; rfl)) ?_; (with_reducible refine (laws_heldHaveS.calls kj108 _ _ t593 t613 t614 _ ?side1 ?side2 A139.out).mono ?_); (case side1 => repeat (first | exact (Kd.R_reads' HO_12.out).2.2 | (with_reducible refine Kd.C_alloc ?_ _) | (with_reducible refine Kd.C_drewN ?_ _) | (with_reducible refine Kd.C_drew ?_))); (case side2 => exact (Kd.R_reads' HO_12.out).2.1); rintro e w' ⟨rfl, ⟨nd, rfl⟩⟩; refine ⟨_, rfl, ?_⟩))
                   go_ret
                   exact ⟨by first | rfl | (simp [errW_none, errW_some] <;> rfl) | (simp [*, errW_none, errW_some] <;> rfl), by repeat (first | (with_reducible first | exact HB.out | apply below_alloc | apply pw_below_drewN | apply below_drew1 | refine below_set ?_ GE538.out | refine below_set ?_ GE564.out) | exact HB.out)⟩
                  ·rw [if_neg c140] at H
                   have c140b0 : decide (t614 < 0) = false := decide_eq_false c140
                   clear c140
                   by_cases c141 : t614 = t592
                   ·rw [if_pos c141] at H
                    have c141b0 : (t614 == t592) = true := beq_iff_eq.mpr c141
                    have c141b1 : (t614 != t592) = false := bne_eq_false_iff_eq.mpr c141
                    clear c141
                    obtain rfl := Option.some.inj H
                    go_wp2_with (first | ((with_reducible refine gate_callee (f := 27) rfl ?_); refine goesL_ (some 145) rfl rfl Try.func27 (by kernel_rfl) rfl #[.slice Ao110 t591.length co110, .int .i64 1] rfl (by (try simp only [List.map_toArray, List.map_cons, List.map_nil]); first | done | rfl | (simp only [List.length_drop, List.length_take]; rfl)) ?_; (with_reducible refine (laws_heldIntS.calls kj108 _ _ t591 1 t613 _ ?side1 ?side2 A137.out).mono ?_); (case side1 => repeat (first | exact (Kd.R_reads' HO_11.out).2.2 | (with_reducible refine Kd.C_alloc ?_ _) | (with_reducible refine Kd.C_drewN ?_ _) | (with_reducible refine Kd.C_drew ?_))); (case side2 => exact (Kd.R_reads' HO_11.out).2.1); rintro e w' ⟨rfl, ⟨nd, rfl⟩⟩; refine ⟨_, rfl, ?_⟩) | ((with_reducible refine gate_callee (f := 40) rfl ?_); refine goesL_ (some 150) rfl rfl Try.func40 (by kernel_rfl) rfl #[.slice Ao112 t593.length co112, .int .i64 t613] rfl (by (try simp only [List.map_toArray, List.map_cons, List.map_nil]); first | done | rfl | (simp only [List.length_drop, List.length_take]; rfl)) ?_; (with_reducible refine (laws_heldHaveS.calls kj108 _ _ t593 t613 t614 _ ?side1 ?side2 A139.out).mono ?_); (case side1 => repeat (first | exact (Kd.R_reads' HO_12.out).2.2 | (with_reducible refine Kd.C_alloc ?_ _) | (with_reducible refine Kd.C_drewN ?_ _) | (with_reducible refine Kd.C_drew ?_))); (case side2 => exact (Kd.R_reads' HO_12.out).2.1); rintro e w' ⟨rfl, ⟨nd, rfl⟩⟩; refine ⟨_, rfl, ?_⟩))
                    go_ret
                    exact ⟨by first | rfl | (simp [errW_none, errW_some] <;> rfl) | (simp [*, errW_none, errW_some] <;> rfl), by repeat (first | (with_reducible first | exact HB.out | apply below_alloc | apply pw_below_drewN | apply below_drew1 | refine below_set ?_ GE538.out | refine below_set ?_ GE564.out) | exact HB.out)⟩
                   ·rw [if_neg c141] at H
                    have c141b0 : (t614 == t592) = false := beq_eq_false_iff_ne.mpr c141
                    have c141b1 : (t614 != t592) = true := bne_iff_ne.mpr c141
                    obtain rfl := Option.some.inj H
                    go_wp2_with (first | ((with_reducible refine gate_callee (f := 27) rfl ?_); refine goesL_ (some 145) rfl rfl Try.func27 (by kernel_rfl) rfl #[.slice Ao110 t591.length co110, .int .i64 1] rfl (by (try simp only [List.map_toArray, List.map_cons, List.map_nil]); first | done | rfl | (simp only [List.length_drop, List.length_take]; rfl)) ?_; (with_reducible refine (laws_heldIntS.calls kj108 _ _ t591 1 t613 _ ?side1 ?side2 A137.out).mono ?_); (case side1 => repeat (first | exact (Kd.R_reads' HO_11.out).2.2 | (with_reducible refine Kd.C_alloc ?_ _) | (with_reducible refine Kd.C_drewN ?_ _) | (with_reducible refine Kd.C_drew ?_))); (case side2 => exact (Kd.R_reads' HO_11.out).2.1); rintro e w' ⟨rfl, ⟨nd, rfl⟩⟩; refine ⟨_, rfl, ?_⟩) | ((with_reducible refine gate_callee (f := 40) rfl ?_); refine goesL_ (some 150) rfl rfl Try.func40 (by kernel_rfl) rfl #[.slice Ao112 t593.length co112, .int .i64 t613] rfl (by (try simp only [List.map_toArray, List.map_cons, List.map_nil]); first | done | rfl | (simp only [List.length_drop, List.length_take]; rfl)) ?_; (with_reducible refine (laws_heldHaveS.calls kj108 _ _ t593 t613 t614 _ ?side1 ?side2 A139.out).mono ?_); (case side1 => repeat (first | exact (Kd.R_reads' HO_12.out).2.2 | (with_reducible refine Kd.C_alloc ?_ _) | (with_reducible refine Kd.C_drewN ?_ _) | (with_reducible refine Kd.C_drew ?_))); (case side2 => exact (Kd.R_reads' HO_12.out).2.1); rintro e w' ⟨rfl, ⟨nd, rfl⟩⟩; refine ⟨_, rfl, ?_⟩))
                    go_ret
                    exact ⟨by first | rfl | (simp [errW_none, errW_some] <;> rfl) | (simp [*, errW_none, errW_some] <;> rfl), by repeat (first | (with_reducible first | exact HB.out | apply below_alloc | apply pw_below_drewN | apply below_drew1 | refine below_set ?_ GE538.out | refine below_set ?_ GE564.out) | exact HB.out)⟩
             ·rw [if_neg c105] at H
              have c105b0 : (t595 == t592) = false := beq_eq_false_iff_ne.mpr c105
              have c105b1 : (t595 != t592) = true := bne_iff_ne.mpr c105
              obtain rfl := Option.some.inj H
              obtain ⟨Ao142, co142, eo142⟩ := Kd.R_slice HO_11.out
              subst eo142
              go_wp2_with (first | ((with_reducible refine gate_callee (f := 23) rfl ?_); refine goesL_ (some 102) rfl rfl Try.func23 (by kernel_rfl) rfl #[.slice Ao142 t565.length co142, .int .i64 1] rfl (by (try simp only [List.map_toArray, List.map_cons, List.map_nil]); first | done | rfl | (simp only [List.length_drop, List.length_take]; rfl)) ?_; (with_reducible refine (laws_markIntS.calls kj60 (fun k_ => some k_ = (.slice Ao142 t565.length co142 : Value).ownBlock) (.slice Ao142 t565.length co142) t565 1 t590 t591 w _ ?side1 ?side2 A91.out).mono ?_); (case side1 => repeat (first | (with_reducible first | exact HB.out | apply below_alloc | apply pw_below_drewN | apply below_drew1 | refine below_set ?_ GE538.out | refine below_set ?_ GE564.out) | exact HB.out)); (case side2 => exact Kd.R_tight rfl HO_11.out); rintro e w143 ⟨rfl, hy0, hb, hkp⟩; refine ⟨_, rfl, ?_⟩; have n0_ := Aside0.mk (Kd.R_mono (ok' := fun k_ => some k_ ≠ (.slice Ao142 t565.length co142 : Value).ownBlock) (Kd.R_keptB (HO_6.out) hkp (fun k_ hk_ hs_ => (hk_) hs_)) (fun k_ hk_ => hk_.1)); have n1_ := Aside0.mk (Kd.R_mono (ok' := fun k_ => some k_ ≠ (v569 : Value).ownBlock ∧ some k_ ≠ (.slice Ao33 t587.length co33 : Value).ownBlock) (Kd.R_keptB ((Kd.R_apart' HO_7.out (Kd.R_typed HO_11.out) (by decide))) hkp (fun k_ hk_ hs_ => (hk_.2) hs_)) (fun k_ hk_ => ⟨hk_.1.1.1, hk_.1.1.2⟩)); have n2_ := Aside0.mk (Kd.R_reok rfl hy0 (fun k_ e_ => HO_11.out.1 k_ e_)); have n3_ := Aside0.mk (Kd.R_mono (ok' := fun k_ => some k_ ≠ (v553 : Value).ownBlock ∧ some k_ ≠ (.slice Ao33 t587.length co33 : Value).ownBlock) (Kd.R_keptB ((Kd.R_apart' HO_12.out (Kd.R_typed HO_11.out) (by decide))) hkp (fun k_ hk_ hs_ => (hk_.2) hs_)) (fun k_ hk_ => ⟨hk_.1.1.1, hk_.1.1.2⟩)); have n4_ := Aside0.mk (Kd.R_mono (ok' := fun k_ => some k_ ≠ (v553 : Value).ownBlock ∧ some k_ ≠ (v569 : Value).ownBlock) (Kd.R_keptB ((Kd.R_apart' HO_565002.out (Kd.R_typed HO_11.out) (by decide))) hkp (fun k_ hk_ hs_ => (hk_.2) hs_)) (fun k_ hk_ => ⟨hk_.1.1.1, hk_.1.1.2⟩)); have n5_ := Aside0.mk (blk_kept (by (with_reducible repeat (first | refine blk_drewN ?_ _ | refine blk_drew ?_ | refine blk_alloc ?_ _)); exact BK538.out) hkp (fun hs_ => (fun e_ => (Kd.R_ne HO_11.out BK538.out (by decide)) e_) hs_)); have n6_ := Aside0.mk (blk_kept (by (with_reducible repeat (first | refine blk_drewN ?_ _ | refine blk_drew ?_ | refine blk_alloc ?_ _)); exact BK564.out) hkp (fun hs_ => (fun e_ => (Kd.R_ne HO_11.out BK564.out (by decide)) e_) hs_)); have n7_ := Aside0.mk (hb); clear HO_6; clear HO_7; clear HO_11; clear HO_12; clear HO_565002; clear BK538; clear BK564; clear HB; have HO_6 := n0_; have HO_7 := n1_; have HO_11 := n2_; have HO_12 := n3_; have HO_565002 := n4_; have BK538 := n5_; have BK564 := n6_; have HB := n7_; clear n0_ n1_ n2_ n3_ n4_ n5_ n6_ n7_; (try clear hb); (try clear hkp); (try clear hy0); obtain ⟨Ao144, co144, eo144⟩ := Kd.R_slice HO_12.out; subst eo144) | ((with_reducible refine gate_callee (f := 38) rfl ?_); refine goesL_ (some 105) rfl rfl Try.func38 (by kernel_rfl) rfl #[.slice Ao144 t568.length co144, .int .i64 t590] rfl (by (try simp only [List.map_toArray, List.map_cons, List.map_nil]); first | done | rfl | (simp only [List.length_drop, List.length_take]; rfl)) ?_; (with_reducible refine (laws_markHaveS.calls kj60 (fun k_ => some k_ = (.slice Ao144 t568.length co144 : Value).ownBlock) (.slice Ao144 t568.length co144) t568 t590 t592 t593 w _ ?side1 ?side2 A92.out).mono ?_); (case side1 => repeat (first | (with_reducible first | exact HB.out | apply below_alloc | apply pw_below_drewN | apply below_drew1 | refine below_set ?_ GE538.out | refine below_set ?_ GE564.out) | exact HB.out)); (case side2 => exact Kd.R_tight rfl HO_12.out); rintro e w145 ⟨rfl, hy0, hb, hkp⟩; refine ⟨_, rfl, ?_⟩; have n0_ := Aside0.mk (Kd.R_mono (ok' := fun k_ => some k_ ≠ (.slice Ao142 t565.length co142 : Value).ownBlock) (Kd.R_keptB ((Kd.R_apart' HO_6.out (Kd.R_typed HO_12.out) (by decide))) hkp (fun k_ hk_ hs_ => (hk_.2) hs_)) (fun k_ hk_ => hk_.1.1)); have n1_ := Aside0.mk (Kd.R_mono (ok' := fun k_ => some k_ ≠ (.slice Ao144 t568.length co144 : Value).ownBlock ∧ some k_ ≠ (.slice Ao33 t587.length co33 : Value).ownBlock) (Kd.R_keptB (HO_7.out) hkp (fun k_ hk_ hs_ => (hk_.1) hs_)) (fun k_ hk_ => ⟨hk_.1.1, hk_.1.2⟩)); have n2_ := Aside0.mk (Kd.R_mono (ok' := fun k_ => some k_ ≠ (v550 : Value).ownBlock) (Kd.R_keptB ((Kd.R_apart' HO_11.out (Kd.R_typed HO_12.out) (by decide))) hkp (fun k_ hk_ hs_ => (hk_.2) hs_)) (fun k_ hk_ => hk_.1.1)); have n3_ := Aside0.mk (Kd.R_reok rfl hy0 (fun k_ e_ => HO_12.out.1 k_ e_)); have n4_ := Aside0.mk (Kd.R_mono (ok' := fun k_ => some k_ ≠ (v553 : Value).ownBlock ∧ some k_ ≠ (.slice Ao144 t568.length co144 : Value).ownBlock) (Kd.R_keptB (HO_565002.out) hkp (fun k_ hk_ hs_ => (hk_.2) hs_)) (fun k_ hk_ => ⟨hk_.1.1, hk_.1.2⟩)); have n5_ := Aside0.mk (blk_kept (by (with_reducible repeat (first | refine blk_drewN ?_ _ | refine blk_drew ?_ | refine blk_alloc ?_ _)); exact BK538.out) hkp (fun hs_ => (fun e_ => (Kd.R_ne HO_12.out BK538.out (by decide)) e_) hs_)); have n6_ := Aside0.mk (blk_kept (by (with_reducible repeat (first | refine blk_drewN ?_ _ | refine blk_drew ?_ | refine blk_alloc ?_ _)); exact BK564.out) hkp (fun hs_ => (fun e_ => (Kd.R_ne HO_12.out BK564.out (by decide)) e_) hs_)); have n7_ := Aside0.mk (hb); clear HO_6; clear HO_7; clear HO_11; clear HO_12; clear HO_565002; clear BK538; clear BK564; clear HB; have HO_6 := n0_; have HO_7 := n1_; have HO_11 := n2_; have HO_12 := n3_; have HO_565002 := n4_; have BK538 := n5_; have BK564 := n6_; have HB := n7_; clear n0_ n1_ n2_ n3_ n4_ n5_ n6_ n7_; (try clear hb); (try clear hkp); (try clear hy0)) | ((with_reducible refine gate_callee (f := 27) rfl ?_); refine goesL_ (some 108) rfl rfl Try.func27 (by kernel_rfl) rfl #[.slice Ao142 t591.length co142, .int .i64 1] rfl (by (try simp only [List.map_toArray, List.map_cons, List.map_nil]); first | done | (rw [show t591.length = t565.length from (Kd.R_reads' HO_11.out).1.symm] <;> rfl) | rfl | (simp only [List.length_drop, List.length_take]; rfl)) ?_; (with_reducible refine (laws_heldIntS.calls kj60 _ _ t591 1 t594 _ ?side1 ?side2 A93.out).mono ?_); (case side1 => repeat (first | exact (Kd.R_reads' HO_11.out).2.2 | (with_reducible refine Kd.C_alloc ?_ _) | (with_reducible refine Kd.C_drewN ?_ _) | (with_reducible refine Kd.C_drew ?_))); (case side2 => rw [show t591.length = t565.length from (Kd.R_reads' HO_11.out).1.symm]; exact (Kd.R_reads' HO_11.out).2.1); rintro e w' ⟨rfl, ⟨nd, rfl⟩⟩; refine ⟨_, rfl, ?_⟩) | ((with_reducible refine gate_callee (f := 40) rfl ?_); refine goesL_ (some 113) rfl rfl Try.func40 (by kernel_rfl) rfl #[.slice Ao144 t593.length co144, .int .i64 t594] rfl (by (try simp only [List.map_toArray, List.map_cons, List.map_nil]); first | done | (rw [show t593.length = t568.length from (Kd.R_reads' HO_12.out).1.symm] <;> rfl) | rfl | (simp only [List.length_drop, List.length_take]; rfl)) ?_; (with_reducible refine (laws_heldHaveS.calls kj60 _ _ t593 t594 t595 _ ?side1 ?side2 A99.out).mono ?_); (case side1 => repeat (first | exact (Kd.R_reads' HO_12.out).2.2 | (with_reducible refine Kd.C_alloc ?_ _) | (with_reducible refine Kd.C_drewN ?_ _) | (with_reducible refine Kd.C_drew ?_))); (case side2 => rw [show t593.length = t568.length from (Kd.R_reads' HO_12.out).1.symm]; exact (Kd.R_reads' HO_12.out).2.1); rintro e w' ⟨rfl, ⟨nd, rfl⟩⟩; refine ⟨_, rfl, ?_⟩))
              go_ret
              exact ⟨by first | rfl | (simp [errW_none, errW_some] <;> rfl) | (simp [*, errW_none, errW_some] <;> rfl), by repeat (first | (with_reducible first | exact HB.out | apply below_alloc | apply pw_below_drewN | apply below_drew1 | refine below_set ?_ GE538.out | refine below_set ?_ GE564.out) | exact HB.out)⟩
       ·replace c58 := Bool.eq_false_iff.mpr c58
        subst c58
        have H1 : (some false) = some r := by rw [if_neg (show ¬ (false = true) by decide)] at H; exact H
        clear H
        have H := H1
        clear H1
        obtain rfl := Option.some.inj H
        try go_wp2_with (first | ((with_reducible refine gate_callee (f := 33) rfl ?_); refine goesL_ (some 67) rfl rfl Try.func33 (by kernel_rfl) rfl #[.slice A0 l0.length c0] rfl (by (try simp only [List.map_toArray, List.map_cons, List.map_nil]); first | done | rfl | (simp only [List.length_drop, List.length_take]; rfl)) ?_; (with_reducible refine (laws_toHaveS.calls kj16 _ _ l0 t574 _ ?side1 ?side2 A53.out).mono ?_); (case side1 => repeat (first | exact (Kd.C_below HR0.out HB.out) | (with_reducible refine Kd.C_alloc ?_ _) | (with_reducible refine Kd.C_drewN ?_ _) | (with_reducible refine Kd.C_drew ?_))); (case side2 => exact HC0.out); rintro e w146 ⟨v575, rfl, ho0, hb⟩; refine ⟨_, rfl, ?_⟩; have n0_ := Aside0.mk (Kd.R_below (by (with_reducible repeat (first | apply Kd.R_alloc | apply Kd.R_drewN | apply Kd.R_drew)); exact HO_6.out) hb); have n1_ := Aside0.mk (Kd.R_elder' (by (with_reducible repeat (first | apply Kd.R_alloc | apply Kd.R_drewN | apply Kd.R_drew)); exact HO_7.out) (Kd.R_base ho0) hb); have n2_ := Aside0.mk (Kd.R_elder' (by (with_reducible repeat (first | apply Kd.R_alloc | apply Kd.R_drewN | apply Kd.R_drew)); exact HO_9.out) (Kd.R_base ho0) hb); have n3_ := Aside0.mk (Kd.R_below (by (with_reducible repeat (first | apply Kd.R_alloc | apply Kd.R_drewN | apply Kd.R_drew)); exact HO_11.out) hb); have n4_ := Aside0.mk (Kd.R_elder' (by (with_reducible repeat (first | apply Kd.R_alloc | apply Kd.R_drewN | apply Kd.R_drew)); exact HO_12.out) (Kd.R_base ho0) hb); have n5_ := Aside0.mk (Kd.R_elder' (by (with_reducible repeat (first | apply Kd.R_alloc | apply Kd.R_drewN | apply Kd.R_drew)); exact HO_565002.out) (Kd.R_base ho0) hb); have n6_ := Aside0.mk (Kd.R_lower (Kd.R_new' (Kd.R_new' (Kd.R_new' (Kd.R_new' ho0 (Kd.R_lt (by (with_reducible repeat (first | apply Kd.R_alloc | apply Kd.R_drewN | apply Kd.R_drew)); exact HO_7.out))) (Kd.R_lt (by (with_reducible repeat (first | apply Kd.R_alloc | apply Kd.R_drewN | apply Kd.R_drew)); exact HO_9.out))) (Kd.R_lt (by (with_reducible repeat (first | apply Kd.R_alloc | apply Kd.R_drewN | apply Kd.R_drew)); exact HO_12.out))) (Kd.R_lt (by (with_reducible repeat (first | apply Kd.R_alloc | apply Kd.R_drewN | apply Kd.R_drew)); exact HO_565002.out))) (below_size (by repeat (first | (with_reducible first | exact HB.out | apply below_alloc | apply pw_below_drewN | apply below_drew1 | refine below_set ?_ GE538.out | refine below_set ?_ GE564.out) | exact HB.out)))); have n7_ := Aside0.mk (blk_below (g := gb538) (o := .cells #[.int .i64 a1_0, .int .i64 a1_1, .slice A1_2 l1_2.length c1_2] 42 (0, 0)) (by (with_reducible repeat (first | refine blk_drewN ?_ _ | refine blk_drew ?_ | refine blk_alloc ?_ _)); exact BK538.out) hb); have n8_ := Aside0.mk (blk_below (g := gb564) (o := .cells #[.int .i64 t559, .int .i64 t560, .slice Ao33 t561.length co33] 50 (0, 0)) (by (with_reducible repeat (first | refine blk_drewN ?_ _ | refine blk_drew ?_ | refine blk_alloc ?_ _)); exact BK564.out) hb); have n9_ := Aside0.mk (below_step (by repeat (first | (with_reducible first | exact HB.out | apply below_alloc | apply pw_below_drewN | apply below_drew1 | refine below_set ?_ GE538.out | refine below_set ?_ GE564.out) | exact HB.out)) hb); clear HO_6; clear HO_7; clear HO_9; clear HO_11; clear HO_12; clear HO_565002; clear BK538; clear BK564; clear HB; have HO_6 := n0_; have HO_7 := n1_; have HO_9 := n2_; have HO_11 := n3_; have HO_12 := n4_; have HO_565002 := n5_; have HO576 := n6_; have BK538 := n7_; have BK564 := n8_; have HB := n9_; clear n0_ n1_ n2_ n3_ n4_ n5_ n6_ n7_ n8_ n9_; (try clear hb); (try clear hb2); (try clear hk); (try clear hi); (try clear ho0); obtain ⟨Ao147, co147, eo147⟩ := Kd.R_slice HO576.out; subst eo147) | ((with_reducible refine gate_callee (f := 36) rfl ?_); refine goesL_ (some 68) rfl rfl Try.func36 (by kernel_rfl) rfl #[.slice Ao34 t556.length co34, .slice Ao147 t574.length co147] rfl (by (try simp only [List.map_toArray, List.map_cons, List.map_nil]); first | done | rfl | (simp only [List.length_drop, List.length_take]; rfl)) ?_; (with_reducible refine (laws_eqHaveS.calls kj16 _ _ t556 _ _ t574 true _ ?side1 ?side2 ?side3 ?side4 A54.out).mono ?_); (case side1 => repeat (first | exact (Kd.R_reads' HO_9.out).2.2 | (with_reducible refine Kd.C_alloc ?_ _) | (with_reducible refine Kd.C_drewN ?_ _) | (with_reducible refine Kd.C_drew ?_))); (case side2 => exact (Kd.R_reads' HO_9.out).2.1); (case side3 => repeat (first | exact (Kd.R_reads' HO576.out).2.2 | (with_reducible refine Kd.C_alloc ?_ _) | (with_reducible refine Kd.C_drewN ?_ _) | (with_reducible refine Kd.C_drew ?_))); (case side4 => exact (Kd.R_reads' HO576.out).2.1); rintro e w148 ⟨rfl, hb⟩; refine ⟨_, rfl, ?_⟩; have n0_ := Aside0.mk (Kd.R_below (by (with_reducible repeat (first | apply Kd.R_alloc | apply Kd.R_drewN | apply Kd.R_drew)); exact HO_6.out) hb); have n1_ := Aside0.mk (Kd.R_below (by (with_reducible repeat (first | apply Kd.R_alloc | apply Kd.R_drewN | apply Kd.R_drew)); exact HO_7.out) hb); have n2_ := Aside0.mk (Kd.R_below (by (with_reducible repeat (first | apply Kd.R_alloc | apply Kd.R_drewN | apply Kd.R_drew)); exact HO_9.out) hb); have n3_ := Aside0.mk (Kd.R_below (by (with_reducible repeat (first | apply Kd.R_alloc | apply Kd.R_drewN | apply Kd.R_drew)); exact HO_11.out) hb); have n4_ := Aside0.mk (Kd.R_below (by (with_reducible repeat (first | apply Kd.R_alloc | apply Kd.R_drewN | apply Kd.R_drew)); exact HO_12.out) hb); have n5_ := Aside0.mk (Kd.R_below (by (with_reducible repeat (first | apply Kd.R_alloc | apply Kd.R_drewN | apply Kd.R_drew)); exact HO_565002.out) hb); have n6_ := Aside0.mk (Kd.R_below (by (with_reducible repeat (first | apply Kd.R_alloc | apply Kd.R_drewN | apply Kd.R_drew)); exact HO576.out) hb); have n7_ := Aside0.mk (blk_below (g := gb538) (o := .cells #[.int .i64 a1_0, .int .i64 a1_1, .slice A1_2 l1_2.length c1_2] 42 (0, 0)) (by (with_reducible repeat (first | refine blk_drewN ?_ _ | refine blk_drew ?_ | refine blk_alloc ?_ _)); exact BK538.out) hb); have n8_ := Aside0.mk (blk_below (g := gb564) (o := .cells #[.int .i64 t559, .int .i64 t560, .slice Ao33 t561.length co33] 50 (0, 0)) (by (with_reducible repeat (first | refine blk_drewN ?_ _ | refine blk_drew ?_ | refine blk_alloc ?_ _)); exact BK564.out) hb); have n9_ := Aside0.mk (below_step (by repeat (first | (with_reducible first | exact HB.out | apply below_alloc | apply pw_below_drewN | apply below_drew1 | refine below_set ?_ GE538.out | refine below_set ?_ GE564.out) | exact HB.out)) hb); clear HO_6; clear HO_7; clear HO_9; clear HO_11; clear HO_12; clear HO_565002; clear HO576; clear BK538; clear BK564; clear HB; have HO_6 := n0_; have HO_7 := n1_; have HO_9 := n2_; have HO_11 := n3_; have HO_12 := n4_; have HO_565002 := n5_; have HO576 := n6_; have BK538 := n7_; have BK564 := n8_; have HB := n9_; clear n0_ n1_ n2_ n3_ n4_ n5_ n6_ n7_ n8_ n9_; (try clear hb); (try clear hb2); (try clear hk); (try clear hi)))
        have n0_ := Aside0.mk (Kd.R_drew HO_6.out)
        have n1_ := Aside0.mk (Kd.R_drew HO_7.out)
        have n2_ := Aside0.mk (Kd.R_drew HO_9.out)
        have n3_ := Aside0.mk (Kd.R_drew HO_11.out)
        have n4_ := Aside0.mk (Kd.R_drew HO_12.out)
        have n5_ := Aside0.mk (Kd.R_drew HO_565002.out)
        have n6_ := Aside0.mk (Kd.R_drew HO576.out)
        have n7_ := Aside0.mk (blk_drew BK538.out)
        have n8_ := Aside0.mk (blk_drew BK564.out)
        have n9_ := Aside0.mk (below_drew1 HB.out)
        clear HO_6
        clear HO_7
        clear HO_9
        clear HO_11
        clear HO_12
        clear HO_565002
        clear HO576
        clear BK538
        clear BK564
        clear HB
        have HO_6 := n0_
        have HO_7 := n1_
        have HO_9 := n2_
        have HO_11 := n3_
        have HO_12 := n4_
        have HO_565002 := n5_
        have HO576 := n6_
        have BK538 := n7_
        have BK564 := n8_
        have HB := n9_
        clear n0_ n1_ n2_ n3_ n4_ n5_ n6_ n7_ n8_ n9_
        refine start_ (n := 5) (S := fun w' => w'.cell? ⟨gb564, 0, none⟩ = some (.int .i64 t559) ∧ w'.cell? ⟨gb564, 1, none⟩ = some (.int .i64 t560) ∧ w'.cell? ⟨gb564, 2, none⟩ = some (.slice Ao33 t561.length co33) ∧ w'.cell? ⟨gb538, 0, none⟩ = some (.int .i64 a1_0) ∧ w'.cell? ⟨gb538, 1, none⟩ = some (.int .i64 a1_1) ∧ w'.cell? ⟨gb538, 2, none⟩ = some (.slice A1_2 l1_2.length c1_2)) (ds := []) #[false, false, false, false, false] (by kernel_rfl) rfl rfl ⟨(blk_cell BK564.out 0).trans rfl, (blk_cell BK564.out 1).trans rfl, (blk_cell BK564.out 2).trans rfl, (blk_cell BK538.out 0).trans rfl, (blk_cell BK538.out 1).trans rfl, (blk_cell BK538.out 2).trans rfl⟩ (fun hHeld => ?_)
        generalize w148.drew = w149 at HO_6 HO_7 HO_9 HO_11 HO_12 HO_565002 HO576 BK538 BK564 HB hHeld ⊢
        refine take_ (i := 0) (N := some 70) (v := ?_) (a' := ?_) #[true, false, false, false, false] rfl rfl (by kernel_rfl) (fun _ _ _ h => h) (Or.inl ⟨by rfl, ?_⟩) hHeld ?_ ?_
        rotate_left
        ·rintro w' ⟨s0, s1, s2, s3, s4, s5⟩
         go_simp
         with_reducible rfl
        rotate_left
        ·simp only [Act.put, List.setIfInBounds_toArray, List.set_cons_zero, List.set_cons_succ, i64_w, i32_w]
         rfl
        refine take_ (i := 1) (N := some 71) (v := ?_) (a' := ?_) #[true, true, false, false, false] rfl rfl (by kernel_rfl) (fun _ _ _ h => h) (Or.inl ⟨by rfl, ?_⟩) hHeld ?_ ?_
        rotate_left
        ·rintro w' ⟨s0, s1, s2, s3, s4, s5⟩
         go_simp
         with_reducible rfl
        rotate_left
        ·simp only [Act.put, List.setIfInBounds_toArray, List.set_cons_zero, List.set_cons_succ, i64_w, i32_w]
         rfl
        refine one_ (i := 2) (N := some 72) #[true, true, true, false, false] rfl rfl (by kernel_rfl) (by decide) (fun K hK => ?_)
        refine goes_ Try.func34 (by kernel_rfl) rfl #[.agg #[.int .i64 a1_0, .int .i64 a1_1, .slice A1_2 l1_2.length c1_2]] (by rfl) rfl rfl (by (try simp only [List.map_toArray, List.map_cons, List.map_nil]); first | done | rfl | (simp only [List.length_drop, List.length_take]; rfl)) ?_
        with_reducible refine (laws_toSummary.calls kj16 a1_0 a1_1 _ _ l1_2 t578 t579 t580 _ ?side1 ?side2 A56.out).mono ?_
        (case side1 => repeat (first | exact (Kd.C_below HR1_2.out HB.out) | (with_reducible refine Kd.C_alloc ?_ _) | (with_reducible refine Kd.C_drewN ?_ _) | (with_reducible refine Kd.C_drew ?_)))
        (case side2 => exact HC1_2.out)
        rintro e w150 ⟨v581, rfl, ho0, hb⟩
        refine ⟨_, rfl, ?_⟩
        have n0_ := Aside0.mk (Kd.R_below (by (with_reducible repeat (first | apply Kd.R_alloc | apply Kd.R_drewN | apply Kd.R_drew)); exact HO_6.out) hb)
        have n1_ := Aside0.mk (Kd.R_elder' (by (with_reducible repeat (first | apply Kd.R_alloc | apply Kd.R_drewN | apply Kd.R_drew)); exact HO_7.out) (Kd.R_base ho0) hb)
        have n2_ := Aside0.mk (Kd.R_elder' (by (with_reducible repeat (first | apply Kd.R_alloc | apply Kd.R_drewN | apply Kd.R_drew)); exact HO_9.out) (Kd.R_base ho0) hb)
        have n3_ := Aside0.mk (Kd.R_below (by (with_reducible repeat (first | apply Kd.R_alloc | apply Kd.R_drewN | apply Kd.R_drew)); exact HO_11.out) hb)
        have n4_ := Aside0.mk (Kd.R_elder' (by (with_reducible repeat (first | apply Kd.R_alloc | apply Kd.R_drewN | apply Kd.R_drew)); exact HO_12.out) (Kd.R_base ho0) hb)
        have n5_ := Aside0.mk (Kd.R_elder' (by (with_reducible repeat (first | apply Kd.R_alloc | apply Kd.R_drewN | apply Kd.R_drew)); exact HO_565002.out) (Kd.R_base ho0) hb)
        have n6_ := Aside0.mk (Kd.R_elder' (by (with_reducible repeat (first | apply Kd.R_alloc | apply Kd.R_drewN | apply Kd.R_drew)); exact HO576.out) (Kd.R_base ho0) hb)
        have n7_ := Aside0.mk (Kd.R_lower (Kd.R_new' (Kd.R_new' (Kd.R_new' (Kd.R_new' (Kd.R_new' ho0 (Kd.R_lt (by (with_reducible repeat (first | apply Kd.R_alloc | apply Kd.R_drewN | apply Kd.R_drew)); exact HO_7.out))) (Kd.R_lt (by (with_reducible repeat (first | apply Kd.R_alloc | apply Kd.R_drewN | apply Kd.R_drew)); exact HO_9.out))) (Kd.R_lt (by (with_reducible repeat (first | apply Kd.R_alloc | apply Kd.R_drewN | apply Kd.R_drew)); exact HO_12.out))) (Kd.R_lt (by (with_reducible repeat (first | apply Kd.R_alloc | apply Kd.R_drewN | apply Kd.R_drew)); exact HO_565002.out))) (Kd.R_lt (by (with_reducible repeat (first | apply Kd.R_alloc | apply Kd.R_drewN | apply Kd.R_drew)); exact HO576.out))) (below_size (by repeat (first | (with_reducible first | exact HB.out | apply below_alloc | apply pw_below_drewN | apply below_drew1 | refine below_set ?_ GE538.out | refine below_set ?_ GE564.out) | exact HB.out))))
        have n8_ := Aside0.mk (blk_below (g := gb538) (o := .cells #[.int .i64 a1_0, .int .i64 a1_1, .slice A1_2 l1_2.length c1_2] 42 (0, 0)) (by (with_reducible repeat (first | refine blk_drewN ?_ _ | refine blk_drew ?_ | refine blk_alloc ?_ _)); exact BK538.out) hb)
        have n9_ := Aside0.mk (blk_below (g := gb564) (o := .cells #[.int .i64 t559, .int .i64 t560, .slice Ao33 t561.length co33] 50 (0, 0)) (by (with_reducible repeat (first | refine blk_drewN ?_ _ | refine blk_drew ?_ | refine blk_alloc ?_ _)); exact BK564.out) hb)
        have n10_ := Aside0.mk (below_step (by repeat (first | (with_reducible first | exact HB.out | apply below_alloc | apply pw_below_drewN | apply below_drew1 | refine below_set ?_ GE538.out | refine below_set ?_ GE564.out) | exact HB.out)) hb)
        clear HO_6
        clear HO_7
        clear HO_9
        clear HO_11
        clear HO_12
        clear HO_565002
        clear HO576
        clear BK538
        clear BK564
        clear HB
        have HO_6 := n0_
        have HO_7 := n1_
        have HO_9 := n2_
        have HO_11 := n3_
        have HO_12 := n4_
        have HO_565002 := n5_
        have HO576 := n6_
        have HO582 := n7_
        have BK538 := n8_
        have BK564 := n9_
        have HB := n10_
        clear n0_ n1_ n2_ n3_ n4_ n5_ n6_ n7_ n8_ n9_ n10_
        (try clear hb)
        (try clear hb2)
        (try clear hk)
        (try clear hi)
        (try clear ho0)
        obtain ⟨Ao151, co151, eo151⟩ := Kd.R_slice HO582.out
        (first | subst eo151 | (injection eo151 with f1_ f2_ f3_; have f4_ := f1_.symm; have f5_ := f3_.symm; clear f1_ f2_ f3_; subst f4_; subst f5_))
        refine hK.out _ _ ⟨(blk_cell BK564.out 0).trans rfl, (blk_cell BK564.out 1).trans rfl, (blk_cell BK564.out 2).trans rfl, (blk_cell BK538.out 0).trans rfl, (blk_cell BK538.out 1).trans rfl, (blk_cell BK538.out 2).trans rfl⟩ (fun hHeld => ?_)
        clear hK K
        refine norm_ (a' := ?_) ?_ ?_
        rotate_left
        ·show Act.put _ (some 72) _ = _
         simp only [Act.put, List.setIfInBounds_toArray, List.set_cons_zero, List.set_cons_succ, i64_w, i32_w]
         rfl
        refine one_ (i := 3) (N := some 73) #[true, true, true, true, false] rfl rfl (by kernel_rfl) (by decide) (fun K hK => ?_)
        refine goes_ Try.func37 (by kernel_rfl) rfl #[.agg #[.int .i64 t559, .int .i64 t560, .slice Ao33 t561.length co33], .agg #[.int .i64 t578, .int .i64 t579, .slice Ao151 t580.length co151]] (by rfl) rfl rfl (by (try simp only [List.map_toArray, List.map_cons, List.map_nil]); first | done | rfl | (simp only [List.length_drop, List.length_take]; rfl)) ?_
        with_reducible refine (laws_eqSummary.calls kj16 t559 t560 _ _ t561 t578 t579 _ _ t580 false _ ?side1 ?side2 ?side3 ?side4 A57.out).mono ?_
        (case side1 => repeat (first | exact (Kd.R_reads' HO_565002.out).2.2 | (with_reducible refine Kd.C_alloc ?_ _) | (with_reducible refine Kd.C_drewN ?_ _) | (with_reducible refine Kd.C_drew ?_)))
        (case side2 => exact (Kd.R_reads' HO_565002.out).2.1)
        (case side3 => repeat (first | exact (Kd.R_reads' HO582.out).2.2 | (with_reducible refine Kd.C_alloc ?_ _) | (with_reducible refine Kd.C_drewN ?_ _) | (with_reducible refine Kd.C_drew ?_)))
        (case side4 => exact (Kd.R_reads' HO582.out).2.1)
        rintro e w152 ⟨rfl, hb⟩
        refine ⟨_, rfl, ?_⟩
        have n0_ := Aside0.mk (Kd.R_below (by (with_reducible repeat (first | apply Kd.R_alloc | apply Kd.R_drewN | apply Kd.R_drew)); exact HO_6.out) hb)
        have n1_ := Aside0.mk (Kd.R_below (by (with_reducible repeat (first | apply Kd.R_alloc | apply Kd.R_drewN | apply Kd.R_drew)); exact HO_7.out) hb)
        have n2_ := Aside0.mk (Kd.R_below (by (with_reducible repeat (first | apply Kd.R_alloc | apply Kd.R_drewN | apply Kd.R_drew)); exact HO_9.out) hb)
        have n3_ := Aside0.mk (Kd.R_below (by (with_reducible repeat (first | apply Kd.R_alloc | apply Kd.R_drewN | apply Kd.R_drew)); exact HO_11.out) hb)
        have n4_ := Aside0.mk (Kd.R_below (by (with_reducible repeat (first | apply Kd.R_alloc | apply Kd.R_drewN | apply Kd.R_drew)); exact HO_12.out) hb)
        have n5_ := Aside0.mk (Kd.R_below (by (with_reducible repeat (first | apply Kd.R_alloc | apply Kd.R_drewN | apply Kd.R_drew)); exact HO_565002.out) hb)
        have n6_ := Aside0.mk (Kd.R_below (by (with_reducible repeat (first | apply Kd.R_alloc | apply Kd.R_drewN | apply Kd.R_drew)); exact HO576.out) hb)
        have n7_ := Aside0.mk (Kd.R_below (by (with_reducible repeat (first | apply Kd.R_alloc | apply Kd.R_drewN | apply Kd.R_drew)); exact HO582.out) hb)
        have n8_ := Aside0.mk (blk_below (g := gb538) (o := .cells #[.int .i64 a1_0, .int .i64 a1_1, .slice A1_2 l1_2.length c1_2] 42 (0, 0)) (by (with_reducible repeat (first | refine blk_drewN ?_ _ | refine blk_drew ?_ | refine blk_alloc ?_ _)); exact BK538.out) hb)
        have n9_ := Aside0.mk (blk_below (g := gb564) (o := .cells #[.int .i64 t559, .int .i64 t560, .slice Ao33 t561.length co33] 50 (0, 0)) (by (with_reducible repeat (first | refine blk_drewN ?_ _ | refine blk_drew ?_ | refine blk_alloc ?_ _)); exact BK564.out) hb)
        have n10_ := Aside0.mk (below_step (by repeat (first | (with_reducible first | exact HB.out | apply below_alloc | apply pw_below_drewN | apply below_drew1 | refine below_set ?_ GE538.out | refine below_set ?_ GE564.out) | exact HB.out)) hb)
        clear HO_6
        clear HO_7
        clear HO_9
        clear HO_11
        clear HO_12
        clear HO_565002
        clear HO576
        clear HO582
        clear BK538
        clear BK564
        clear HB
        have HO_6 := n0_
        have HO_7 := n1_
        have HO_9 := n2_
        have HO_11 := n3_
        have HO_12 := n4_
        have HO_565002 := n5_
        have HO576 := n6_
        have HO582 := n7_
        have BK538 := n8_
        have BK564 := n9_
        have HB := n10_
        clear n0_ n1_ n2_ n3_ n4_ n5_ n6_ n7_ n8_ n9_ n10_
        (try clear hb)
        (try clear hb2)
        (try clear hk)
        (try clear hi)
        refine hK.out _ _ ⟨(blk_cell BK564.out 0).trans rfl, (blk_cell BK564.out 1).trans rfl, (blk_cell BK564.out 2).trans rfl, (blk_cell BK538.out 0).trans rfl, (blk_cell BK538.out 1).trans rfl, (blk_cell BK538.out 2).trans rfl⟩ (fun hHeld => ?_)
        clear hK K
        refine norm_ (a' := ?_) ?_ ?_
        rotate_left
        ·show Act.put _ (some 73) _ = _
         simp only [Act.put, List.setIfInBounds_toArray, List.set_cons_zero, List.set_cons_succ, i64_w, i32_w]
         rfl
        refine pure_ (i := 4) (N := some 74) (v := ?_) (a' := ?_) #[true, true, true, true, true] rfl rfl (by kernel_rfl) (fun _ _ _ h => h) (Or.inl ⟨by rfl, ?_⟩) ?_ ?_
        rotate_left
        ·intro w'
         go_simp
         with_reducible rfl
        rotate_left
        ·simp only [Act.put, List.setIfInBounds_toArray, List.set_cons_zero, List.set_cons_succ, i64_w, i32_w]
         rfl
        refine done_ (by kernel_rfl) ?_
        try go_wp2
        go_ret
        exact ⟨by first | rfl | (simp [errW_none, errW_some] <;> rfl) | (simp [*, errW_none, errW_some] <;> rfl), by repeat (first | (with_reducible first | exact HB.out | apply below_alloc | apply pw_below_drewN | apply below_drew1 | refine below_set ?_ GE538.out | refine below_set ?_ GE564.out) | exact HB.out)⟩
      ·replace c55 := Bool.eq_false_iff.mpr c55
       subst c55
       have H1 : (some false) = some r := by rw [if_neg (show ¬ (false = true) by decide)] at H; exact H
       clear H
       have H := H1
       clear H1
       obtain rfl := Option.some.inj H
       go_wp2_with (first | ((with_reducible refine gate_callee (f := 33) rfl ?_); refine goesL_ (some 67) rfl rfl Try.func33 (by kernel_rfl) rfl #[.slice A0 l0.length c0] rfl (by (try simp only [List.map_toArray, List.map_cons, List.map_nil]); first | done | rfl | (simp only [List.length_drop, List.length_take]; rfl)) ?_; (with_reducible refine (laws_toHaveS.calls kj16 _ _ l0 t574 _ ?side1 ?side2 A53.out).mono ?_); (case side1 => repeat (first | exact (Kd.C_below HR0.out HB.out) | (with_reducible refine Kd.C_alloc ?_ _) | (with_reducible refine Kd.C_drewN ?_ _) | (with_reducible refine Kd.C_drew ?_))); (case side2 => exact HC0.out); rintro e w153 ⟨v575, rfl, ho0, hb⟩; refine ⟨_, rfl, ?_⟩; have n0_ := Aside0.mk (Kd.R_below (by (with_reducible repeat (first | apply Kd.R_alloc | apply Kd.R_drewN | apply Kd.R_drew)); exact HO_6.out) hb); have n1_ := Aside0.mk (Kd.R_elder' (by (with_reducible repeat (first | apply Kd.R_alloc | apply Kd.R_drewN | apply Kd.R_drew)); exact HO_7.out) (Kd.R_base ho0) hb); have n2_ := Aside0.mk (Kd.R_elder' (by (with_reducible repeat (first | apply Kd.R_alloc | apply Kd.R_drewN | apply Kd.R_drew)); exact HO_9.out) (Kd.R_base ho0) hb); have n3_ := Aside0.mk (Kd.R_below (by (with_reducible repeat (first | apply Kd.R_alloc | apply Kd.R_drewN | apply Kd.R_drew)); exact HO_11.out) hb); have n4_ := Aside0.mk (Kd.R_elder' (by (with_reducible repeat (first | apply Kd.R_alloc | apply Kd.R_drewN | apply Kd.R_drew)); exact HO_12.out) (Kd.R_base ho0) hb); have n5_ := Aside0.mk (Kd.R_elder' (by (with_reducible repeat (first | apply Kd.R_alloc | apply Kd.R_drewN | apply Kd.R_drew)); exact HO_565002.out) (Kd.R_base ho0) hb); have n6_ := Aside0.mk (Kd.R_lower (Kd.R_new' (Kd.R_new' (Kd.R_new' (Kd.R_new' ho0 (Kd.R_lt (by (with_reducible repeat (first | apply Kd.R_alloc | apply Kd.R_drewN | apply Kd.R_drew)); exact HO_7.out))) (Kd.R_lt (by (with_reducible repeat (first | apply Kd.R_alloc | apply Kd.R_drewN | apply Kd.R_drew)); exact HO_9.out))) (Kd.R_lt (by (with_reducible repeat (first | apply Kd.R_alloc | apply Kd.R_drewN | apply Kd.R_drew)); exact HO_12.out))) (Kd.R_lt (by (with_reducible repeat (first | apply Kd.R_alloc | apply Kd.R_drewN | apply Kd.R_drew)); exact HO_565002.out))) (below_size (by repeat (first | (with_reducible first | exact HB.out | apply below_alloc | apply pw_below_drewN | apply below_drew1 | refine below_set ?_ GE538.out | refine below_set ?_ GE564.out) | exact HB.out)))); have n7_ := Aside0.mk (blk_below (g := gb538) (o := .cells #[.int .i64 a1_0, .int .i64 a1_1, .slice A1_2 l1_2.length c1_2] 42 (0, 0)) (by (with_reducible repeat (first | refine blk_drewN ?_ _ | refine blk_drew ?_ | refine blk_alloc ?_ _)); exact BK538.out) hb); have n8_ := Aside0.mk (blk_below (g := gb564) (o := .cells #[.int .i64 t559, .int .i64 t560, .slice Ao33 t561.length co33] 50 (0, 0)) (by (with_reducible repeat (first | refine blk_drewN ?_ _ | refine blk_drew ?_ | refine blk_alloc ?_ _)); exact BK564.out) hb); have n9_ := Aside0.mk (below_step (by repeat (first | (with_reducible first | exact HB.out | apply below_alloc | apply pw_below_drewN | apply below_drew1 | refine below_set ?_ GE538.out | refine below_set ?_ GE564.out) | exact HB.out)) hb); clear HO_6; clear HO_7; clear HO_9; clear HO_11; clear HO_12; clear HO_565002; clear BK538; clear BK564; clear HB; have HO_6 := n0_; have HO_7 := n1_; have HO_9 := n2_; have HO_11 := n3_; have HO_12 := n4_; have HO_565002 := n5_; have HO576 := n6_; have BK538 := n7_; have BK564 := n8_; have HB := n9_; clear n0_ n1_ n2_ n3_ n4_ n5_ n6_ n7_ n8_ n9_; (try clear hb); (try clear hb2); (try clear hk); (try clear hi); (try clear ho0); obtain ⟨Ao154, co154, eo154⟩ := Kd.R_slice HO576.out; subst eo154) | ((with_reducible refine gate_callee (f := 36) rfl ?_); refine goesL_ (some 68) rfl rfl Try.func36 (by kernel_rfl) rfl #[.slice Ao34 t556.length co34, .slice Ao154 t574.length co154] rfl (by (try simp only [List.map_toArray, List.map_cons, List.map_nil]); first | done | rfl | (simp only [List.length_drop, List.length_take]; rfl)) ?_; (with_reducible refine (laws_eqHaveS.calls kj16 _ _ t556 _ _ t574 false _ ?side1 ?side2 ?side3 ?side4 A54.out).mono ?_); (case side1 => repeat (first | exact (Kd.R_reads' HO_9.out).2.2 | (with_reducible refine Kd.C_alloc ?_ _) | (with_reducible refine Kd.C_drewN ?_ _) | (with_reducible refine Kd.C_drew ?_))); (case side2 => exact (Kd.R_reads' HO_9.out).2.1); (case side3 => repeat (first | exact (Kd.R_reads' HO576.out).2.2 | (with_reducible refine Kd.C_alloc ?_ _) | (with_reducible refine Kd.C_drewN ?_ _) | (with_reducible refine Kd.C_drew ?_))); (case side4 => exact (Kd.R_reads' HO576.out).2.1); rintro e w155 ⟨rfl, hb⟩; refine ⟨_, rfl, ?_⟩; have n0_ := Aside0.mk (Kd.R_below (by (with_reducible repeat (first | apply Kd.R_alloc | apply Kd.R_drewN | apply Kd.R_drew)); exact HO_6.out) hb); have n1_ := Aside0.mk (Kd.R_below (by (with_reducible repeat (first | apply Kd.R_alloc | apply Kd.R_drewN | apply Kd.R_drew)); exact HO_7.out) hb); have n2_ := Aside0.mk (Kd.R_below (by (with_reducible repeat (first | apply Kd.R_alloc | apply Kd.R_drewN | apply Kd.R_drew)); exact HO_9.out) hb); have n3_ := Aside0.mk (Kd.R_below (by (with_reducible repeat (first | apply Kd.R_alloc | apply Kd.R_drewN | apply Kd.R_drew)); exact HO_11.out) hb); have n4_ := Aside0.mk (Kd.R_below (by (with_reducible repeat (first | apply Kd.R_alloc | apply Kd.R_drewN | apply Kd.R_drew)); exact HO_12.out) hb); have n5_ := Aside0.mk (Kd.R_below (by (with_reducible repeat (first | apply Kd.R_alloc | apply Kd.R_drewN | apply Kd.R_drew)); exact HO_565002.out) hb); have n6_ := Aside0.mk (Kd.R_below (by (with_reducible repeat (first | apply Kd.R_alloc | apply Kd.R_drewN | apply Kd.R_drew)); exact HO576.out) hb); have n7_ := Aside0.mk (blk_below (g := gb538) (o := .cells #[.int .i64 a1_0, .int .i64 a1_1, .slice A1_2 l1_2.length c1_2] 42 (0, 0)) (by (with_reducible repeat (first | refine blk_drewN ?_ _ | refine blk_drew ?_ | refine blk_alloc ?_ _)); exact BK538.out) hb); have n8_ := Aside0.mk (blk_below (g := gb564) (o := .cells #[.int .i64 t559, .int .i64 t560, .slice Ao33 t561.length co33] 50 (0, 0)) (by (with_reducible repeat (first | refine blk_drewN ?_ _ | refine blk_drew ?_ | refine blk_alloc ?_ _)); exact BK564.out) hb); have n9_ := Aside0.mk (below_step (by repeat (first | (with_reducible first | exact HB.out | apply below_alloc | apply pw_below_drewN | apply below_drew1 | refine below_set ?_ GE538.out | refine below_set ?_ GE564.out) | exact HB.out)) hb); clear HO_6; clear HO_7; clear HO_9; clear HO_11; clear HO_12; clear HO_565002; clear HO576; clear BK538; clear BK564; clear HB; have HO_6 := n0_; have HO_7 := n1_; have HO_9 := n2_; have HO_11 := n3_; have HO_12 := n4_; have HO_565002 := n5_; have HO576 := n6_; have BK538 := n7_; have BK564 := n8_; have HB := n9_; clear n0_ n1_ n2_ n3_ n4_ n5_ n6_ n7_ n8_ n9_; (try clear hb); (try clear hb2); (try clear hk); (try clear hi)))
       go_ret
       exact ⟨by first | rfl | (simp [errW_none, errW_some] <;> rfl) | (simp [*, errW_none, errW_some] <;> rfl), by repeat (first | (with_reducible first | exact HB.out | apply below_alloc | apply pw_below_drewN | apply below_drew1 | refine below_set ?_ GE538.out | refine below_set ?_ GE564.out) | exact HB.out)⟩

end Go.Proofs.Ytnoklicihomfoaa.P
