import Derived.Test.YtolncjkfcmbieaaF0
import Derived.Test.YtolncjkfcmbieaaF37
import Derived.Test.YtolncjkfcmbieaaF38
import Derived.Test.YtolncjkfcmbieaaF40
import Derived.Test.YtolncjkfcmbieaaF41
import Derived.Test.YtolncjkfcmbieaaF43
namespace Go.Proofs.Ytolncjkfcmbieaa.P
open Go.RowKit Go.Proofs.YtolncjkfcmbieaaW.PrintWords Go.Proofs.YtolncjkfcmbieaaW.PrintLast Go.Proofs.YtolncjkfcmbieaaW.PrintMore
attribute [local go_sem] max2_int min2_int max_two min_two max_three min_three max_four min_four   -- for this text's walks alone
set_option linter.unusedVariables false
set_option linter.unusedSimpArgs false

mutual
def laws_FnExactStepPair.j0 : Nat → Bool → Bool → Bool → List Int → List Int → List (S188) → Int → Int → List Int → List Int → List (S127) → List Int → List Int → List (S127) → List Int → List Int → List (S127) → Option (Bool)
 | 0, _, _, _, _, _, _, _, _, _, _, _, _, _, _, _, _, _ => none
 | k + 1, x7, x10, x46, x621000, x621001, x621002, x622000, x622001, x645000, x645001, x645002, x655000, x655001, x655002, x668000, x668001, x668002 => if x46 = true then (some false) else ((laws_toPair.f k x621000 x621001 x621002).bind fun bt669 => ((laws_eqPair.f k x655000 x655001 x655002 bt669.1 bt669.2.1 bt669.2.2).bind fun t678 => (if t678 = true then ((laws_markPair.f k x655000 x655001 x655002 1).bind fun bt679 => (if bt679.1 < 0 then (laws_FnExactStepPair.j1 k x7 true x621000 x621001 x621002 x622000 x622001 x645000 x645001 x645002 x668000 x668001 x668002) else ((laws_eqPair.f k x668000 x668001 x668002 x645000 x645001 x645002).bind fun t683 => (if t683 = true then (laws_FnExactStepPair.j1 k x7 (x10 != x7) x621000 x621001 x621002 x622000 x622001 x645000 x645001 x645002 x668000 x668001 x668002) else (laws_FnExactStepPair.j1 k x7 true x621000 x621001 x621002 x622000 x622001 x645000 x645001 x645002 x668000 x668001 x668002))))) else (some false))))
def laws_FnExactStepPair.j1 : Nat → Bool → Bool → List Int → List Int → List (S188) → Int → Int → List Int → List Int → List (S127) → List Int → List Int → List (S127) → Option (Bool)
 | 0, _, _, _, _, _, _, _, _, _, _, _, _, _ => none
 | k + 1, x7, x67, x621000, x621001, x621002, x622000, x622001, x645000, x645001, x645002, x668000, x668001, x668002 => if x67 = true then (some false) else ((laws_markPair.f k x668000 x668001 x668002 1).bind fun bt684 => ((laws_heldPair.f k bt684.2.1 bt684.2.2.1 bt684.2.2.2 1).bind fun t688 => (if t688 < 0 then (some false) else (if t688 = bt684.1 then ((laws_toPair.f k x621000 x621001 x621002).bind fun bt689 => ((laws_toPairStep.f x622000 x622001).bind fun bt698 => ((impl_StepPair.f k bt689.1 bt689.2.1 bt689.2.2 bt698.1 bt698.2).bind fun bt700 => ((laws_eqPair.f k bt700.1 bt700.2.1 bt700.2.2.1 x645000 x645001 x645002).bind fun t711 => (if t711 = true then (laws_FnExactStepPair.j2 k bt684.1 (bt700.2.2.2 != x7) bt684.2.1 bt684.2.2.1 bt684.2.2.2) else (laws_FnExactStepPair.j2 k bt684.1 true bt684.2.1 bt684.2.2.1 bt684.2.2.2)))))) else (some false)))))
def laws_FnExactStepPair.j2 : Nat → Int → Bool → List Int → List Int → List (S127) → Option (Bool)
 | 0, _, _, _, _, _ => none
 | k + 1, x12, x95, x668000, x668001, x668002 => if x95 = true then (some false) else ((laws_heldPair.f k x668000 x668001 x668002 1).bind fun t712 => (if t712 < 0 then (some false) else (if t712 = x12 then (some true) else (some false))))
end
def laws_FnExactStepPair.f (k : Nat) (l0_0 : List Int) (l0_1 : List Int) (l0_2 : List (S188)) (a1_0 : Int) (a1_1 : Int) : Option (Bool) := (laws_szPair.f l0_0 l0_1 l0_2 1048576).bind fun t622 => (if t622 < 0 then (some true) else ((laws_toPair.f k l0_0 l0_1 l0_2).bind fun bt623 => ((laws_toPairStep.f a1_0 a1_1).bind fun bt632 => ((spec_StepPair.f k bt623.1 bt623.2.1 bt623.2.2 bt632.1 bt632.2).bind fun bt634 => ((laws_toPair.f k l0_0 l0_1 l0_2).bind fun bt645 => ((laws_toPairStep.f a1_0 a1_1).bind fun bt655 => ((impl_StepPair.f k bt645.1 bt645.2.1 bt645.2.2 bt655.1 bt655.2).bind fun bt657 => ((laws_eqPair.f k bt657.1 bt657.2.1 bt657.2.2.1 bt634.1 bt634.2.1 bt634.2.2.1).bind fun t668 => (if t668 = true then (laws_FnExactStepPair.j0 k bt634.2.2.2 bt657.2.2.2 (bt657.2.2.2 != bt634.2.2.2) l0_0 l0_1 l0_2 a1_0 a1_1 bt634.1 bt634.2.1 bt634.2.2.1 bt645.1 bt645.2.1 bt645.2.2 bt657.1 bt657.2.1 bt657.2.2.1) else (laws_FnExactStepPair.j0 k bt634.2.2.2 bt657.2.2.2 true l0_0 l0_1 l0_2 a1_0 a1_1 bt634.1 bt634.2.1 bt634.2.2.1 bt645.1 bt645.2.1 bt645.2.2 bt657.1 bt657.2.1 bt657.2.2.1))))))))))
theorem laws_FnExactStepPair.mono_l : ∀ k, (∀ y0 y1 y2 y3 y4 y5 y6 y7 y8 y9 y10 y11 y12 y13 y14 y15 y16, LeO (laws_FnExactStepPair.j0 k y0 y1 y2 y3 y4 y5 y6 y7 y8 y9 y10 y11 y12 y13 y14 y15 y16) (laws_FnExactStepPair.j0 (k + 1) y0 y1 y2 y3 y4 y5 y6 y7 y8 y9 y10 y11 y12 y13 y14 y15 y16)) ∧ (∀ y0 y1 y2 y3 y4 y5 y6 y7 y8 y9 y10 y11 y12, LeO (laws_FnExactStepPair.j1 k y0 y1 y2 y3 y4 y5 y6 y7 y8 y9 y10 y11 y12) (laws_FnExactStepPair.j1 (k + 1) y0 y1 y2 y3 y4 y5 y6 y7 y8 y9 y10 y11 y12)) ∧ (∀ y0 y1 y2 y3 y4, LeO (laws_FnExactStepPair.j2 k y0 y1 y2 y3 y4) (laws_FnExactStepPair.j2 (k + 1) y0 y1 y2 y3 y4))
 | 0 => ⟨fun _ _ _ _ _ _ _ _ _ _ _ _ _ _ _ _ _ r h => by simp [laws_FnExactStepPair.j0] at h, fun _ _ _ _ _ _ _ _ _ _ _ _ _ r h => by simp [laws_FnExactStepPair.j1] at h, fun _ _ _ _ _ r h => by simp [laws_FnExactStepPair.j2] at h⟩
 | k + 1 => by
  obtain ⟨ih0, ih1, ih2⟩ := laws_FnExactStepPair.mono_l k
  refine ⟨?_, ?_, ?_⟩
  ·intro y0 y1 y2 y3 y4 y5 y6 y7 y8 y9 y10 y11 y12 y13 y14 y15 y16
   unfold laws_FnExactStepPair.j0
   repeat' first
   | (with_reducible exact ih0 _ _ _ _ _ _ _ _ _ _ _ _ _ _ _ _ _)
   | (with_reducible exact ih1 _ _ _ _ _ _ _ _ _ _ _ _ _)
   | (with_reducible exact ih2 _ _ _ _ _)
   | (with_reducible exact impl_StepPair.mono _ _ _ _ _ _)
   | (with_reducible exact laws_eqPair.mono _ _ _ _ _ _ _)
   | (with_reducible exact laws_heldPair.mono _ _ _ _ _)
   | (with_reducible exact laws_markPair.mono _ _ _ _ _)
   | (with_reducible exact laws_toPair.mono _ _ _ _)
   | (with_reducible exact spec_StepPair.mono _ _ _ _ _ _)
   | (with_reducible exact LeO.refl _)
   | (with_reducible exact LeO.none _)
   | (with_reducible refine LeO.ite ?_ ?_)
   | (with_reducible refine LeO.bind ?_ (fun _ => ?_))
  ·intro y0 y1 y2 y3 y4 y5 y6 y7 y8 y9 y10 y11 y12
   unfold laws_FnExactStepPair.j1
   repeat' first
   | (with_reducible exact ih0 _ _ _ _ _ _ _ _ _ _ _ _ _ _ _ _ _)
   | (with_reducible exact ih1 _ _ _ _ _ _ _ _ _ _ _ _ _)
   | (with_reducible exact ih2 _ _ _ _ _)
   | (with_reducible exact impl_StepPair.mono _ _ _ _ _ _)
   | (with_reducible exact laws_eqPair.mono _ _ _ _ _ _ _)
   | (with_reducible exact laws_heldPair.mono _ _ _ _ _)
   | (with_reducible exact laws_markPair.mono _ _ _ _ _)
   | (with_reducible exact laws_toPair.mono _ _ _ _)
   | (with_reducible exact spec_StepPair.mono _ _ _ _ _ _)
   | (with_reducible exact LeO.refl _)
   | (with_reducible exact LeO.none _)
   | (with_reducible refine LeO.ite ?_ ?_)
   | (with_reducible refine LeO.bind ?_ (fun _ => ?_))
  ·intro y0 y1 y2 y3 y4
   unfold laws_FnExactStepPair.j2
   repeat' first
   | (with_reducible exact ih0 _ _ _ _ _ _ _ _ _ _ _ _ _ _ _ _ _)
   | (with_reducible exact ih1 _ _ _ _ _ _ _ _ _ _ _ _ _)
   | (with_reducible exact ih2 _ _ _ _ _)
   | (with_reducible exact impl_StepPair.mono _ _ _ _ _ _)
   | (with_reducible exact laws_eqPair.mono _ _ _ _ _ _ _)
   | (with_reducible exact laws_heldPair.mono _ _ _ _ _)
   | (with_reducible exact laws_markPair.mono _ _ _ _ _)
   | (with_reducible exact laws_toPair.mono _ _ _ _)
   | (with_reducible exact spec_StepPair.mono _ _ _ _ _ _)
   | (with_reducible exact LeO.refl _)
   | (with_reducible exact LeO.none _)
   | (with_reducible refine LeO.ite ?_ ?_)
   | (with_reducible refine LeO.bind ?_ (fun _ => ?_))
theorem laws_FnExactStepPair.mono : ∀ a0 a1 a2 a3 a4 k, LeO (laws_FnExactStepPair.f k a0 a1 a2 a3 a4) (laws_FnExactStepPair.f (k + 1) a0 a1 a2 a3 a4) := by
 intro a0 a1 a2 a3 a4 k
 obtain ⟨ih0, ih1, ih2⟩ := laws_FnExactStepPair.mono_l k
 unfold laws_FnExactStepPair.f
 repeat' first
   | (with_reducible exact ih0 _ _ _ _ _ _ _ _ _ _ _ _ _ _ _ _ _)
   | (with_reducible exact ih1 _ _ _ _ _ _ _ _ _ _ _ _ _)
   | (with_reducible exact ih2 _ _ _ _ _)
   | (with_reducible exact impl_StepPair.mono _ _ _ _ _ _)
   | (with_reducible exact laws_eqPair.mono _ _ _ _ _ _ _)
   | (with_reducible exact laws_heldPair.mono _ _ _ _ _)
   | (with_reducible exact laws_markPair.mono _ _ _ _ _)
   | (with_reducible exact laws_toPair.mono _ _ _ _)
   | (with_reducible exact spec_StepPair.mono _ _ _ _ _ _)
   | (with_reducible exact LeO.refl _)
   | (with_reducible exact LeO.none _)
   | (with_reducible refine LeO.ite ?_ ?_)
   | (with_reducible refine LeO.bind ?_ (fun _ => ?_))
def laws_FnExactStepPair.T5 : Bool × List (List Nat × List Nat) := (true, [([], []), ([0], [0]), ([], []), ([2, 1], [2]), ([1, 3, 3], [1, 3]), ([4], [4]), ([5], [5]), ([5], [5]), ([], []), ([8, 6, 4, 0, 1, 2, 3, 4, 5, 6, 8], [6, 8]), ([7, 9, 0, 1, 2, 3, 4, 5, 6, 7, 8, 9], [7])])
def laws_FnExactStepPair.B5 : List Nat := [0, 1, 0, 7, 15, 31, 63, 63, 0, 383, 1023]
theorem laws_FnExactStepPair.tab5 : rtab .any (opsOf Try.f5 5) = laws_FnExactStepPair.T5 := by kernel_rfl
theorem laws_FnExactStepPair.bits5 : waitsOk laws_FnExactStepPair.T5.2 laws_FnExactStepPair.B5 = true := by kernel_rfl
def laws_FnExactStepPair.T7 : Bool × List (List Nat × List Nat) := (true, [([], []), ([], []), ([1], [1]), ([0, 2, 2], [0, 2]), ([3], [3]), ([4], [4]), ([4], [4]), ([], []), ([7, 5, 3, 0, 1, 2, 3, 4, 5, 7], [5, 7]), ([6, 8, 0, 1, 2, 3, 4, 5, 6, 7, 8], [6])])
def laws_FnExactStepPair.B7 : List Nat := [0, 0, 2, 7, 15, 31, 31, 0, 191, 511]
theorem laws_FnExactStepPair.tab7 : rtab .any (opsOf Try.f5 7) = laws_FnExactStepPair.T7 := by kernel_rfl
theorem laws_FnExactStepPair.bits7 : waitsOk laws_FnExactStepPair.T7.2 laws_FnExactStepPair.B7 = true := by kernel_rfl
def laws_FnExactStepPair.T24 : Bool × List (List Nat × List Nat) := (true, [([], []), ([0], [0]), ([], []), ([2, 1], [2]), ([1, 3, 3], [1, 3]), ([4], [4]), ([5], [5]), ([5], [5]), ([], []), ([8, 6, 4, 0, 1, 2, 3, 4, 5, 6, 8], [6, 8]), ([7, 9, 0, 1, 2, 3, 4, 5, 6, 7, 8, 9], [7])])
def laws_FnExactStepPair.B24 : List Nat := [0, 1, 0, 7, 15, 31, 63, 63, 0, 383, 1023]
theorem laws_FnExactStepPair.tab24 : rtab .any (opsOf Try.f5 24) = laws_FnExactStepPair.T24 := by kernel_rfl
theorem laws_FnExactStepPair.bits24 : waitsOk laws_FnExactStepPair.T24.2 laws_FnExactStepPair.B24 = true := by kernel_rfl
set_option maxHeartbeats 8000000 in
set_option maxRecDepth 100000 in
theorem laws_FnExactStepPair.calls (k : Nat) (A0_0 : Option Addr) (c0_0 : Nat) (l0_0 : List Int) (A0_1 : Option Addr) (c0_1 : Nat) (l0_1 : List Int) (A0_2 : Option Addr) (c0_2 : Nat) (l0_2 : List (S188)) (a1_0 : Int) (a1_1 : Int) (r : Bool) (w : World) (hr0_0 : Kd.C (Kd.int .i64) w A0_0 l0_0.length l0_0) (hc0_0 : l0_0.length ≤ c0_0) (hr0_1 : Kd.C (Kd.int .i64) w A0_1 l0_1.length l0_1) (hc0_1 : l0_1.length ≤ c0_1) (hr0_2 : Kd.C k188 w A0_2 l0_2.length l0_2) (hc0_2 : l0_2.length ≤ c0_2) (h : laws_FnExactStepPair.f k l0_0 l0_1 l0_2 a1_0 a1_1 = some r) :
  Calls Try.prog 5 #[.agg #[.slice A0_0 l0_0.length c0_0, .slice A0_1 l0_1.length c0_1, .slice A0_2 l0_2.length c0_2], .agg #[.int .i64 a1_0, .int .i64 a1_1]] w fun e w' => e = .returned (.bool r) ∧ Below w.heap.size w w' := by
 have hu41 := Try.underlying41
 have hu43 := Try.underlying43
 have hu47 := Try.underlying47
 have HR0_0 := Aside0.mk hr0_0
 have HC0_0 := Aside0.mk hc0_0
 clear hr0_0 hc0_0
 have HR0_1 := Aside0.mk hr0_1
 have HC0_1 := Aside0.mk hc0_1
 clear hr0_1 hc0_1
 have HR0_2 := Aside0.mk hr0_2
 have HC0_2 := Aside0.mk hc0_2
 clear hr0_2 hc0_2
 have HB := Aside0.mk (Below.refl w.heap.size w)
 have H : ((laws_szPair.f l0_0 l0_1 l0_2 1048576).bind fun t622 => (if t622 < 0 then (some true) else ((laws_toPair.f k l0_0 l0_1 l0_2).bind fun bt623 => ((laws_toPairStep.f a1_0 a1_1).bind fun bt632 => ((spec_StepPair.f k bt623.1 bt623.2.1 bt623.2.2 bt632.1 bt632.2).bind fun bt634 => ((laws_toPair.f k l0_0 l0_1 l0_2).bind fun bt645 => ((laws_toPairStep.f a1_0 a1_1).bind fun bt655 => ((impl_StepPair.f k bt645.1 bt645.2.1 bt645.2.2 bt655.1 bt655.2).bind fun bt657 => ((laws_eqPair.f k bt657.1 bt657.2.1 bt657.2.2.1 bt634.1 bt634.2.1 bt634.2.2.1).bind fun t668 => (if t668 = true then (laws_FnExactStepPair.j0 k bt634.2.2.2 bt657.2.2.2 (bt657.2.2.2 != bt634.2.2.2) l0_0 l0_1 l0_2 a1_0 a1_1 bt634.1 bt634.2.1 bt634.2.2.1 bt645.1 bt645.2.1 bt645.2.2 bt657.1 bt657.2.1 bt657.2.2.1) else (laws_FnExactStepPair.j0 k bt634.2.2.2 bt657.2.2.2 true l0_0 l0_1 l0_2 a1_0 a1_1 bt634.1 bt634.2.1 bt634.2.2.1 bt645.1 bt645.2.1 bt645.2.2 bt657.1 bt657.2.1 bt657.2.2.1))))))))))) = some r := h
 clear h
 replace H := Option.bind_eq_some_iff.mp H
 obtain ⟨t622, A30, H⟩ := H
 replace H : (if t622 < 0 then (some true) else ((laws_toPair.f k l0_0 l0_1 l0_2).bind fun bt623 => ((laws_toPairStep.f a1_0 a1_1).bind fun bt632 => ((spec_StepPair.f k bt623.1 bt623.2.1 bt623.2.2 bt632.1 bt632.2).bind fun bt634 => ((laws_toPair.f k l0_0 l0_1 l0_2).bind fun bt645 => ((laws_toPairStep.f a1_0 a1_1).bind fun bt655 => ((impl_StepPair.f k bt645.1 bt645.2.1 bt645.2.2 bt655.1 bt655.2).bind fun bt657 => ((laws_eqPair.f k bt657.1 bt657.2.1 bt657.2.2.1 bt634.1 bt634.2.1 bt634.2.2.1).bind fun t668 => (if t668 = true then (laws_FnExactStepPair.j0 k bt634.2.2.2 bt657.2.2.2 (bt657.2.2.2 != bt634.2.2.2) l0_0 l0_1 l0_2 a1_0 a1_1 bt634.1 bt634.2.1 bt634.2.2.1 bt645.1 bt645.2.1 bt645.2.2 bt657.1 bt657.2.1 bt657.2.2.1) else (laws_FnExactStepPair.j0 k bt634.2.2.2 bt657.2.2.2 true l0_0 l0_1 l0_2 a1_0 a1_1 bt634.1 bt634.2.1 bt634.2.2.1 bt645.1 bt645.2.1 bt645.2.2 bt657.1 bt657.2.1 bt657.2.2.1)))))))))) = some r := H
 have A3 := Aside0.mk A30
 clear A30
 by_cases c4 : t622 < 0
 ·rw [if_pos c4] at H
  have c4b0 : decide (t622 < 0) = true := decide_eq_true c4
  clear c4
  obtain rfl := Option.some.inj H
  go_enter Try.func5, Try.ntmps5
  go_wp2_with (first | ((with_reducible refine gate_dst (N := 2) rfl ?_); refine box_event ?hg (N := 2) ?hd (cs := #[.slice A0_0 l0_0.length c0_0, .slice A0_1 l0_1.length c0_1, .slice A0_2 l0_2.length c0_2]) (t := 41) ?hr ?_; (case hd => rfl); (case hg => rfl); (case hr => first | (go_simp; done) | (go_simp; rfl)); intro gb620 hg w5 hbox hb; have BK620 := Aside0.mk (hbox); have GW620 := gw_ hg HB; have GE620 := gw_ hg HB; replace HB := bst_ HB hb; clear hb hbox hg) | ((with_reducible refine gate_dst (N := 3) rfl ?_); refine box_event ?hg (N := 3) ?hd (cs := #[.int .i64 a1_0, .int .i64 a1_1]) (t := 43) ?hr ?_; (case hd => rfl); (case hg => rfl); (case hr => first | (go_simp; done) | (go_simp; rfl)); intro gb621 hg w6 hbox hb; have BK621 := Aside0.mk (hbox); have GW621 := gw_ hg HB; have GE621 := gw_ hg HB; have NB620_621 := nl_ hg BK620; have NB621_620 := ng_ hg BK620; replace BK620 := bb_ BK620 hb; replace HB := bst_ HB hb; clear hb hbox hg; have hnb7 := NB620_621.out; have hnc7 := NB621_620.out; have hcz8_0 : w6.cell? ⟨gb620, 0, none⟩ = some (.slice A0_0 l0_0.length c0_0) := bc_ BK620 0; have hcz8_1 : w6.cell? ⟨gb620, 1, none⟩ = some (.slice A0_1 l0_1.length c0_1) := bc_ BK620 1; have hcz8_2 : w6.cell? ⟨gb620, 2, none⟩ = some (.slice A0_2 l0_2.length c0_2) := bc_ BK620 2; have hfz8_0 := blk_frozen BK620.out 0; have hfz8_1 := blk_frozen BK620.out 1; have hfz8_2 := blk_frozen BK620.out 2) | ((with_reducible refine gate_callee (f := 29) rfl ?_); refine goesL_ (some 18) rfl rfl Try.func29 (by kernel_rfl) rfl #[.agg #[.slice A0_0 l0_0.length c0_0, .slice A0_1 l0_1.length c0_1, .slice A0_2 l0_2.length c0_2], .int .i64 1048576] rfl tm_ ?_; (with_reducible refine (laws_szPair.calls _ _ l0_0 _ _ l0_1 _ _ l0_2 1048576 t622 _ ?side1 ?side2 ?side3 ?side4 ?side5 ?side6 A3.out).mono ?_); (case side1 => exact ca (Kd.C_below HR0_0.out HB.out)); (case side2 => exact HC0_0.out); (case side3 => exact ca (Kd.C_below HR0_1.out HB.out)); (case side4 => exact HC0_1.out); (case side5 => exact ca (Kd.C_below HR0_2.out HB.out)); (case side6 => exact HC0_2.out); rintro e w9 ⟨rfl, hb⟩; refine ⟨_, rfl, ?_⟩; replace BK620 := bb_ BK620 hb; replace BK621 := bb_ BK621 hb; replace HB := bst_ HB hb; clear hb))
  go_ret
  exact ⟨by first | rfl | (simp [errW_none, errW_some] <;> rfl) | (simp [*, errW_none, errW_some] <;> rfl), by repeat (first | (with_reducible first | exact HB.out | apply below_alloc | apply pw_below_drewN | apply below_drew1 | refine below_set ?_ GE620.out | refine below_set ?_ GE621.out) | exact HB.out)⟩
 rw [if_neg c4] at H
 have c4b0 : decide (t622 < 0) = false := decide_eq_false c4
 clear c4
 replace H := Option.bind_eq_some_iff.mp H
 obtain ⟨⟨t623, t626, t629⟩, A100, H⟩ := H
 replace H : ((laws_toPairStep.f a1_0 a1_1).bind fun bt632 => ((spec_StepPair.f k t623 t626 t629 bt632.1 bt632.2).bind fun bt634 => ((laws_toPair.f k l0_0 l0_1 l0_2).bind fun bt645 => ((laws_toPairStep.f a1_0 a1_1).bind fun bt655 => ((impl_StepPair.f k bt645.1 bt645.2.1 bt645.2.2 bt655.1 bt655.2).bind fun bt657 => ((laws_eqPair.f k bt657.1 bt657.2.1 bt657.2.2.1 bt634.1 bt634.2.1 bt634.2.2.1).bind fun t668 => (if t668 = true then (laws_FnExactStepPair.j0 k bt634.2.2.2 bt657.2.2.2 (bt657.2.2.2 != bt634.2.2.2) l0_0 l0_1 l0_2 a1_0 a1_1 bt634.1 bt634.2.1 bt634.2.2.1 bt645.1 bt645.2.1 bt645.2.2 bt657.1 bt657.2.1 bt657.2.2.1) else (laws_FnExactStepPair.j0 k bt634.2.2.2 bt657.2.2.2 true l0_0 l0_1 l0_2 a1_0 a1_1 bt634.1 bt634.2.1 bt634.2.2.1 bt645.1 bt645.2.1 bt645.2.2 bt657.1 bt657.2.1 bt657.2.2.1)))))))) = some r := H
 have A10 := Aside0.mk A100
 clear A100
 replace H := Option.bind_eq_some_iff.mp H
 obtain ⟨⟨t632, t633⟩, A110, H⟩ := H
 replace H : ((spec_StepPair.f k t623 t626 t629 t632 t633).bind fun bt634 => ((laws_toPair.f k l0_0 l0_1 l0_2).bind fun bt645 => ((laws_toPairStep.f a1_0 a1_1).bind fun bt655 => ((impl_StepPair.f k bt645.1 bt645.2.1 bt645.2.2 bt655.1 bt655.2).bind fun bt657 => ((laws_eqPair.f k bt657.1 bt657.2.1 bt657.2.2.1 bt634.1 bt634.2.1 bt634.2.2.1).bind fun t668 => (if t668 = true then (laws_FnExactStepPair.j0 k bt634.2.2.2 bt657.2.2.2 (bt657.2.2.2 != bt634.2.2.2) l0_0 l0_1 l0_2 a1_0 a1_1 bt634.1 bt634.2.1 bt634.2.2.1 bt645.1 bt645.2.1 bt645.2.2 bt657.1 bt657.2.1 bt657.2.2.1) else (laws_FnExactStepPair.j0 k bt634.2.2.2 bt657.2.2.2 true l0_0 l0_1 l0_2 a1_0 a1_1 bt634.1 bt634.2.1 bt634.2.2.1 bt645.1 bt645.2.1 bt645.2.2 bt657.1 bt657.2.1 bt657.2.2.1))))))) = some r := H
 have A11 := Aside0.mk A110
 clear A110
 replace H := Option.bind_eq_some_iff.mp H
 obtain ⟨⟨t634, t637, t640, t643⟩, A120, H⟩ := H
 replace H : ((laws_toPair.f k l0_0 l0_1 l0_2).bind fun bt645 => ((laws_toPairStep.f a1_0 a1_1).bind fun bt655 => ((impl_StepPair.f k bt645.1 bt645.2.1 bt645.2.2 bt655.1 bt655.2).bind fun bt657 => ((laws_eqPair.f k bt657.1 bt657.2.1 bt657.2.2.1 t634 t637 t640).bind fun t668 => (if t668 = true then (laws_FnExactStepPair.j0 k t643 bt657.2.2.2 (bt657.2.2.2 != t643) l0_0 l0_1 l0_2 a1_0 a1_1 t634 t637 t640 bt645.1 bt645.2.1 bt645.2.2 bt657.1 bt657.2.1 bt657.2.2.1) else (laws_FnExactStepPair.j0 k t643 bt657.2.2.2 true l0_0 l0_1 l0_2 a1_0 a1_1 t634 t637 t640 bt645.1 bt645.2.1 bt645.2.2 bt657.1 bt657.2.1 bt657.2.2.1)))))) = some r := H
 have A12 := Aside0.mk A120
 clear A120
 replace H := Option.bind_eq_some_iff.mp H
 obtain ⟨⟨t645, t648, t651⟩, A130, H⟩ := H
 replace H : ((laws_toPairStep.f a1_0 a1_1).bind fun bt655 => ((impl_StepPair.f k t645 t648 t651 bt655.1 bt655.2).bind fun bt657 => ((laws_eqPair.f k bt657.1 bt657.2.1 bt657.2.2.1 t634 t637 t640).bind fun t668 => (if t668 = true then (laws_FnExactStepPair.j0 k t643 bt657.2.2.2 (bt657.2.2.2 != t643) l0_0 l0_1 l0_2 a1_0 a1_1 t634 t637 t640 t645 t648 t651 bt657.1 bt657.2.1 bt657.2.2.1) else (laws_FnExactStepPair.j0 k t643 bt657.2.2.2 true l0_0 l0_1 l0_2 a1_0 a1_1 t634 t637 t640 t645 t648 t651 bt657.1 bt657.2.1 bt657.2.2.1))))) = some r := H
 have A13 := Aside0.mk A130
 clear A130
 replace H := Option.bind_eq_some_iff.mp H
 obtain ⟨⟨t655, t656⟩, A140, H⟩ := H
 replace H : ((impl_StepPair.f k t645 t648 t651 t655 t656).bind fun bt657 => ((laws_eqPair.f k bt657.1 bt657.2.1 bt657.2.2.1 t634 t637 t640).bind fun t668 => (if t668 = true then (laws_FnExactStepPair.j0 k t643 bt657.2.2.2 (bt657.2.2.2 != t643) l0_0 l0_1 l0_2 a1_0 a1_1 t634 t637 t640 t645 t648 t651 bt657.1 bt657.2.1 bt657.2.2.1) else (laws_FnExactStepPair.j0 k t643 bt657.2.2.2 true l0_0 l0_1 l0_2 a1_0 a1_1 t634 t637 t640 t645 t648 t651 bt657.1 bt657.2.1 bt657.2.2.1)))) = some r := H
 have A14 := Aside0.mk A140
 clear A140
 replace H := Option.bind_eq_some_iff.mp H
 obtain ⟨⟨t657, t660, t663, t666⟩, A150, H⟩ := H
 replace H : ((laws_eqPair.f k t657 t660 t663 t634 t637 t640).bind fun t668 => (if t668 = true then (laws_FnExactStepPair.j0 k t643 t666 (t666 != t643) l0_0 l0_1 l0_2 a1_0 a1_1 t634 t637 t640 t645 t648 t651 t657 t660 t663) else (laws_FnExactStepPair.j0 k t643 t666 true l0_0 l0_1 l0_2 a1_0 a1_1 t634 t637 t640 t645 t648 t651 t657 t660 t663))) = some r := H
 have A15 := Aside0.mk A150
 clear A150
 have HC16 := Aside0.mk H
 clear H
 go_enter Try.func5, Try.ntmps5
 try go_wp2_with (first | ((with_reducible refine gate_dst (N := 2) rfl ?_); refine box_event ?hg (N := 2) ?hd (cs := #[.slice A0_0 l0_0.length c0_0, .slice A0_1 l0_1.length c0_1, .slice A0_2 l0_2.length c0_2]) (t := 41) ?hr ?_; (case hd => rfl); (case hg => rfl); (case hr => first | (go_simp; done) | (go_simp; rfl)); intro gb620 hg w17 hbox hb; have BK620 := Aside0.mk (hbox); have GW620 := gw_ hg HB; have GE620 := gw_ hg HB; replace HB := bst_ HB hb; clear hb hbox hg) | ((with_reducible refine gate_dst (N := 3) rfl ?_); refine box_event ?hg (N := 3) ?hd (cs := #[.int .i64 a1_0, .int .i64 a1_1]) (t := 43) ?hr ?_; (case hd => rfl); (case hg => rfl); (case hr => first | (go_simp; done) | (go_simp; rfl)); intro gb621 hg w18 hbox hb; have BK621 := Aside0.mk (hbox); have GW621 := gw_ hg HB; have GE621 := gw_ hg HB; have NB620_621 := nl_ hg BK620; have NB621_620 := ng_ hg BK620; replace BK620 := bb_ BK620 hb; replace HB := bst_ HB hb; clear hb hbox hg; have hnb19 := NB620_621.out; have hnc19 := NB621_620.out; have hcz20_0 : w18.cell? ⟨gb620, 0, none⟩ = some (.slice A0_0 l0_0.length c0_0) := bc_ BK620 0; have hcz20_1 : w18.cell? ⟨gb620, 1, none⟩ = some (.slice A0_1 l0_1.length c0_1) := bc_ BK620 1; have hcz20_2 : w18.cell? ⟨gb620, 2, none⟩ = some (.slice A0_2 l0_2.length c0_2) := bc_ BK620 2; have hfz20_0 := blk_frozen BK620.out 0; have hfz20_1 := blk_frozen BK620.out 1; have hfz20_2 := blk_frozen BK620.out 2) | ((with_reducible refine gate_callee (f := 29) rfl ?_); refine goesL_ (some 18) rfl rfl Try.func29 (by kernel_rfl) rfl #[.agg #[.slice A0_0 l0_0.length c0_0, .slice A0_1 l0_1.length c0_1, .slice A0_2 l0_2.length c0_2], .int .i64 1048576] rfl tm_ ?_; (with_reducible refine (laws_szPair.calls _ _ l0_0 _ _ l0_1 _ _ l0_2 1048576 t622 _ ?side1 ?side2 ?side3 ?side4 ?side5 ?side6 A3.out).mono ?_); (case side1 => exact ca (Kd.C_below HR0_0.out HB.out)); (case side2 => exact HC0_0.out); (case side3 => exact ca (Kd.C_below HR0_1.out HB.out)); (case side4 => exact HC0_1.out); (case side5 => exact ca (Kd.C_below HR0_2.out HB.out)); (case side6 => exact HC0_2.out); rintro e w21 ⟨rfl, hb⟩; refine ⟨_, rfl, ?_⟩; replace BK620 := bb_ BK620 hb; replace BK621 := bb_ BK621 hb; replace HB := bst_ HB hb; clear hb))
 replace BK620 := bd_ BK620
 replace BK621 := bd_ BK621
 replace HB := Aside0.mk (below_drew1 HB.out)
 refine start_ (n := 11) (S := fun w' => w'.cell? ⟨gb620, 0, none⟩ = some (.slice A0_0 l0_0.length c0_0) ∧ w'.cell? ⟨gb620, 1, none⟩ = some (.slice A0_1 l0_1.length c0_1) ∧ w'.cell? ⟨gb620, 2, none⟩ = some (.slice A0_2 l0_2.length c0_2) ∧ w'.cell? ⟨gb621, 0, none⟩ = some (.int .i64 a1_0) ∧ w'.cell? ⟨gb621, 1, none⟩ = some (.int .i64 a1_1)) (ds := []) (bs 11 0) (by kernel_rfl) rfl rfl ⟨bc_ BK620 0, bc_ BK620 1, bc_ BK620 2, bc_ BK621 0, bc_ BK621 1⟩ (fun hHeld => ?_); refine with_tabW laws_FnExactStepPair.tab5 laws_FnExactStepPair.bits5 (fun HT_ HW_ => ?_)
 generalize w21.drew = w22 at BK620 BK621 HB hHeld ⊢
 refine tk_ 0 22 (bs 11 1) HT_ HW_ hHeld ?_
 refine tk_ 2 24 (bs 11 5) HT_ HW_ hHeld ?_
 refine join_ (σ := Value × Value × Value × Value × Value × Value × Nat) 2 (bs 11 511) (fun s_ => [(23, .agg #[s_.1, s_.2.1, s_.2.2.1]), (25, .agg #[.int .i64 t632, .int .i64 t633]), (26, .tuple #[.agg #[s_.2.2.2.1, s_.2.2.2.2.1, s_.2.2.2.2.2.1], .bool t643]), (6, .pointer (some ⟨s_.2.2.2.2.2.2, 0, none⟩)), (21, .tuple #[.agg #[s_.2.2.2.1, s_.2.2.2.2.1, s_.2.2.2.2.2.1], .bool t643]), (27, .agg #[s_.2.2.2.1, s_.2.2.2.2.1, s_.2.2.2.2.2.1]), (28, .bool t643)]) (fun s_ w' => (w'.cell? ⟨gb620, 0, none⟩ = some (.slice A0_0 l0_0.length c0_0) ∧ w'.cell? ⟨gb620, 1, none⟩ = some (.slice A0_1 l0_1.length c0_1) ∧ w'.cell? ⟨gb620, 2, none⟩ = some (.slice A0_2 l0_2.length c0_2) ∧ w'.cell? ⟨gb621, 0, none⟩ = some (.int .i64 a1_0) ∧ w'.cell? ⟨gb621, 1, none⟩ = some (.int .i64 a1_1)) ∧ (Kd.R (Kd.int .i64) 3 w' w.heap.size (fun k_ => no_ s_.2.1 k_ ∧ no_ s_.2.2.2.1 k_ ∧ no_ s_.2.2.2.2.1 k_) s_.1 t623) ∧ (Kd.R (Kd.int .i64) 3 w' w.heap.size (fun k_ => no_ s_.1 k_ ∧ no_ s_.2.2.2.1 k_ ∧ no_ s_.2.2.2.2.1 k_) s_.2.1 t626) ∧ (Kd.R k127 127 w' w.heap.size (fun k_ => no_ s_.2.2.2.2.2.1 k_) s_.2.2.1 t629) ∧ (Kd.R (Kd.int .i64) 3 w' w.heap.size (fun k_ => no_ s_.1 k_ ∧ no_ s_.2.1 k_ ∧ no_ s_.2.2.2.2.1 k_) s_.2.2.2.1 t634) ∧ (Kd.R (Kd.int .i64) 3 w' w.heap.size (fun k_ => no_ s_.1 k_ ∧ no_ s_.2.1 k_ ∧ no_ s_.2.2.2.1 k_) s_.2.2.2.2.1 t637) ∧ (Kd.R k127 127 w' w.heap.size (fun k_ => no_ s_.2.2.1 k_) s_.2.2.2.2.2.1 t640) ∧ (w'.heap[gb620]? = some (.cells #[.slice A0_0 l0_0.length c0_0, .slice A0_1 l0_1.length c0_1, .slice A0_2 l0_2.length c0_2] 41 (0, 0))) ∧ (w'.heap[gb621]? = some (.cells #[.int .i64 a1_0, .int .i64 a1_1] 43 (0, 0))) ∧ (w'.heap[s_.2.2.2.2.2.2]? = some (.cells #[.slice none 0 0, .slice none 0 0, .slice none 0 0] 47 (0, 0))) ∧ (w.heap.size ≤ s_.2.2.2.2.2.2) ∧ (w.heap.size ≤ s_.2.2.2.2.2.2) ∧ (gb620 ≠ s_.2.2.2.2.2.2) ∧ (s_.2.2.2.2.2.2 ≠ gb620) ∧ (gb621 ≠ s_.2.2.2.2.2.2) ∧ (s_.2.2.2.2.2.2 ≠ gb621) ∧ (Below w.heap.size w w')) ?_ ?_
 rotate_left
 ·intro hCont
  refine two_ (i := 1) (j := 8) (Ni := some 23) (Nj := some 6) (bs 11 7) (bs 11 261) rfl rfl rfl rfl (two_of HT_.out (by kernel_rfl)) (by decide) (by decide) (fun K hK => ?_) (fun K hK => ?_)
  rotate_left
  ·skip
   refine box_step ?hg (N := 6) ?hd (cs := #[.slice none 0 0, .slice none 0 0, .slice none 0 0]) (t := 47) ?hr ?_; (case hd => rfl); (case hg => rfl); (case hr => first | (go_simp; done) | (go_simp; rfl))
   intro gb644 hg w23 hbox hb
   have BK644 := Aside0.mk (hbox)
   have GW644 := gw_ hg HB
   have GE644 := gw_ hg HB
   have NB620_644 := nl_ hg BK620
   have NB644_620 := ng_ hg BK620
   have NB621_644 := nl_ hg BK621
   have NB644_621 := ng_ hg BK621
   replace BK620 := bb_ BK620 hb
   replace BK621 := bb_ BK621 hb
   replace HB := bst_ HB hb
   clear hb hbox hg
   refine hK.out _ _ ⟨bc_ BK620 0, bc_ BK620 1, bc_ BK620 2, bc_ BK621 0, bc_ BK621 1⟩ (fun hHeld => ?_)
   clear hK K
   refine nm_ 6 ?_
   refine one_ (i := 1) (N := some 23) (bs 11 263) rfl rfl (one_of HT_.out (by kernel_rfl)) (by decide) (fun K hK => ?_)
   refine goes_ Try.func31 (by kernel_rfl) rfl #[.agg #[.slice A0_0 l0_0.length c0_0, .slice A0_1 l0_1.length c0_1, .slice A0_2 l0_2.length c0_2]] (by rfl) rfl rfl tm_ ?_
   with_reducible refine (laws_toPair.calls k _ _ l0_0 _ _ l0_1 _ _ l0_2 t623 t626 t629 _ ?side1 ?side2 ?side3 ?side4 ?side5 ?side6 A10.out).mono ?_
   (case side1 => exact ca (Kd.C_below HR0_0.out HB.out))
   (case side2 => exact HC0_0.out)
   (case side3 => exact ca (Kd.C_below HR0_1.out HB.out))
   (case side4 => exact HC0_1.out)
   (case side5 => exact ca (Kd.C_below HR0_2.out HB.out))
   (case side6 => exact HC0_2.out)
   rintro e w24 ⟨v624, v627, v630, rfl, ho0, ho1, ho2, hb⟩
   refine ⟨_, rfl, ?_⟩
   have HO625 := Aside0.mk (Kd.R_lower ho0 (below_size (hB HB)))
   have HO628 := Aside0.mk (Kd.R_lower ho1 (below_size (hB HB)))
   have HO631 := Aside0.mk (Kd.R_lower ho2 (below_size (hB HB)))
   replace BK620 := bb_ BK620 hb
   replace BK621 := bb_ BK621 hb
   replace BK644 := bb_ BK644 hb
   replace HB := bst_ HB hb
   clear hb ho0 ho1 ho2
   refine hK.out _ _ ⟨bc_ BK620 0, bc_ BK620 1, bc_ BK620 2, bc_ BK621 0, bc_ BK621 1⟩ (fun hHeld => ?_)
   clear hK K
   refine nm_ 23 ?_
   refine one_ (i := 3) (N := some 25) (bs 11 271) rfl rfl (one_of HT_.out (by kernel_rfl)) (by decide) (fun K hK => ?_)
   refine goes_ Try.func32 (by kernel_rfl) rfl #[.agg #[.int .i64 a1_0, .int .i64 a1_1]] (by rfl) rfl rfl tm_ ?_
   with_reducible refine (laws_toPairStep.calls a1_0 a1_1 t632 t633 _ A11.out).mono ?_
   rintro e w25 ⟨rfl, hb⟩
   refine ⟨_, rfl, ?_⟩
   replace HO625 := rb_ HO625 hb
   replace HO628 := rb_ HO628 hb
   replace HO631 := rb_ HO631 hb
   replace BK620 := bb_ BK620 hb
   replace BK621 := bb_ BK621 hb
   replace BK644 := bb_ BK644 hb
   replace HB := bst_ HB hb
   clear hb
   obtain ⟨Ao26, co26, eo26⟩ := Kd.R_slice HO625.out
   (first | subst eo26 | (injection eo26 with f1_ f2_ f3_; have f4_ := f1_.symm; have f5_ := f3_.symm; clear f1_ f2_ f3_; subst f4_; subst f5_))
   obtain ⟨Ao27, co27, eo27⟩ := Kd.R_slice HO628.out
   (first | subst eo27 | (injection eo27 with f1_ f2_ f3_; have f4_ := f1_.symm; have f5_ := f3_.symm; clear f1_ f2_ f3_; subst f4_; subst f5_))
   obtain ⟨Ao28, co28, eo28⟩ := Kd.R_slice HO631.out
   (first | subst eo28 | (injection eo28 with f1_ f2_ f3_; have f4_ := f1_.symm; have f5_ := f3_.symm; clear f1_ f2_ f3_; subst f4_; subst f5_))
   refine hK.out _ _ ⟨bc_ BK620 0, bc_ BK620 1, bc_ BK620 2, bc_ BK621 0, bc_ BK621 1⟩ (fun hHeld => ?_)
   clear hK K
   refine nm_ 25 ?_
   refine one_ (i := 4) (N := some 26) (bs 11 287) rfl rfl (one_of HT_.out (by kernel_rfl)) (by decide) (fun K hK => ?_)
   refine goes_ Try.func30 (by kernel_rfl) rfl #[.agg #[.slice Ao26 t623.length co26, .slice Ao27 t626.length co27, .slice Ao28 t629.length co28], .agg #[.int .i64 t632, .int .i64 t633]] (by rfl) rfl rfl tm_ ?_
   with_reducible refine (spec_StepPair.calls k _ _ t623 _ _ t626 _ _ t629 t632 t633 t634 t637 t640 t643 _ ?side1 ?side2 ?side3 ?side4 ?side5 ?side6 A12.out).mono ?_
   (case side1 => exact ca (Kd.R_reads' HO625.out).2.2)
   (case side2 => exact (Kd.R_reads' HO625.out).2.1)
   (case side3 => exact ca (Kd.R_reads' HO628.out).2.2)
   (case side4 => exact (Kd.R_reads' HO628.out).2.1)
   (case side5 => exact ca (Kd.R_reads' HO631.out).2.2)
   (case side6 => exact (Kd.R_reads' HO631.out).2.1)
   rintro e w29 ⟨v635, v638, v641, rfl, ho0, ho1, ho2, hb⟩
   refine ⟨_, rfl, ?_⟩
   have HO636 := Aside0.mk (Kd.R_lower (Kd.R_new' (Kd.R_new' ho0 (rl_ HO625)) (rl_ HO628)) (below_size (hB HB)))
   have HO639 := Aside0.mk (Kd.R_lower (Kd.R_new' (Kd.R_new' ho1 (rl_ HO625)) (rl_ HO628)) (below_size (hB HB)))
   have HO642 := Aside0.mk (Kd.R_lower (Kd.R_new' ho2 (rl_ HO631)) (below_size (hB HB)))
   replace HO625 := rt2_ HO625 hb ho0 ho1
   replace HO628 := rt2_ HO628 hb ho0 ho1
   replace HO631 := re_ HO631 ho2 hb
   replace BK620 := bb_ BK620 hb
   replace BK621 := bb_ BK621 hb
   replace BK644 := bb_ BK644 hb
   replace HB := bst_ HB hb
   clear hb ho0 ho1 ho2
   refine hK.out _ _ ⟨bc_ BK620 0, bc_ BK620 1, bc_ BK620 2, bc_ BK621 0, bc_ BK621 1⟩ (fun hHeld => ?_)
   clear hK K
   refine nm_ 26 ?_
   refine pu_ 5 21 (bs 11 319) HT_ ?_
   refine pu_ 6 27 (bs 11 383) HT_ ?_
   refine pu_ 7 28 (bs 11 511) HT_ ?_
   exact norm_ (by simp only [putAll, Act.put, List.setIfInBounds_toArray, List.set_cons_zero, List.set_cons_succ]) (hCont (.slice Ao26 t623.length co26, .slice Ao27 t626.length co27, .slice Ao28 t629.length co28, v635, v638, v641, gb644) _ ⟨hHeld, (rm_ HO625 (fun _ hk => ⟨hk.1.1, ⟨hk.1.2, hk.2⟩⟩)).out, (rm_ HO628 (fun _ hk => ⟨hk.1.1, ⟨hk.1.2, hk.2⟩⟩)).out, (rm_ HO631 (fun _ hk => hk.2)).out, (rm_ HO636 (fun _ hk => ⟨hk.1.2, ⟨hk.2, hk.1.1⟩⟩)).out, (rm_ HO639 (fun _ hk => ⟨hk.1.2, ⟨hk.2, hk.1.1⟩⟩)).out, (rm_ HO642 (fun _ hk => hk.2)).out, (ba BK620.out), (ba BK621.out), (ba BK644.out), GW644.out, GE644.out, NB620_644.out, NB644_620.out, NB621_644.out, NB644_621.out, (hB HB)⟩)
  skip
  refine goes_ Try.func31 (by kernel_rfl) rfl #[.agg #[.slice A0_0 l0_0.length c0_0, .slice A0_1 l0_1.length c0_1, .slice A0_2 l0_2.length c0_2]] (by rfl) rfl rfl tm_ ?_
  with_reducible refine (laws_toPair.calls k _ _ l0_0 _ _ l0_1 _ _ l0_2 t623 t626 t629 _ ?side1 ?side2 ?side3 ?side4 ?side5 ?side6 A10.out).mono ?_
  (case side1 => exact ca (Kd.C_below HR0_0.out HB.out))
  (case side2 => exact HC0_0.out)
  (case side3 => exact ca (Kd.C_below HR0_1.out HB.out))
  (case side4 => exact HC0_1.out)
  (case side5 => exact ca (Kd.C_below HR0_2.out HB.out))
  (case side6 => exact HC0_2.out)
  rintro e w23 ⟨v624, v627, v630, rfl, ho0, ho1, ho2, hb⟩
  refine ⟨_, rfl, ?_⟩
  have HO625 := Aside0.mk (Kd.R_lower ho0 (below_size (hB HB)))
  have HO628 := Aside0.mk (Kd.R_lower ho1 (below_size (hB HB)))
  have HO631 := Aside0.mk (Kd.R_lower ho2 (below_size (hB HB)))
  replace BK620 := bb_ BK620 hb
  replace BK621 := bb_ BK621 hb
  replace HB := bst_ HB hb
  clear hb ho0 ho1 ho2
  refine hK.out _ _ ⟨bc_ BK620 0, bc_ BK620 1, bc_ BK620 2, bc_ BK621 0, bc_ BK621 1⟩ (fun hHeld => ?_)
  clear hK K
  refine nm_ 23 ?_
  refine two_ (i := 3) (j := 8) (Ni := some 25) (Nj := some 6) (bs 11 15) (bs 11 263) rfl rfl rfl rfl (two_of HT_.out (by kernel_rfl)) (by decide) (by decide) (fun K hK => ?_) (fun K hK => ?_)
  rotate_left
  ·skip
   refine box_step ?hg (N := 6) ?hd (cs := #[.slice none 0 0, .slice none 0 0, .slice none 0 0]) (t := 47) ?hr ?_; (case hd => rfl); (case hg => rfl); (case hr => first | (go_simp; done) | (go_simp; rfl))
   intro gb644 hg w24 hbox hb
   have BK644 := Aside0.mk (hbox)
   have GW644 := gw_ hg HB
   have GE644 := gw_ hg HB
   have NB620_644 := nl_ hg BK620
   have NB644_620 := ng_ hg BK620
   have NB621_644 := nl_ hg BK621
   have NB644_621 := ng_ hg BK621
   replace HO625 := rb_ HO625 hb
   replace HO628 := rb_ HO628 hb
   replace HO631 := rb_ HO631 hb
   replace BK620 := bb_ BK620 hb
   replace BK621 := bb_ BK621 hb
   replace HB := bst_ HB hb
   clear hb hbox hg
   refine hK.out _ _ ⟨bc_ BK620 0, bc_ BK620 1, bc_ BK620 2, bc_ BK621 0, bc_ BK621 1⟩ (fun hHeld => ?_)
   clear hK K
   refine nm_ 6 ?_
   refine one_ (i := 3) (N := some 25) (bs 11 271) rfl rfl (one_of HT_.out (by kernel_rfl)) (by decide) (fun K hK => ?_)
   refine goes_ Try.func32 (by kernel_rfl) rfl #[.agg #[.int .i64 a1_0, .int .i64 a1_1]] (by rfl) rfl rfl tm_ ?_
   with_reducible refine (laws_toPairStep.calls a1_0 a1_1 t632 t633 _ A11.out).mono ?_
   rintro e w25 ⟨rfl, hb⟩
   refine ⟨_, rfl, ?_⟩
   replace HO625 := rb_ HO625 hb
   replace HO628 := rb_ HO628 hb
   replace HO631 := rb_ HO631 hb
   replace BK620 := bb_ BK620 hb
   replace BK621 := bb_ BK621 hb
   replace BK644 := bb_ BK644 hb
   replace HB := bst_ HB hb
   clear hb
   obtain ⟨Ao26, co26, eo26⟩ := Kd.R_slice HO625.out
   (first | subst eo26 | (injection eo26 with f1_ f2_ f3_; have f4_ := f1_.symm; have f5_ := f3_.symm; clear f1_ f2_ f3_; subst f4_; subst f5_))
   obtain ⟨Ao27, co27, eo27⟩ := Kd.R_slice HO628.out
   (first | subst eo27 | (injection eo27 with f1_ f2_ f3_; have f4_ := f1_.symm; have f5_ := f3_.symm; clear f1_ f2_ f3_; subst f4_; subst f5_))
   obtain ⟨Ao28, co28, eo28⟩ := Kd.R_slice HO631.out
   (first | subst eo28 | (injection eo28 with f1_ f2_ f3_; have f4_ := f1_.symm; have f5_ := f3_.symm; clear f1_ f2_ f3_; subst f4_; subst f5_))
   refine hK.out _ _ ⟨bc_ BK620 0, bc_ BK620 1, bc_ BK620 2, bc_ BK621 0, bc_ BK621 1⟩ (fun hHeld => ?_)
   clear hK K
   refine nm_ 25 ?_
   refine one_ (i := 4) (N := some 26) (bs 11 287) rfl rfl (one_of HT_.out (by kernel_rfl)) (by decide) (fun K hK => ?_)
   refine goes_ Try.func30 (by kernel_rfl) rfl #[.agg #[.slice Ao26 t623.length co26, .slice Ao27 t626.length co27, .slice Ao28 t629.length co28], .agg #[.int .i64 t632, .int .i64 t633]] (by rfl) rfl rfl tm_ ?_
   with_reducible refine (spec_StepPair.calls k _ _ t623 _ _ t626 _ _ t629 t632 t633 t634 t637 t640 t643 _ ?side1 ?side2 ?side3 ?side4 ?side5 ?side6 A12.out).mono ?_
   (case side1 => exact ca (Kd.R_reads' HO625.out).2.2)
   (case side2 => exact (Kd.R_reads' HO625.out).2.1)
   (case side3 => exact ca (Kd.R_reads' HO628.out).2.2)
   (case side4 => exact (Kd.R_reads' HO628.out).2.1)
   (case side5 => exact ca (Kd.R_reads' HO631.out).2.2)
   (case side6 => exact (Kd.R_reads' HO631.out).2.1)
   rintro e w29 ⟨v635, v638, v641, rfl, ho0, ho1, ho2, hb⟩
   refine ⟨_, rfl, ?_⟩
   have HO636 := Aside0.mk (Kd.R_lower (Kd.R_new' (Kd.R_new' ho0 (rl_ HO625)) (rl_ HO628)) (below_size (hB HB)))
   have HO639 := Aside0.mk (Kd.R_lower (Kd.R_new' (Kd.R_new' ho1 (rl_ HO625)) (rl_ HO628)) (below_size (hB HB)))
   have HO642 := Aside0.mk (Kd.R_lower (Kd.R_new' ho2 (rl_ HO631)) (below_size (hB HB)))
   replace HO625 := rt2_ HO625 hb ho0 ho1
   replace HO628 := rt2_ HO628 hb ho0 ho1
   replace HO631 := re_ HO631 ho2 hb
   replace BK620 := bb_ BK620 hb
   replace BK621 := bb_ BK621 hb
   replace BK644 := bb_ BK644 hb
   replace HB := bst_ HB hb
   clear hb ho0 ho1 ho2
   refine hK.out _ _ ⟨bc_ BK620 0, bc_ BK620 1, bc_ BK620 2, bc_ BK621 0, bc_ BK621 1⟩ (fun hHeld => ?_)
   clear hK K
   refine nm_ 26 ?_
   refine pu_ 5 21 (bs 11 319) HT_ ?_
   refine pu_ 6 27 (bs 11 383) HT_ ?_
   refine pu_ 7 28 (bs 11 511) HT_ ?_
   exact norm_ (by simp only [putAll, Act.put, List.setIfInBounds_toArray, List.set_cons_zero, List.set_cons_succ]) (hCont (.slice Ao26 t623.length co26, .slice Ao27 t626.length co27, .slice Ao28 t629.length co28, v635, v638, v641, gb644) _ ⟨hHeld, (rm_ HO625 (fun _ hk => ⟨hk.1.1, ⟨hk.1.2, hk.2⟩⟩)).out, (rm_ HO628 (fun _ hk => ⟨hk.1.1, ⟨hk.1.2, hk.2⟩⟩)).out, (rm_ HO631 (fun _ hk => hk.2)).out, (rm_ HO636 (fun _ hk => ⟨hk.1.2, ⟨hk.2, hk.1.1⟩⟩)).out, (rm_ HO639 (fun _ hk => ⟨hk.1.2, ⟨hk.2, hk.1.1⟩⟩)).out, (rm_ HO642 (fun _ hk => hk.2)).out, (ba BK620.out), (ba BK621.out), (ba BK644.out), GW644.out, GE644.out, NB620_644.out, NB644_620.out, NB621_644.out, NB644_621.out, (hB HB)⟩)
  skip
  refine goes_ Try.func32 (by kernel_rfl) rfl #[.agg #[.int .i64 a1_0, .int .i64 a1_1]] (by rfl) rfl rfl tm_ ?_
  with_reducible refine (laws_toPairStep.calls a1_0 a1_1 t632 t633 _ A11.out).mono ?_
  rintro e w24 ⟨rfl, hb⟩
  refine ⟨_, rfl, ?_⟩
  replace HO625 := rb_ HO625 hb
  replace HO628 := rb_ HO628 hb
  replace HO631 := rb_ HO631 hb
  replace BK620 := bb_ BK620 hb
  replace BK621 := bb_ BK621 hb
  replace HB := bst_ HB hb
  clear hb
  obtain ⟨Ao25, co25, eo25⟩ := Kd.R_slice HO625.out
  (first | subst eo25 | (injection eo25 with f1_ f2_ f3_; have f4_ := f1_.symm; have f5_ := f3_.symm; clear f1_ f2_ f3_; subst f4_; subst f5_))
  obtain ⟨Ao26, co26, eo26⟩ := Kd.R_slice HO628.out
  (first | subst eo26 | (injection eo26 with f1_ f2_ f3_; have f4_ := f1_.symm; have f5_ := f3_.symm; clear f1_ f2_ f3_; subst f4_; subst f5_))
  obtain ⟨Ao27, co27, eo27⟩ := Kd.R_slice HO631.out
  (first | subst eo27 | (injection eo27 with f1_ f2_ f3_; have f4_ := f1_.symm; have f5_ := f3_.symm; clear f1_ f2_ f3_; subst f4_; subst f5_))
  refine hK.out _ _ ⟨bc_ BK620 0, bc_ BK620 1, bc_ BK620 2, bc_ BK621 0, bc_ BK621 1⟩ (fun hHeld => ?_)
  clear hK K
  refine nm_ 25 ?_
  refine two_ (i := 4) (j := 8) (Ni := some 26) (Nj := some 6) (bs 11 31) (bs 11 271) rfl rfl rfl rfl (two_of HT_.out (by kernel_rfl)) (by decide) (by decide) (fun K hK => ?_) (fun K hK => ?_)
  ·skip
   refine goes_ Try.func30 (by kernel_rfl) rfl #[.agg #[.slice Ao25 t623.length co25, .slice Ao26 t626.length co26, .slice Ao27 t629.length co27], .agg #[.int .i64 t632, .int .i64 t633]] (by rfl) rfl rfl tm_ ?_
   with_reducible refine (spec_StepPair.calls k _ _ t623 _ _ t626 _ _ t629 t632 t633 t634 t637 t640 t643 _ ?side1 ?side2 ?side3 ?side4 ?side5 ?side6 A12.out).mono ?_
   (case side1 => exact ca (Kd.R_reads' HO625.out).2.2)
   (case side2 => exact (Kd.R_reads' HO625.out).2.1)
   (case side3 => exact ca (Kd.R_reads' HO628.out).2.2)
   (case side4 => exact (Kd.R_reads' HO628.out).2.1)
   (case side5 => exact ca (Kd.R_reads' HO631.out).2.2)
   (case side6 => exact (Kd.R_reads' HO631.out).2.1)
   rintro e w28 ⟨v635, v638, v641, rfl, ho0, ho1, ho2, hb⟩
   refine ⟨_, rfl, ?_⟩
   have HO636 := Aside0.mk (Kd.R_lower (Kd.R_new' (Kd.R_new' ho0 (rl_ HO625)) (rl_ HO628)) (below_size (hB HB)))
   have HO639 := Aside0.mk (Kd.R_lower (Kd.R_new' (Kd.R_new' ho1 (rl_ HO625)) (rl_ HO628)) (below_size (hB HB)))
   have HO642 := Aside0.mk (Kd.R_lower (Kd.R_new' ho2 (rl_ HO631)) (below_size (hB HB)))
   replace HO625 := rt2_ HO625 hb ho0 ho1
   replace HO628 := rt2_ HO628 hb ho0 ho1
   replace HO631 := re_ HO631 ho2 hb
   replace BK620 := bb_ BK620 hb
   replace BK621 := bb_ BK621 hb
   replace HB := bst_ HB hb
   clear hb ho0 ho1 ho2
   refine hK.out _ _ ⟨bc_ BK620 0, bc_ BK620 1, bc_ BK620 2, bc_ BK621 0, bc_ BK621 1⟩ (fun hHeld => ?_)
   clear hK K
   refine nm_ 26 ?_
   refine pu_ 5 21 (bs 11 63) HT_ ?_
   refine pu_ 6 27 (bs 11 127) HT_ ?_
   refine pu_ 7 28 (bs 11 255) HT_ ?_
   refine one_ (i := 8) (N := some 6) (bs 11 511) rfl rfl (one_of HT_.out (by kernel_rfl)) (by decide) (fun K hK => ?_)
   refine box_step ?hg (N := 6) ?hd (cs := #[.slice none 0 0, .slice none 0 0, .slice none 0 0]) (t := 47) ?hr ?_; (case hd => rfl); (case hg => rfl); (case hr => first | (go_simp; done) | (go_simp; rfl))
   intro gb644 hg w29 hbox hb
   have BK644 := Aside0.mk (hbox)
   have GW644 := gw_ hg HB
   have GE644 := gw_ hg HB
   have NB620_644 := nl_ hg BK620
   have NB644_620 := ng_ hg BK620
   have NB621_644 := nl_ hg BK621
   have NB644_621 := ng_ hg BK621
   replace HO625 := rb_ HO625 hb
   replace HO628 := rb_ HO628 hb
   replace HO631 := rb_ HO631 hb
   replace HO636 := rb_ HO636 hb
   replace HO639 := rb_ HO639 hb
   replace HO642 := rb_ HO642 hb
   replace BK620 := bb_ BK620 hb
   replace BK621 := bb_ BK621 hb
   replace HB := bst_ HB hb
   clear hb hbox hg
   refine hK.out _ _ ⟨bc_ BK620 0, bc_ BK620 1, bc_ BK620 2, bc_ BK621 0, bc_ BK621 1⟩ (fun hHeld => ?_)
   clear hK K
   refine nm_ 6 ?_
   exact norm_ (by simp only [putAll, Act.put, List.setIfInBounds_toArray, List.set_cons_zero, List.set_cons_succ]) (hCont (.slice Ao25 t623.length co25, .slice Ao26 t626.length co26, .slice Ao27 t629.length co27, v635, v638, v641, gb644) _ ⟨hHeld, (rm_ HO625 (fun _ hk => ⟨hk.1.1, ⟨hk.1.2, hk.2⟩⟩)).out, (rm_ HO628 (fun _ hk => ⟨hk.1.1, ⟨hk.1.2, hk.2⟩⟩)).out, (rm_ HO631 (fun _ hk => hk.2)).out, (rm_ HO636 (fun _ hk => ⟨hk.1.2, ⟨hk.2, hk.1.1⟩⟩)).out, (rm_ HO639 (fun _ hk => ⟨hk.1.2, ⟨hk.2, hk.1.1⟩⟩)).out, (rm_ HO642 (fun _ hk => hk.2)).out, (ba BK620.out), (ba BK621.out), (ba BK644.out), GW644.out, GE644.out, NB620_644.out, NB644_620.out, NB621_644.out, NB644_621.out, (hB HB)⟩)
  skip
  refine box_step ?hg (N := 6) ?hd (cs := #[.slice none 0 0, .slice none 0 0, .slice none 0 0]) (t := 47) ?hr ?_; (case hd => rfl); (case hg => rfl); (case hr => first | (go_simp; done) | (go_simp; rfl))
  intro gb644 hg w25 hbox hb
  have BK644 := Aside0.mk (hbox)
  have GW644 := gw_ hg HB
  have GE644 := gw_ hg HB
  have NB620_644 := nl_ hg BK620
  have NB644_620 := ng_ hg BK620
  have NB621_644 := nl_ hg BK621
  have NB644_621 := ng_ hg BK621
  replace HO625 := rb_ HO625 hb
  replace HO628 := rb_ HO628 hb
  replace HO631 := rb_ HO631 hb
  replace BK620 := bb_ BK620 hb
  replace BK621 := bb_ BK621 hb
  replace HB := bst_ HB hb
  clear hb hbox hg
  obtain ⟨Ao26, co26, eo26⟩ := Kd.R_slice HO625.out
  (first | subst eo26 | (injection eo26 with f1_ f2_ f3_; have f4_ := f1_.symm; have f5_ := f3_.symm; clear f1_ f2_ f3_; subst f4_; subst f5_))
  obtain ⟨Ao27, co27, eo27⟩ := Kd.R_slice HO628.out
  (first | subst eo27 | (injection eo27 with f1_ f2_ f3_; have f4_ := f1_.symm; have f5_ := f3_.symm; clear f1_ f2_ f3_; subst f4_; subst f5_))
  obtain ⟨Ao28, co28, eo28⟩ := Kd.R_slice HO631.out
  (first | subst eo28 | (injection eo28 with f1_ f2_ f3_; have f4_ := f1_.symm; have f5_ := f3_.symm; clear f1_ f2_ f3_; subst f4_; subst f5_))
  refine hK.out _ _ ⟨bc_ BK620 0, bc_ BK620 1, bc_ BK620 2, bc_ BK621 0, bc_ BK621 1⟩ (fun hHeld => ?_)
  clear hK K
  refine nm_ 6 ?_
  refine one_ (i := 4) (N := some 26) (bs 11 287) rfl rfl (one_of HT_.out (by kernel_rfl)) (by decide) (fun K hK => ?_)
  refine goes_ Try.func30 (by kernel_rfl) rfl #[.agg #[.slice Ao26 t623.length co26, .slice Ao27 t626.length co27, .slice Ao28 t629.length co28], .agg #[.int .i64 t632, .int .i64 t633]] (by rfl) rfl rfl tm_ ?_
  with_reducible refine (spec_StepPair.calls k _ _ t623 _ _ t626 _ _ t629 t632 t633 t634 t637 t640 t643 _ ?side1 ?side2 ?side3 ?side4 ?side5 ?side6 A12.out).mono ?_
  (case side1 => exact ca (Kd.R_reads' HO625.out).2.2)
  (case side2 => exact (Kd.R_reads' HO625.out).2.1)
  (case side3 => exact ca (Kd.R_reads' HO628.out).2.2)
  (case side4 => exact (Kd.R_reads' HO628.out).2.1)
  (case side5 => exact ca (Kd.R_reads' HO631.out).2.2)
  (case side6 => exact (Kd.R_reads' HO631.out).2.1)
  rintro e w29 ⟨v635, v638, v641, rfl, ho0, ho1, ho2, hb⟩
  refine ⟨_, rfl, ?_⟩
  have HO636 := Aside0.mk (Kd.R_lower (Kd.R_new' (Kd.R_new' ho0 (rl_ HO625)) (rl_ HO628)) (below_size (hB HB)))
  have HO639 := Aside0.mk (Kd.R_lower (Kd.R_new' (Kd.R_new' ho1 (rl_ HO625)) (rl_ HO628)) (below_size (hB HB)))
  have HO642 := Aside0.mk (Kd.R_lower (Kd.R_new' ho2 (rl_ HO631)) (below_size (hB HB)))
  replace HO625 := rt2_ HO625 hb ho0 ho1
  replace HO628 := rt2_ HO628 hb ho0 ho1
  replace HO631 := re_ HO631 ho2 hb
  replace BK620 := bb_ BK620 hb
  replace BK621 := bb_ BK621 hb
  replace BK644 := bb_ BK644 hb
  replace HB := bst_ HB hb
  clear hb ho0 ho1 ho2
  refine hK.out _ _ ⟨bc_ BK620 0, bc_ BK620 1, bc_ BK620 2, bc_ BK621 0, bc_ BK621 1⟩ (fun hHeld => ?_)
  clear hK K
  refine nm_ 26 ?_
  refine pu_ 5 21 (bs 11 319) HT_ ?_
  refine pu_ 6 27 (bs 11 383) HT_ ?_
  refine pu_ 7 28 (bs 11 511) HT_ ?_
  exact norm_ (by simp only [putAll, Act.put, List.setIfInBounds_toArray, List.set_cons_zero, List.set_cons_succ]) (hCont (.slice Ao26 t623.length co26, .slice Ao27 t626.length co27, .slice Ao28 t629.length co28, v635, v638, v641, gb644) _ ⟨hHeld, (rm_ HO625 (fun _ hk => ⟨hk.1.1, ⟨hk.1.2, hk.2⟩⟩)).out, (rm_ HO628 (fun _ hk => ⟨hk.1.1, ⟨hk.1.2, hk.2⟩⟩)).out, (rm_ HO631 (fun _ hk => hk.2)).out, (rm_ HO636 (fun _ hk => ⟨hk.1.2, ⟨hk.2, hk.1.1⟩⟩)).out, (rm_ HO639 (fun _ hk => ⟨hk.1.2, ⟨hk.2, hk.1.1⟩⟩)).out, (rm_ HO642 (fun _ hk => hk.2)).out, (ba BK620.out), (ba BK621.out), (ba BK644.out), GW644.out, GE644.out, NB620_644.out, NB644_620.out, NB621_644.out, NB644_621.out, (hB HB)⟩)
 rintro ⟨v624, v627, v630, v635, v638, v641, gb644⟩ w30 ⟨hS_, h0_, h1_, h2_, h3_, h4_, h5_, h6_, h7_, h8_, h9_, h10_, h11_, h12_, h13_, h14_, h15_⟩
 try dsimp only at h0_ h1_ h2_ h3_ h4_ h5_ h6_ h7_ h8_ h9_ h10_ h11_ h12_ h13_ h14_ h15_
 have HO625 := Aside0.mk h0_
 have HO628 := Aside0.mk h1_
 have HO631 := Aside0.mk h2_
 have HO636 := Aside0.mk h3_
 have HO639 := Aside0.mk h4_
 have HO642 := Aside0.mk h5_
 have BK644 := Aside0.mk h8_
 have GW644 := Aside0.mk h9_
 have GE644 := Aside0.mk h10_
 have NB620_644 := Aside0.mk h11_
 have NB644_620 := Aside0.mk h12_
 have NB621_644 := Aside0.mk h13_
 have NB644_621 := Aside0.mk h14_
 replace BK620 := Aside0.mk h6_
 replace BK621 := Aside0.mk h7_
 replace HB := Aside0.mk h15_
 clear h0_ h1_ h2_ h3_ h4_ h5_ h6_ h7_ h8_ h9_ h10_ h11_ h12_ h13_ h14_ h15_
 have hHeld : w30.cell? ⟨gb620, 0, none⟩ = some (.slice A0_0 l0_0.length c0_0) ∧ w30.cell? ⟨gb620, 1, none⟩ = some (.slice A0_1 l0_1.length c0_1) ∧ w30.cell? ⟨gb620, 2, none⟩ = some (.slice A0_2 l0_2.length c0_2) ∧ w30.cell? ⟨gb621, 0, none⟩ = some (.int .i64 a1_0) ∧ w30.cell? ⟨gb621, 1, none⟩ = some (.int .i64 a1_1) := hS_
 obtain ⟨Ao31, co31, eo31⟩ := Kd.R_slice HO636.out
 (first | subst eo31 | (injection eo31 with f1_ f2_ f3_; have f4_ := f1_.symm; have f5_ := f3_.symm; clear f1_ f2_ f3_; subst f4_; subst f5_))
 obtain ⟨Ao33, co33, eo33⟩ := Kd.R_slice HO639.out
 (first | subst eo33 | (injection eo33 with f1_ f2_ f3_; have f4_ := f1_.symm; have f5_ := f3_.symm; clear f1_ f2_ f3_; subst f4_; subst f5_))
 obtain ⟨Ao35, co35, eo35⟩ := Kd.R_slice HO642.out
 (first | subst eo35 | (injection eo35 with f1_ f2_ f3_; have f4_ := f1_.symm; have f5_ := f3_.symm; clear f1_ f2_ f3_; subst f4_; subst f5_))
 refine norm_ (a' := ?_) ?_ ?_
 rotate_left
 ·simp only [putAll, Act.put, List.setIfInBounds_toArray, List.set_cons_zero, List.set_cons_succ]
  rfl
 refine one_ (i := 9) (N := none) (bs 11 1023) rfl rfl (one_of HT_.out (by kernel_rfl)) (by decide) (fun K hK => ?_)
 have hs32 : w30.cell? ⟨gb644, 0, none⟩ = some (.slice none 0 0) := bc_ BK644 0
 have hfs32 := blk_frozen BK644.out 0
 have hns32_0 := NB620_644.out
 have hns32_1 := NB621_644.out
 have hms32_0 := NB644_620.out
 have hms32_1 := NB644_621.out
 have hs34 : w30.cell? ⟨gb644, 1, none⟩ = some (.slice none 0 0) := bc_ BK644 1
 have hfs34 := blk_frozen BK644.out 1
 have hns34_0 := NB620_644.out
 have hns34_1 := NB621_644.out
 have hms34_0 := NB644_620.out
 have hms34_1 := NB644_621.out
 have hs36 : w30.cell? ⟨gb644, 2, none⟩ = some (.slice none 0 0) := bc_ BK644 2
 have hfs36 := blk_frozen BK644.out 2
 have hns36_0 := NB620_644.out
 have hns36_1 := NB621_644.out
 have hms36_0 := NB644_620.out
 have hms36_1 := NB644_621.out
 refine skip_ (w1 := ?_) (by rfl) rfl ?_ ?_
 rotate_left
 ·go_simp
  rfl
 refine hK.out _ _ ⟨((cell_far (p := ⟨gb644, _, none⟩) NB620_644.out _).trans (((cell_far (p := ⟨gb644, _, none⟩) NB620_644.out _).trans (((cell_far (p := ⟨gb644, _, none⟩) NB620_644.out _).trans (hHeld.1)))))), ((cell_far (p := ⟨gb644, _, none⟩) NB620_644.out _).trans (((cell_far (p := ⟨gb644, _, none⟩) NB620_644.out _).trans (((cell_far (p := ⟨gb644, _, none⟩) NB620_644.out _).trans (hHeld.2.1)))))), ((cell_far (p := ⟨gb644, _, none⟩) NB620_644.out _).trans (((cell_far (p := ⟨gb644, _, none⟩) NB620_644.out _).trans (((cell_far (p := ⟨gb644, _, none⟩) NB620_644.out _).trans (hHeld.2.2.1)))))), ((cell_far (p := ⟨gb644, _, none⟩) NB621_644.out _).trans (((cell_far (p := ⟨gb644, _, none⟩) NB621_644.out _).trans (((cell_far (p := ⟨gb644, _, none⟩) NB621_644.out _).trans (hHeld.2.2.2.1)))))), ((cell_far (p := ⟨gb644, _, none⟩) NB621_644.out _).trans (((cell_far (p := ⟨gb644, _, none⟩) NB621_644.out _).trans (((cell_far (p := ⟨gb644, _, none⟩) NB621_644.out _).trans (hHeld.2.2.2.2))))))⟩ (fun hHeld => ?_)
 clear hK K
 refine pu_ 10 7 (bs 11 2047) HT_ ?_
 refine done_ (done_of HT_.out (by kernel_rfl)) ?_
 have hnb37 := NB620_644.out
 have hnc37 := NB644_620.out
 have hcz38_0 : w30.cell? ⟨gb620, 0, none⟩ = some (.slice A0_0 l0_0.length c0_0) := bc_ BK620 0
 have hcz38_1 : w30.cell? ⟨gb620, 1, none⟩ = some (.slice A0_1 l0_1.length c0_1) := bc_ BK620 1
 have hcz38_2 : w30.cell? ⟨gb620, 2, none⟩ = some (.slice A0_2 l0_2.length c0_2) := bc_ BK620 2
 have hfz38_0 := blk_frozen BK620.out 0
 have hfz38_1 := blk_frozen BK620.out 1
 have hfz38_2 := blk_frozen BK620.out 2
 try go_wp2_with (first | ((with_reducible refine gate_callee (f := 31) rfl ?_); refine goesL_ (some 30) rfl rfl Try.func31 (by kernel_rfl) rfl #[.agg #[.slice A0_0 l0_0.length c0_0, .slice A0_1 l0_1.length c0_1, .slice A0_2 l0_2.length c0_2]] rfl tm_ ?_; (with_reducible refine (laws_toPair.calls k _ _ l0_0 _ _ l0_1 _ _ l0_2 t645 t648 t651 _ ?side1 ?side2 ?side3 ?side4 ?side5 ?side6 A13.out).mono ?_); (case side1 => exact Kd.C_below HR0_0.out (hB HB)); (case side2 => exact HC0_0.out); (case side3 => exact Kd.C_below HR0_1.out (hB HB)); (case side4 => exact HC0_1.out); (case side5 => exact Kd.C_below HR0_2.out (hB HB)); (case side6 => exact HC0_2.out); rintro e w39 ⟨v646, v649, v652, rfl, ho0, ho1, ho2, hb⟩; refine ⟨_, rfl, ?_⟩; have HO647 := Aside0.mk (Kd.R_lower (Kd.R_new' (Kd.R_new' (Kd.R_new' (Kd.R_new' ho0 (Kd.R_lt (ra (fm3_ HO625 BK644)))) (Kd.R_lt (ra (fm3_ HO628 BK644)))) (Kd.R_lt (ra (fm3_ HO636 BK644)))) (Kd.R_lt (ra (fm3_ HO639 BK644)))) (below_size (hB HB))); have HO650 := Aside0.mk (Kd.R_lower (Kd.R_new' (Kd.R_new' (Kd.R_new' (Kd.R_new' ho1 (Kd.R_lt (ra (fm3_ HO625 BK644)))) (Kd.R_lt (ra (fm3_ HO628 BK644)))) (Kd.R_lt (ra (fm3_ HO636 BK644)))) (Kd.R_lt (ra (fm3_ HO639 BK644)))) (below_size (hB HB))); have HO653 := Aside0.mk (Kd.R_lower (Kd.R_new' (Kd.R_new' ho2 (Kd.R_lt (ra (fm3_ HO631 BK644)))) (Kd.R_lt (ra (fm3_ HO642 BK644)))) (below_size (hB HB))); replace HO625 := Aside0.mk (Kd.R_mono (Kd.R_told (Kd.R_told (Kd.R_old (ra (fm3_ HO625 BK644)) hb) (Kd.R_base ho0)) (Kd.R_base ho1)) (fun _ h_ => h_.1)); replace HO628 := Aside0.mk (Kd.R_mono (Kd.R_told (Kd.R_told (Kd.R_old (ra (fm3_ HO628 BK644)) hb) (Kd.R_base ho0)) (Kd.R_base ho1)) (fun _ h_ => h_.1)); replace HO631 := Aside0.mk (Kd.R_elder' (ra (fm3_ HO631 BK644)) (Kd.R_base ho2) hb); replace HO636 := Aside0.mk (Kd.R_mono (Kd.R_told (Kd.R_told (Kd.R_old (ra (fm3_ HO636 BK644)) hb) (Kd.R_base ho0)) (Kd.R_base ho1)) (fun _ h_ => h_.1)); replace HO639 := Aside0.mk (Kd.R_mono (Kd.R_told (Kd.R_told (Kd.R_old (ra (fm3_ HO639 BK644)) hb) (Kd.R_base ho0)) (Kd.R_base ho1)) (fun _ h_ => h_.1)); replace HO642 := Aside0.mk (Kd.R_elder' (ra (fm3_ HO642 BK644)) (Kd.R_base ho2) hb); replace BK620 := Aside0.mk (blk_below (bx BK620) hb); replace BK621 := Aside0.mk (blk_below (bx BK621) hb); replace BK644 := Aside0.mk (blk_below (g := gb644) (o := .cells #[.slice Ao31 t634.length co31, .slice Ao33 t637.length co33, .slice Ao35 t640.length co35] 47 (0, 0)) (by (with_reducible repeat (first | refine blk_drewN ?_ _ | refine blk_drew ?_ | refine blk_alloc ?_ _)); refine blk_put (cs := #[.slice Ao31 t634.length co31, .slice Ao33 t637.length co33, .slice none 0 0]) ?_ 2 _ rfl; (with_reducible repeat (first | refine blk_drewN ?_ _ | refine blk_drew ?_ | refine blk_alloc ?_ _)); refine blk_put (cs := #[.slice Ao31 t634.length co31, .slice none 0 0, .slice none 0 0]) ?_ 1 _ rfl; (with_reducible repeat (first | refine blk_drewN ?_ _ | refine blk_drew ?_ | refine blk_alloc ?_ _)); refine blk_put (cs := #[.slice none 0 0, .slice none 0 0, .slice none 0 0]) ?_ 0 _ rfl; (with_reducible repeat (first | refine blk_drewN ?_ _ | refine blk_drew ?_ | refine blk_alloc ?_ _)); exact BK644.out) hb); replace HB := bst_ HB hb; clear hb ho0 ho1 ho2) | ((with_reducible refine gate_dst (N := 8) rfl ?_); refine box_event ?hg (N := 8) ?hd (cs := #[.slice none 0 0, .slice none 0 0, .slice none 0 0]) (t := 47) ?hr ?_; (case hd => rfl); (case hg => rfl); (case hr => first | (go_simp; done) | (go_simp; rfl)); intro gb654 hg w40 hbox hb; have BK654 := Aside0.mk (hbox); have GW654 := gw_ hg HB; have GE654 := gw_ hg HB; have NB620_654 := nl_ hg BK620; have NB654_620 := ng_ hg BK620; have NB621_654 := nl_ hg BK621; have NB654_621 := ng_ hg BK621; have NB644_654 := nl_ hg BK644; have NB654_644 := ng_ hg BK644; replace HO625 := rb_ HO625 hb; replace HO628 := rb_ HO628 hb; replace HO631 := rb_ HO631 hb; replace HO636 := rb_ HO636 hb; replace HO639 := rb_ HO639 hb; replace HO642 := rb_ HO642 hb; replace HO647 := rb_ HO647 hb; replace HO650 := rb_ HO650 hb; replace HO653 := rb_ HO653 hb; replace BK620 := bb_ BK620 hb; replace BK621 := bb_ BK621 hb; replace BK644 := bb_ BK644 hb; replace HB := bst_ HB hb; clear hb hbox hg; obtain ⟨Ao41, co41, eo41⟩ := Kd.R_slice HO647.out; subst eo41; have hnb42 := NB654_620.out; have hnc42 := NB620_654.out; have hnb43 := NB654_621.out; have hnc43 := NB621_654.out; have hnb44 := NB654_644.out; have hnc44 := NB644_654.out; have hcz45_0 : w40.cell? ⟨gb654, 0, none⟩ = some (.slice none 0 0) := bc_ BK654 0; have hcz45_1 : w40.cell? ⟨gb654, 1, none⟩ = some (.slice none 0 0) := bc_ BK654 1; have hcz45_2 : w40.cell? ⟨gb654, 2, none⟩ = some (.slice none 0 0) := bc_ BK654 2; have hfz45_0 := blk_frozen BK654.out 0; have hfz45_1 := blk_frozen BK654.out 1; have hfz45_2 := blk_frozen BK654.out 2; obtain ⟨Ao46, co46, eo46⟩ := Kd.R_slice HO650.out; subst eo46; obtain ⟨Ao47, co47, eo47⟩ := Kd.R_slice HO653.out; subst eo47))
 have n0_ : Aside0 (Kd.R (Kd.int .i64) 3 (((w40.setCell ⟨gb654, 0, none⟩ (.slice Ao41 t645.length co41)).setCell ⟨gb654, 1, none⟩ (.slice Ao46 t648.length co46)).setCell ⟨gb654, 2, none⟩ (.slice Ao47 t651.length co47)) w.heap.size (fun k_ => no_ v627 k_ ∧ no_ (.slice Ao31 t634.length co31) k_ ∧ no_ (.slice Ao33 t637.length co33) k_ ∧ no_ (.slice Ao41 t645.length co41) k_ ∧ no_ (.slice Ao46 t648.length co46) k_) v624 t623) := ⟨by (with_reducible repeat (first | apply Kd.R_alloc | apply Kd.R_drewN | apply Kd.R_drew)); exact Kd.R_mono (fs3_ HO625.out BK654.out) (fun _ hk => ⟨hk.1.1.1.1, ⟨hk.1.1.1.2.1, ⟨hk.1.1.1.2.2, ⟨hk.1.1.2, hk.1.2⟩⟩⟩⟩)⟩
 have n1_ : Aside0 (Kd.R (Kd.int .i64) 3 (((w40.setCell ⟨gb654, 0, none⟩ (.slice Ao41 t645.length co41)).setCell ⟨gb654, 1, none⟩ (.slice Ao46 t648.length co46)).setCell ⟨gb654, 2, none⟩ (.slice Ao47 t651.length co47)) w.heap.size (fun k_ => no_ v624 k_ ∧ no_ (.slice Ao31 t634.length co31) k_ ∧ no_ (.slice Ao33 t637.length co33) k_ ∧ no_ (.slice Ao41 t645.length co41) k_ ∧ no_ (.slice Ao46 t648.length co46) k_) v627 t626) := ⟨by (with_reducible repeat (first | apply Kd.R_alloc | apply Kd.R_drewN | apply Kd.R_drew)); exact Kd.R_mono (fs3_ HO628.out BK654.out) (fun _ hk => ⟨hk.1.1.1.1, ⟨hk.1.1.1.2.1, ⟨hk.1.1.1.2.2, ⟨hk.1.1.2, hk.1.2⟩⟩⟩⟩)⟩
 have n2_ : Aside0 (Kd.R k127 127 (((w40.setCell ⟨gb654, 0, none⟩ (.slice Ao41 t645.length co41)).setCell ⟨gb654, 1, none⟩ (.slice Ao46 t648.length co46)).setCell ⟨gb654, 2, none⟩ (.slice Ao47 t651.length co47)) w.heap.size (fun k_ => no_ (.slice Ao35 t640.length co35) k_ ∧ no_ (.slice Ao47 t651.length co47) k_) v630 t629) := ⟨by (with_reducible repeat (first | apply Kd.R_alloc | apply Kd.R_drewN | apply Kd.R_drew)); exact Kd.R_mono (fs3_ HO631.out BK654.out) (fun _ hk => hk.1)⟩
 have n3_ : Aside0 (Kd.R (Kd.int .i64) 3 (((w40.setCell ⟨gb654, 0, none⟩ (.slice Ao41 t645.length co41)).setCell ⟨gb654, 1, none⟩ (.slice Ao46 t648.length co46)).setCell ⟨gb654, 2, none⟩ (.slice Ao47 t651.length co47)) w.heap.size (fun k_ => no_ v624 k_ ∧ no_ v627 k_ ∧ no_ (.slice Ao33 t637.length co33) k_ ∧ no_ (.slice Ao41 t645.length co41) k_ ∧ no_ (.slice Ao46 t648.length co46) k_) (.slice Ao31 t634.length co31) t634) := ⟨by (with_reducible repeat (first | apply Kd.R_alloc | apply Kd.R_drewN | apply Kd.R_drew)); exact Kd.R_mono (fs3_ HO636.out BK654.out) (fun _ hk => ⟨hk.1.1.1.1, ⟨hk.1.1.1.2.1, ⟨hk.1.1.1.2.2, ⟨hk.1.1.2, hk.1.2⟩⟩⟩⟩)⟩
 have n4_ : Aside0 (Kd.R (Kd.int .i64) 3 (((w40.setCell ⟨gb654, 0, none⟩ (.slice Ao41 t645.length co41)).setCell ⟨gb654, 1, none⟩ (.slice Ao46 t648.length co46)).setCell ⟨gb654, 2, none⟩ (.slice Ao47 t651.length co47)) w.heap.size (fun k_ => no_ v624 k_ ∧ no_ v627 k_ ∧ no_ (.slice Ao31 t634.length co31) k_ ∧ no_ (.slice Ao41 t645.length co41) k_ ∧ no_ (.slice Ao46 t648.length co46) k_) (.slice Ao33 t637.length co33) t637) := ⟨by (with_reducible repeat (first | apply Kd.R_alloc | apply Kd.R_drewN | apply Kd.R_drew)); exact Kd.R_mono (fs3_ HO639.out BK654.out) (fun _ hk => ⟨hk.1.1.1.1, ⟨hk.1.1.1.2.1, ⟨hk.1.1.1.2.2, ⟨hk.1.1.2, hk.1.2⟩⟩⟩⟩)⟩
 have n5_ : Aside0 (Kd.R k127 127 (((w40.setCell ⟨gb654, 0, none⟩ (.slice Ao41 t645.length co41)).setCell ⟨gb654, 1, none⟩ (.slice Ao46 t648.length co46)).setCell ⟨gb654, 2, none⟩ (.slice Ao47 t651.length co47)) w.heap.size (fun k_ => no_ v630 k_ ∧ no_ (.slice Ao47 t651.length co47) k_) (.slice Ao35 t640.length co35) t640) := ⟨by (with_reducible repeat (first | apply Kd.R_alloc | apply Kd.R_drewN | apply Kd.R_drew)); exact Kd.R_mono (fs3_ HO642.out BK654.out) (fun _ hk => hk.1)⟩
 have n6_ : Aside0 (Kd.R (Kd.int .i64) 3 (((w40.setCell ⟨gb654, 0, none⟩ (.slice Ao41 t645.length co41)).setCell ⟨gb654, 1, none⟩ (.slice Ao46 t648.length co46)).setCell ⟨gb654, 2, none⟩ (.slice Ao47 t651.length co47)) w.heap.size (fun k_ => no_ v624 k_ ∧ no_ v627 k_ ∧ no_ (.slice Ao31 t634.length co31) k_ ∧ no_ (.slice Ao33 t637.length co33) k_ ∧ no_ (.slice Ao46 t648.length co46) k_) (.slice Ao41 t645.length co41) t645) := ⟨by (with_reducible repeat (first | apply Kd.R_alloc | apply Kd.R_drewN | apply Kd.R_drew)); exact Kd.R_mono (fs3_ HO647.out BK654.out) (fun _ hk => ⟨hk.1.1.1.1.2, ⟨hk.1.1.1.2, ⟨hk.1.1.2, ⟨hk.1.2, hk.1.1.1.1.1⟩⟩⟩⟩)⟩
 have n7_ : Aside0 (Kd.R (Kd.int .i64) 3 (((w40.setCell ⟨gb654, 0, none⟩ (.slice Ao41 t645.length co41)).setCell ⟨gb654, 1, none⟩ (.slice Ao46 t648.length co46)).setCell ⟨gb654, 2, none⟩ (.slice Ao47 t651.length co47)) w.heap.size (fun k_ => no_ v624 k_ ∧ no_ v627 k_ ∧ no_ (.slice Ao31 t634.length co31) k_ ∧ no_ (.slice Ao33 t637.length co33) k_ ∧ no_ (.slice Ao41 t645.length co41) k_) (.slice Ao46 t648.length co46) t648) := ⟨by (with_reducible repeat (first | apply Kd.R_alloc | apply Kd.R_drewN | apply Kd.R_drew)); exact Kd.R_mono (fs3_ HO650.out BK654.out) (fun _ hk => ⟨hk.1.1.1.1.2, ⟨hk.1.1.1.2, ⟨hk.1.1.2, ⟨hk.1.2, hk.1.1.1.1.1⟩⟩⟩⟩)⟩
 have n8_ : Aside0 (Kd.R k127 127 (((w40.setCell ⟨gb654, 0, none⟩ (.slice Ao41 t645.length co41)).setCell ⟨gb654, 1, none⟩ (.slice Ao46 t648.length co46)).setCell ⟨gb654, 2, none⟩ (.slice Ao47 t651.length co47)) w.heap.size (fun k_ => no_ v630 k_ ∧ no_ (.slice Ao35 t640.length co35) k_) (.slice Ao47 t651.length co47) t651) := ⟨by (with_reducible repeat (first | apply Kd.R_alloc | apply Kd.R_drewN | apply Kd.R_drew)); exact Kd.R_mono (fs3_ HO653.out BK654.out) (fun _ hk => ⟨hk.1.1.2, hk.1.2⟩)⟩
 have n9_ : Aside0 ((((w40.setCell ⟨gb654, 0, none⟩ (.slice Ao41 t645.length co41)).setCell ⟨gb654, 1, none⟩ (.slice Ao46 t648.length co46)).setCell ⟨gb654, 2, none⟩ (.slice Ao47 t651.length co47)).heap[gb620]? = some (.cells #[.slice A0_0 l0_0.length c0_0, .slice A0_1 l0_1.length c0_1, .slice A0_2 l0_2.length c0_2] 41 (0, 0))) := ⟨by (with_reducible repeat (first | refine blk_drewN ?_ _ | refine blk_drew ?_ | refine blk_alloc ?_ _)); refine blk_far ?_ NB620_654.out _; (with_reducible repeat (first | refine blk_drewN ?_ _ | refine blk_drew ?_ | refine blk_alloc ?_ _)); refine blk_far ?_ NB620_654.out _; (with_reducible repeat (first | refine blk_drewN ?_ _ | refine blk_drew ?_ | refine blk_alloc ?_ _)); refine blk_far ?_ NB620_654.out _; (with_reducible repeat (first | refine blk_drewN ?_ _ | refine blk_drew ?_ | refine blk_alloc ?_ _)); exact BK620.out⟩
 have n10_ : Aside0 ((((w40.setCell ⟨gb654, 0, none⟩ (.slice Ao41 t645.length co41)).setCell ⟨gb654, 1, none⟩ (.slice Ao46 t648.length co46)).setCell ⟨gb654, 2, none⟩ (.slice Ao47 t651.length co47)).heap[gb621]? = some (.cells #[.int .i64 a1_0, .int .i64 a1_1] 43 (0, 0))) := ⟨by (with_reducible repeat (first | refine blk_drewN ?_ _ | refine blk_drew ?_ | refine blk_alloc ?_ _)); refine blk_far ?_ NB621_654.out _; (with_reducible repeat (first | refine blk_drewN ?_ _ | refine blk_drew ?_ | refine blk_alloc ?_ _)); refine blk_far ?_ NB621_654.out _; (with_reducible repeat (first | refine blk_drewN ?_ _ | refine blk_drew ?_ | refine blk_alloc ?_ _)); refine blk_far ?_ NB621_654.out _; (with_reducible repeat (first | refine blk_drewN ?_ _ | refine blk_drew ?_ | refine blk_alloc ?_ _)); exact BK621.out⟩
 have n11_ : Aside0 ((((w40.setCell ⟨gb654, 0, none⟩ (.slice Ao41 t645.length co41)).setCell ⟨gb654, 1, none⟩ (.slice Ao46 t648.length co46)).setCell ⟨gb654, 2, none⟩ (.slice Ao47 t651.length co47)).heap[gb644]? = some (.cells #[.slice Ao31 t634.length co31, .slice Ao33 t637.length co33, .slice Ao35 t640.length co35] 47 (0, 0))) := ⟨by (with_reducible repeat (first | refine blk_drewN ?_ _ | refine blk_drew ?_ | refine blk_alloc ?_ _)); refine blk_far ?_ NB644_654.out _; (with_reducible repeat (first | refine blk_drewN ?_ _ | refine blk_drew ?_ | refine blk_alloc ?_ _)); refine blk_far ?_ NB644_654.out _; (with_reducible repeat (first | refine blk_drewN ?_ _ | refine blk_drew ?_ | refine blk_alloc ?_ _)); refine blk_far ?_ NB644_654.out _; (with_reducible repeat (first | refine blk_drewN ?_ _ | refine blk_drew ?_ | refine blk_alloc ?_ _)); exact BK644.out⟩
 have n12_ : Aside0 ((((w40.setCell ⟨gb654, 0, none⟩ (.slice Ao41 t645.length co41)).setCell ⟨gb654, 1, none⟩ (.slice Ao46 t648.length co46)).setCell ⟨gb654, 2, none⟩ (.slice Ao47 t651.length co47)).heap[gb654]? = some (.cells #[.slice Ao41 t645.length co41, .slice Ao46 t648.length co46, .slice Ao47 t651.length co47] 47 (0, 0))) := ⟨by (with_reducible repeat (first | refine blk_drewN ?_ _ | refine blk_drew ?_ | refine blk_alloc ?_ _)); refine blk_put (cs := #[.slice Ao41 t645.length co41, .slice Ao46 t648.length co46, .slice none 0 0]) ?_ 2 _ rfl; (with_reducible repeat (first | refine blk_drewN ?_ _ | refine blk_drew ?_ | refine blk_alloc ?_ _)); refine blk_put (cs := #[.slice Ao41 t645.length co41, .slice none 0 0, .slice none 0 0]) ?_ 1 _ rfl; (with_reducible repeat (first | refine blk_drewN ?_ _ | refine blk_drew ?_ | refine blk_alloc ?_ _)); refine blk_put (cs := #[.slice none 0 0, .slice none 0 0, .slice none 0 0]) ?_ 0 _ rfl; (with_reducible repeat (first | refine blk_drewN ?_ _ | refine blk_drew ?_ | refine blk_alloc ?_ _)); exact BK654.out⟩
 have n13_ : Aside0 (Below w.heap.size w (((w40.setCell ⟨gb654, 0, none⟩ (.slice Ao41 t645.length co41)).setCell ⟨gb654, 1, none⟩ (.slice Ao46 t648.length co46)).setCell ⟨gb654, 2, none⟩ (.slice Ao47 t651.length co47))) := ⟨hB HB⟩
 (try clear HO625)
 (try clear HO628)
 (try clear HO631)
 (try clear HO636)
 (try clear HO639)
 (try clear HO642)
 (try clear HO647)
 (try clear HO650)
 (try clear HO653)
 (try clear BK620)
 (try clear BK621)
 (try clear BK644)
 (try clear BK654)
 (try clear HB)
 generalize (((w40.setCell ⟨gb654, 0, none⟩ (.slice Ao41 t645.length co41)).setCell ⟨gb654, 1, none⟩ (.slice Ao46 t648.length co46)).setCell ⟨gb654, 2, none⟩ (.slice Ao47 t651.length co47)) = w48 at n0_ n1_ n2_ n3_ n4_ n5_ n6_ n7_ n8_ n9_ n10_ n11_ n12_ n13_ ⊢
 have HO625 := n0_
 have HO628 := n1_
 have HO631 := n2_
 have HO636 := n3_
 have HO639 := n4_
 have HO642 := n5_
 have HO647 := n6_
 have HO650 := n7_
 have HO653 := n8_
 have BK620 := n9_
 have BK621 := n10_
 have BK644 := n11_
 have BK654 := n12_
 have HB := n13_
 clear n0_ n1_ n2_ n3_ n4_ n5_ n6_ n7_ n8_ n9_ n10_ n11_ n12_ n13_
 replace HO625 := rd_ HO625
 replace HO628 := rd_ HO628
 replace HO631 := rd_ HO631
 replace HO636 := rd_ HO636
 replace HO639 := rd_ HO639
 replace HO642 := rd_ HO642
 replace HO647 := rd_ HO647
 replace HO650 := rd_ HO650
 replace HO653 := rd_ HO653
 replace BK620 := bd_ BK620
 replace BK621 := bd_ BK621
 replace BK644 := bd_ BK644
 replace BK654 := bd_ BK654
 replace HB := Aside0.mk (below_drew1 HB.out)
 refine start_ (n := 10) (S := fun w' => w'.cell? ⟨gb654, 0, none⟩ = some (.slice Ao41 t645.length co41) ∧ w'.cell? ⟨gb654, 1, none⟩ = some (.slice Ao46 t648.length co46) ∧ w'.cell? ⟨gb654, 2, none⟩ = some (.slice Ao47 t651.length co47) ∧ w'.cell? ⟨gb621, 0, none⟩ = some (.int .i64 a1_0) ∧ w'.cell? ⟨gb621, 1, none⟩ = some (.int .i64 a1_1)) (ds := []) (bs 10 0) (by kernel_rfl) rfl rfl ⟨bc_ BK654 0, bc_ BK654 1, bc_ BK654 2, bc_ BK621 0, bc_ BK621 1⟩ (fun hHeld => ?_); refine with_tabW laws_FnExactStepPair.tab7 laws_FnExactStepPair.bits7 (fun HT_ HW_ => ?_)
 generalize w48.drew = w49 at HO625 HO628 HO631 HO636 HO639 HO642 HO647 HO650 HO653 BK620 BK621 BK644 BK654 HB hHeld ⊢
 refine tk_ 0 32 (bs 10 1) HT_ HW_ hHeld ?_
 refine tk_ 1 33 (bs 10 3) HT_ HW_ hHeld ?_
 refine join_ (σ := Value × Value × Value × Nat) 2 (bs 10 255) (fun s_ => [(34, .agg #[.int .i64 t655, .int .i64 t656]), (35, .tuple #[.agg #[s_.1, s_.2.1, s_.2.2.1], .bool t666]), (9, .pointer (some ⟨s_.2.2.2, 0, none⟩)), (31, .tuple #[.agg #[s_.1, s_.2.1, s_.2.2.1], .bool t666]), (36, .agg #[s_.1, s_.2.1, s_.2.2.1]), (37, .bool t666)]) (fun s_ w' => (w'.cell? ⟨gb654, 0, none⟩ = some (.slice Ao41 t645.length co41) ∧ w'.cell? ⟨gb654, 1, none⟩ = some (.slice Ao46 t648.length co46) ∧ w'.cell? ⟨gb654, 2, none⟩ = some (.slice Ao47 t651.length co47) ∧ w'.cell? ⟨gb621, 0, none⟩ = some (.int .i64 a1_0) ∧ w'.cell? ⟨gb621, 1, none⟩ = some (.int .i64 a1_1)) ∧ (Kd.R (Kd.int .i64) 3 w' w.heap.size (fun k_ => no_ v627 k_ ∧ no_ (.slice Ao31 t634.length co31) k_ ∧ no_ (.slice Ao33 t637.length co33) k_ ∧ no_ (.slice Ao41 t645.length co41) k_ ∧ no_ (.slice Ao46 t648.length co46) k_ ∧ no_ s_.1 k_ ∧ no_ s_.2.1 k_) v624 t623) ∧ (Kd.R (Kd.int .i64) 3 w' w.heap.size (fun k_ => no_ v624 k_ ∧ no_ (.slice Ao31 t634.length co31) k_ ∧ no_ (.slice Ao33 t637.length co33) k_ ∧ no_ (.slice Ao41 t645.length co41) k_ ∧ no_ (.slice Ao46 t648.length co46) k_ ∧ no_ s_.1 k_ ∧ no_ s_.2.1 k_) v627 t626) ∧ (Kd.R k127 127 w' w.heap.size (fun k_ => no_ (.slice Ao35 t640.length co35) k_ ∧ no_ (.slice Ao47 t651.length co47) k_ ∧ no_ s_.2.2.1 k_) v630 t629) ∧ (Kd.R (Kd.int .i64) 3 w' w.heap.size (fun k_ => no_ v624 k_ ∧ no_ v627 k_ ∧ no_ (.slice Ao33 t637.length co33) k_ ∧ no_ (.slice Ao41 t645.length co41) k_ ∧ no_ (.slice Ao46 t648.length co46) k_ ∧ no_ s_.1 k_ ∧ no_ s_.2.1 k_) (.slice Ao31 t634.length co31) t634) ∧ (Kd.R (Kd.int .i64) 3 w' w.heap.size (fun k_ => no_ v624 k_ ∧ no_ v627 k_ ∧ no_ (.slice Ao31 t634.length co31) k_ ∧ no_ (.slice Ao41 t645.length co41) k_ ∧ no_ (.slice Ao46 t648.length co46) k_ ∧ no_ s_.1 k_ ∧ no_ s_.2.1 k_) (.slice Ao33 t637.length co33) t637) ∧ (Kd.R k127 127 w' w.heap.size (fun k_ => no_ v630 k_ ∧ no_ (.slice Ao47 t651.length co47) k_ ∧ no_ s_.2.2.1 k_) (.slice Ao35 t640.length co35) t640) ∧ (Kd.R (Kd.int .i64) 3 w' w.heap.size (fun k_ => no_ v624 k_ ∧ no_ v627 k_ ∧ no_ (.slice Ao31 t634.length co31) k_ ∧ no_ (.slice Ao33 t637.length co33) k_ ∧ no_ (.slice Ao46 t648.length co46) k_ ∧ no_ s_.1 k_ ∧ no_ s_.2.1 k_) (.slice Ao41 t645.length co41) t645) ∧ (Kd.R (Kd.int .i64) 3 w' w.heap.size (fun k_ => no_ v624 k_ ∧ no_ v627 k_ ∧ no_ (.slice Ao31 t634.length co31) k_ ∧ no_ (.slice Ao33 t637.length co33) k_ ∧ no_ (.slice Ao41 t645.length co41) k_ ∧ no_ s_.1 k_ ∧ no_ s_.2.1 k_) (.slice Ao46 t648.length co46) t648) ∧ (Kd.R k127 127 w' w.heap.size (fun k_ => no_ v630 k_ ∧ no_ (.slice Ao35 t640.length co35) k_ ∧ no_ s_.2.2.1 k_) (.slice Ao47 t651.length co47) t651) ∧ (Kd.R (Kd.int .i64) 3 w' w.heap.size (fun k_ => no_ v624 k_ ∧ no_ v627 k_ ∧ no_ (.slice Ao31 t634.length co31) k_ ∧ no_ (.slice Ao33 t637.length co33) k_ ∧ no_ (.slice Ao41 t645.length co41) k_ ∧ no_ (.slice Ao46 t648.length co46) k_ ∧ no_ s_.2.1 k_) s_.1 t657) ∧ (Kd.R (Kd.int .i64) 3 w' w.heap.size (fun k_ => no_ v624 k_ ∧ no_ v627 k_ ∧ no_ (.slice Ao31 t634.length co31) k_ ∧ no_ (.slice Ao33 t637.length co33) k_ ∧ no_ (.slice Ao41 t645.length co41) k_ ∧ no_ (.slice Ao46 t648.length co46) k_ ∧ no_ s_.1 k_) s_.2.1 t660) ∧ (Kd.R k127 127 w' w.heap.size (fun k_ => no_ v630 k_ ∧ no_ (.slice Ao35 t640.length co35) k_ ∧ no_ (.slice Ao47 t651.length co47) k_) s_.2.2.1 t663) ∧ (w'.heap[gb620]? = some (.cells #[.slice A0_0 l0_0.length c0_0, .slice A0_1 l0_1.length c0_1, .slice A0_2 l0_2.length c0_2] 41 (0, 0))) ∧ (w'.heap[gb621]? = some (.cells #[.int .i64 a1_0, .int .i64 a1_1] 43 (0, 0))) ∧ (w'.heap[gb644]? = some (.cells #[.slice Ao31 t634.length co31, .slice Ao33 t637.length co33, .slice Ao35 t640.length co35] 47 (0, 0))) ∧ (w'.heap[gb654]? = some (.cells #[.slice Ao41 t645.length co41, .slice Ao46 t648.length co46, .slice Ao47 t651.length co47] 47 (0, 0))) ∧ (w'.heap[s_.2.2.2]? = some (.cells #[.slice none 0 0, .slice none 0 0, .slice none 0 0] 47 (0, 0))) ∧ (w.heap.size ≤ s_.2.2.2) ∧ (w.heap.size ≤ s_.2.2.2) ∧ (gb620 ≠ s_.2.2.2) ∧ (s_.2.2.2 ≠ gb620) ∧ (gb621 ≠ s_.2.2.2) ∧ (s_.2.2.2 ≠ gb621) ∧ (gb644 ≠ s_.2.2.2) ∧ (s_.2.2.2 ≠ gb644) ∧ (gb654 ≠ s_.2.2.2) ∧ (s_.2.2.2 ≠ gb654) ∧ (Below w.heap.size w w')) ?_ ?_
 rotate_left
 ·intro hCont
  refine two_ (i := 2) (j := 7) (Ni := some 34) (Nj := some 9) (bs 10 7) (bs 10 131) rfl rfl rfl rfl (two_of HT_.out (by kernel_rfl)) (by decide) (by decide) (fun K hK => ?_) (fun K hK => ?_)
  rotate_left
  ·skip
   refine box_step ?hg (N := 9) ?hd (cs := #[.slice none 0 0, .slice none 0 0, .slice none 0 0]) (t := 47) ?hr ?_; (case hd => rfl); (case hg => rfl); (case hr => first | (go_simp; done) | (go_simp; rfl))
   intro gb667 hg w50 hbox hb
   have BK667 := Aside0.mk (hbox)
   have GW667 := gw_ hg HB
   have GE667 := gw_ hg HB
   have NB620_667 := nl_ hg BK620
   have NB667_620 := ng_ hg BK620
   have NB621_667 := nl_ hg BK621
   have NB667_621 := ng_ hg BK621
   have NB644_667 := nl_ hg BK644
   have NB667_644 := ng_ hg BK644
   have NB654_667 := nl_ hg BK654
   have NB667_654 := ng_ hg BK654
   replace HO625 := rb_ HO625 hb
   replace HO628 := rb_ HO628 hb
   replace HO631 := rb_ HO631 hb
   replace HO636 := rb_ HO636 hb
   replace HO639 := rb_ HO639 hb
   replace HO642 := rb_ HO642 hb
   replace HO647 := rb_ HO647 hb
   replace HO650 := rb_ HO650 hb
   replace HO653 := rb_ HO653 hb
   replace BK620 := bb_ BK620 hb
   replace BK621 := bb_ BK621 hb
   replace BK644 := bb_ BK644 hb
   replace BK654 := bb_ BK654 hb
   replace HB := bst_ HB hb
   clear hb hbox hg
   refine hK.out _ _ ⟨bc_ BK654 0, bc_ BK654 1, bc_ BK654 2, bc_ BK621 0, bc_ BK621 1⟩ (fun hHeld => ?_)
   clear hK K
   refine nm_ 9 ?_
   refine one_ (i := 2) (N := some 34) (bs 10 135) rfl rfl (one_of HT_.out (by kernel_rfl)) (by decide) (fun K hK => ?_)
   refine goes_ Try.func32 (by kernel_rfl) rfl #[.agg #[.int .i64 a1_0, .int .i64 a1_1]] (by rfl) rfl rfl tm_ ?_
   with_reducible refine (laws_toPairStep.calls a1_0 a1_1 t655 t656 _ A14.out).mono ?_
   rintro e w51 ⟨rfl, hb⟩
   refine ⟨_, rfl, ?_⟩
   replace HO625 := rb_ HO625 hb
   replace HO628 := rb_ HO628 hb
   replace HO631 := rb_ HO631 hb
   replace HO636 := rb_ HO636 hb
   replace HO639 := rb_ HO639 hb
   replace HO642 := rb_ HO642 hb
   replace HO647 := rb_ HO647 hb
   replace HO650 := rb_ HO650 hb
   replace HO653 := rb_ HO653 hb
   replace BK620 := bb_ BK620 hb
   replace BK621 := bb_ BK621 hb
   replace BK644 := bb_ BK644 hb
   replace BK654 := bb_ BK654 hb
   replace BK667 := bb_ BK667 hb
   replace HB := bst_ HB hb
   clear hb
   refine hK.out _ _ ⟨bc_ BK654 0, bc_ BK654 1, bc_ BK654 2, bc_ BK621 0, bc_ BK621 1⟩ (fun hHeld => ?_)
   clear hK K
   refine nm_ 34 ?_
   refine one_ (i := 3) (N := some 35) (bs 10 143) rfl rfl (one_of HT_.out (by kernel_rfl)) (by decide) (fun K hK => ?_)
   refine goes_ Try.func33 (by kernel_rfl) rfl #[.agg #[.slice Ao41 t645.length co41, .slice Ao46 t648.length co46, .slice Ao47 t651.length co47], .agg #[.int .i64 t655, .int .i64 t656]] (by rfl) rfl rfl tm_ ?_
   with_reducible refine (impl_StepPair.calls k _ _ t645 _ _ t648 _ _ t651 t655 t656 t657 t660 t663 t666 _ ?side1 ?side2 ?side3 ?side4 ?side5 ?side6 A15.out).mono ?_
   (case side1 => exact ca (Kd.R_reads' HO647.out).2.2)
   (case side2 => exact (Kd.R_reads' HO647.out).2.1)
   (case side3 => exact ca (Kd.R_reads' HO650.out).2.2)
   (case side4 => exact (Kd.R_reads' HO650.out).2.1)
   (case side5 => exact ca (Kd.R_reads' HO653.out).2.2)
   (case side6 => exact (Kd.R_reads' HO653.out).2.1)
   rintro e w52 ⟨v658, v661, v664, rfl, ho0, ho1, ho2, hb⟩
   refine ⟨_, rfl, ?_⟩
   have HO659 := Aside0.mk (Kd.R_lower (Kd.R_new' (Kd.R_new' (Kd.R_new' (Kd.R_new' (Kd.R_new' (Kd.R_new' ho0 (rl_ HO625)) (rl_ HO628)) (rl_ HO636)) (rl_ HO639)) (rl_ HO647)) (rl_ HO650)) (below_size (hB HB)))
   have HO662 := Aside0.mk (Kd.R_lower (Kd.R_new' (Kd.R_new' (Kd.R_new' (Kd.R_new' (Kd.R_new' (Kd.R_new' ho1 (rl_ HO625)) (rl_ HO628)) (rl_ HO636)) (rl_ HO639)) (rl_ HO647)) (rl_ HO650)) (below_size (hB HB)))
   have HO665 := Aside0.mk (Kd.R_lower (Kd.R_new' (Kd.R_new' (Kd.R_new' ho2 (rl_ HO631)) (rl_ HO642)) (rl_ HO653)) (below_size (hB HB)))
   replace HO625 := rt2_ HO625 hb ho0 ho1
   replace HO628 := rt2_ HO628 hb ho0 ho1
   replace HO631 := re_ HO631 ho2 hb
   replace HO636 := rt2_ HO636 hb ho0 ho1
   replace HO639 := rt2_ HO639 hb ho0 ho1
   replace HO642 := re_ HO642 ho2 hb
   replace HO647 := rt2_ HO647 hb ho0 ho1
   replace HO650 := rt2_ HO650 hb ho0 ho1
   replace HO653 := re_ HO653 ho2 hb
   replace BK620 := bb_ BK620 hb
   replace BK621 := bb_ BK621 hb
   replace BK644 := bb_ BK644 hb
   replace BK654 := bb_ BK654 hb
   replace BK667 := bb_ BK667 hb
   replace HB := bst_ HB hb
   clear hb ho0 ho1 ho2
   refine hK.out _ _ ⟨bc_ BK654 0, bc_ BK654 1, bc_ BK654 2, bc_ BK621 0, bc_ BK621 1⟩ (fun hHeld => ?_)
   clear hK K
   refine nm_ 35 ?_
   refine pu_ 4 31 (bs 10 159) HT_ ?_
   refine pu_ 5 36 (bs 10 191) HT_ ?_
   refine pu_ 6 37 (bs 10 255) HT_ ?_
   exact norm_ (by simp only [putAll, Act.put, List.setIfInBounds_toArray, List.set_cons_zero, List.set_cons_succ]) (hCont (v658, v661, v664, gb667) _ ⟨hHeld, (rm_ HO625 (fun _ hk => ⟨hk.1.1.1, ⟨hk.1.1.2.1, ⟨hk.1.1.2.2.1, ⟨hk.1.1.2.2.2.1, ⟨hk.1.1.2.2.2.2, ⟨hk.1.2, hk.2⟩⟩⟩⟩⟩⟩)).out, (rm_ HO628 (fun _ hk => ⟨hk.1.1.1, ⟨hk.1.1.2.1, ⟨hk.1.1.2.2.1, ⟨hk.1.1.2.2.2.1, ⟨hk.1.1.2.2.2.2, ⟨hk.1.2, hk.2⟩⟩⟩⟩⟩⟩)).out, (rm_ HO631 (fun _ hk => ⟨hk.1.1, ⟨hk.1.2, hk.2⟩⟩)).out, (rm_ HO636 (fun _ hk => ⟨hk.1.1.1, ⟨hk.1.1.2.1, ⟨hk.1.1.2.2.1, ⟨hk.1.1.2.2.2.1, ⟨hk.1.1.2.2.2.2, ⟨hk.1.2, hk.2⟩⟩⟩⟩⟩⟩)).out, (rm_ HO639 (fun _ hk => ⟨hk.1.1.1, ⟨hk.1.1.2.1, ⟨hk.1.1.2.2.1, ⟨hk.1.1.2.2.2.1, ⟨hk.1.1.2.2.2.2, ⟨hk.1.2, hk.2⟩⟩⟩⟩⟩⟩)).out, (rm_ HO642 (fun _ hk => ⟨hk.1.1, ⟨hk.1.2, hk.2⟩⟩)).out, (rm_ HO647 (fun _ hk => ⟨hk.1.1.1, ⟨hk.1.1.2.1, ⟨hk.1.1.2.2.1, ⟨hk.1.1.2.2.2.1, ⟨hk.1.1.2.2.2.2, ⟨hk.1.2, hk.2⟩⟩⟩⟩⟩⟩)).out, (rm_ HO650 (fun _ hk => ⟨hk.1.1.1, ⟨hk.1.1.2.1, ⟨hk.1.1.2.2.1, ⟨hk.1.1.2.2.2.1, ⟨hk.1.1.2.2.2.2, ⟨hk.1.2, hk.2⟩⟩⟩⟩⟩⟩)).out, (rm_ HO653 (fun _ hk => ⟨hk.1.1, ⟨hk.1.2, hk.2⟩⟩)).out, (rm_ HO659 (fun _ hk => ⟨hk.1.1.1.1.1.2, ⟨hk.1.1.1.1.2, ⟨hk.1.1.1.2, ⟨hk.1.1.2, ⟨hk.1.2, ⟨hk.2, hk.1.1.1.1.1.1⟩⟩⟩⟩⟩⟩)).out, (rm_ HO662 (fun _ hk => ⟨hk.1.1.1.1.1.2, ⟨hk.1.1.1.1.2, ⟨hk.1.1.1.2, ⟨hk.1.1.2, ⟨hk.1.2, ⟨hk.2, hk.1.1.1.1.1.1⟩⟩⟩⟩⟩⟩)).out, (rm_ HO665 (fun _ hk => ⟨hk.1.1.2, ⟨hk.1.2, hk.2⟩⟩)).out, (ba BK620.out), (ba BK621.out), (ba BK644.out), (ba BK654.out), (ba BK667.out), GW667.out, GE667.out, NB620_667.out, NB667_620.out, NB621_667.out, NB667_621.out, NB644_667.out, NB667_644.out, NB654_667.out, NB667_654.out, (hB HB)⟩)
  skip
  refine goes_ Try.func32 (by kernel_rfl) rfl #[.agg #[.int .i64 a1_0, .int .i64 a1_1]] (by rfl) rfl rfl tm_ ?_
  with_reducible refine (laws_toPairStep.calls a1_0 a1_1 t655 t656 _ A14.out).mono ?_
  rintro e w50 ⟨rfl, hb⟩
  refine ⟨_, rfl, ?_⟩
  replace HO625 := rb_ HO625 hb
  replace HO628 := rb_ HO628 hb
  replace HO631 := rb_ HO631 hb
  replace HO636 := rb_ HO636 hb
  replace HO639 := rb_ HO639 hb
  replace HO642 := rb_ HO642 hb
  replace HO647 := rb_ HO647 hb
  replace HO650 := rb_ HO650 hb
  replace HO653 := rb_ HO653 hb
  replace BK620 := bb_ BK620 hb
  replace BK621 := bb_ BK621 hb
  replace BK644 := bb_ BK644 hb
  replace BK654 := bb_ BK654 hb
  replace HB := bst_ HB hb
  clear hb
  refine hK.out _ _ ⟨bc_ BK654 0, bc_ BK654 1, bc_ BK654 2, bc_ BK621 0, bc_ BK621 1⟩ (fun hHeld => ?_)
  clear hK K
  refine nm_ 34 ?_
  refine two_ (i := 3) (j := 7) (Ni := some 35) (Nj := some 9) (bs 10 15) (bs 10 135) rfl rfl rfl rfl (two_of HT_.out (by kernel_rfl)) (by decide) (by decide) (fun K hK => ?_) (fun K hK => ?_)
  rotate_left
  ·skip
   refine box_step ?hg (N := 9) ?hd (cs := #[.slice none 0 0, .slice none 0 0, .slice none 0 0]) (t := 47) ?hr ?_; (case hd => rfl); (case hg => rfl); (case hr => first | (go_simp; done) | (go_simp; rfl))
   intro gb667 hg w51 hbox hb
   have BK667 := Aside0.mk (hbox)
   have GW667 := gw_ hg HB
   have GE667 := gw_ hg HB
   have NB620_667 := nl_ hg BK620
   have NB667_620 := ng_ hg BK620
   have NB621_667 := nl_ hg BK621
   have NB667_621 := ng_ hg BK621
   have NB644_667 := nl_ hg BK644
   have NB667_644 := ng_ hg BK644
   have NB654_667 := nl_ hg BK654
   have NB667_654 := ng_ hg BK654
   replace HO625 := rb_ HO625 hb
   replace HO628 := rb_ HO628 hb
   replace HO631 := rb_ HO631 hb
   replace HO636 := rb_ HO636 hb
   replace HO639 := rb_ HO639 hb
   replace HO642 := rb_ HO642 hb
   replace HO647 := rb_ HO647 hb
   replace HO650 := rb_ HO650 hb
   replace HO653 := rb_ HO653 hb
   replace BK620 := bb_ BK620 hb
   replace BK621 := bb_ BK621 hb
   replace BK644 := bb_ BK644 hb
   replace BK654 := bb_ BK654 hb
   replace HB := bst_ HB hb
   clear hb hbox hg
   refine hK.out _ _ ⟨bc_ BK654 0, bc_ BK654 1, bc_ BK654 2, bc_ BK621 0, bc_ BK621 1⟩ (fun hHeld => ?_)
   clear hK K
   refine nm_ 9 ?_
   refine one_ (i := 3) (N := some 35) (bs 10 143) rfl rfl (one_of HT_.out (by kernel_rfl)) (by decide) (fun K hK => ?_)
   refine goes_ Try.func33 (by kernel_rfl) rfl #[.agg #[.slice Ao41 t645.length co41, .slice Ao46 t648.length co46, .slice Ao47 t651.length co47], .agg #[.int .i64 t655, .int .i64 t656]] (by rfl) rfl rfl tm_ ?_
   with_reducible refine (impl_StepPair.calls k _ _ t645 _ _ t648 _ _ t651 t655 t656 t657 t660 t663 t666 _ ?side1 ?side2 ?side3 ?side4 ?side5 ?side6 A15.out).mono ?_
   (case side1 => exact ca (Kd.R_reads' HO647.out).2.2)
   (case side2 => exact (Kd.R_reads' HO647.out).2.1)
   (case side3 => exact ca (Kd.R_reads' HO650.out).2.2)
   (case side4 => exact (Kd.R_reads' HO650.out).2.1)
   (case side5 => exact ca (Kd.R_reads' HO653.out).2.2)
   (case side6 => exact (Kd.R_reads' HO653.out).2.1)
   rintro e w52 ⟨v658, v661, v664, rfl, ho0, ho1, ho2, hb⟩
   refine ⟨_, rfl, ?_⟩
   have HO659 := Aside0.mk (Kd.R_lower (Kd.R_new' (Kd.R_new' (Kd.R_new' (Kd.R_new' (Kd.R_new' (Kd.R_new' ho0 (rl_ HO625)) (rl_ HO628)) (rl_ HO636)) (rl_ HO639)) (rl_ HO647)) (rl_ HO650)) (below_size (hB HB)))
   have HO662 := Aside0.mk (Kd.R_lower (Kd.R_new' (Kd.R_new' (Kd.R_new' (Kd.R_new' (Kd.R_new' (Kd.R_new' ho1 (rl_ HO625)) (rl_ HO628)) (rl_ HO636)) (rl_ HO639)) (rl_ HO647)) (rl_ HO650)) (below_size (hB HB)))
   have HO665 := Aside0.mk (Kd.R_lower (Kd.R_new' (Kd.R_new' (Kd.R_new' ho2 (rl_ HO631)) (rl_ HO642)) (rl_ HO653)) (below_size (hB HB)))
   replace HO625 := rt2_ HO625 hb ho0 ho1
   replace HO628 := rt2_ HO628 hb ho0 ho1
   replace HO631 := re_ HO631 ho2 hb
   replace HO636 := rt2_ HO636 hb ho0 ho1
   replace HO639 := rt2_ HO639 hb ho0 ho1
   replace HO642 := re_ HO642 ho2 hb
   replace HO647 := rt2_ HO647 hb ho0 ho1
   replace HO650 := rt2_ HO650 hb ho0 ho1
   replace HO653 := re_ HO653 ho2 hb
   replace BK620 := bb_ BK620 hb
   replace BK621 := bb_ BK621 hb
   replace BK644 := bb_ BK644 hb
   replace BK654 := bb_ BK654 hb
   replace BK667 := bb_ BK667 hb
   replace HB := bst_ HB hb
   clear hb ho0 ho1 ho2
   refine hK.out _ _ ⟨bc_ BK654 0, bc_ BK654 1, bc_ BK654 2, bc_ BK621 0, bc_ BK621 1⟩ (fun hHeld => ?_)
   clear hK K
   refine nm_ 35 ?_
   refine pu_ 4 31 (bs 10 159) HT_ ?_
   refine pu_ 5 36 (bs 10 191) HT_ ?_
   refine pu_ 6 37 (bs 10 255) HT_ ?_
   exact norm_ (by simp only [putAll, Act.put, List.setIfInBounds_toArray, List.set_cons_zero, List.set_cons_succ]) (hCont (v658, v661, v664, gb667) _ ⟨hHeld, (rm_ HO625 (fun _ hk => ⟨hk.1.1.1, ⟨hk.1.1.2.1, ⟨hk.1.1.2.2.1, ⟨hk.1.1.2.2.2.1, ⟨hk.1.1.2.2.2.2, ⟨hk.1.2, hk.2⟩⟩⟩⟩⟩⟩)).out, (rm_ HO628 (fun _ hk => ⟨hk.1.1.1, ⟨hk.1.1.2.1, ⟨hk.1.1.2.2.1, ⟨hk.1.1.2.2.2.1, ⟨hk.1.1.2.2.2.2, ⟨hk.1.2, hk.2⟩⟩⟩⟩⟩⟩)).out, (rm_ HO631 (fun _ hk => ⟨hk.1.1, ⟨hk.1.2, hk.2⟩⟩)).out, (rm_ HO636 (fun _ hk => ⟨hk.1.1.1, ⟨hk.1.1.2.1, ⟨hk.1.1.2.2.1, ⟨hk.1.1.2.2.2.1, ⟨hk.1.1.2.2.2.2, ⟨hk.1.2, hk.2⟩⟩⟩⟩⟩⟩)).out, (rm_ HO639 (fun _ hk => ⟨hk.1.1.1, ⟨hk.1.1.2.1, ⟨hk.1.1.2.2.1, ⟨hk.1.1.2.2.2.1, ⟨hk.1.1.2.2.2.2, ⟨hk.1.2, hk.2⟩⟩⟩⟩⟩⟩)).out, (rm_ HO642 (fun _ hk => ⟨hk.1.1, ⟨hk.1.2, hk.2⟩⟩)).out, (rm_ HO647 (fun _ hk => ⟨hk.1.1.1, ⟨hk.1.1.2.1, ⟨hk.1.1.2.2.1, ⟨hk.1.1.2.2.2.1, ⟨hk.1.1.2.2.2.2, ⟨hk.1.2, hk.2⟩⟩⟩⟩⟩⟩)).out, (rm_ HO650 (fun _ hk => ⟨hk.1.1.1, ⟨hk.1.1.2.1, ⟨hk.1.1.2.2.1, ⟨hk.1.1.2.2.2.1, ⟨hk.1.1.2.2.2.2, ⟨hk.1.2, hk.2⟩⟩⟩⟩⟩⟩)).out, (rm_ HO653 (fun _ hk => ⟨hk.1.1, ⟨hk.1.2, hk.2⟩⟩)).out, (rm_ HO659 (fun _ hk => ⟨hk.1.1.1.1.1.2, ⟨hk.1.1.1.1.2, ⟨hk.1.1.1.2, ⟨hk.1.1.2, ⟨hk.1.2, ⟨hk.2, hk.1.1.1.1.1.1⟩⟩⟩⟩⟩⟩)).out, (rm_ HO662 (fun _ hk => ⟨hk.1.1.1.1.1.2, ⟨hk.1.1.1.1.2, ⟨hk.1.1.1.2, ⟨hk.1.1.2, ⟨hk.1.2, ⟨hk.2, hk.1.1.1.1.1.1⟩⟩⟩⟩⟩⟩)).out, (rm_ HO665 (fun _ hk => ⟨hk.1.1.2, ⟨hk.1.2, hk.2⟩⟩)).out, (ba BK620.out), (ba BK621.out), (ba BK644.out), (ba BK654.out), (ba BK667.out), GW667.out, GE667.out, NB620_667.out, NB667_620.out, NB621_667.out, NB667_621.out, NB644_667.out, NB667_644.out, NB654_667.out, NB667_654.out, (hB HB)⟩)
  skip
  refine goes_ Try.func33 (by kernel_rfl) rfl #[.agg #[.slice Ao41 t645.length co41, .slice Ao46 t648.length co46, .slice Ao47 t651.length co47], .agg #[.int .i64 t655, .int .i64 t656]] (by rfl) rfl rfl tm_ ?_
  with_reducible refine (impl_StepPair.calls k _ _ t645 _ _ t648 _ _ t651 t655 t656 t657 t660 t663 t666 _ ?side1 ?side2 ?side3 ?side4 ?side5 ?side6 A15.out).mono ?_
  (case side1 => exact ca (Kd.R_reads' HO647.out).2.2)
  (case side2 => exact (Kd.R_reads' HO647.out).2.1)
  (case side3 => exact ca (Kd.R_reads' HO650.out).2.2)
  (case side4 => exact (Kd.R_reads' HO650.out).2.1)
  (case side5 => exact ca (Kd.R_reads' HO653.out).2.2)
  (case side6 => exact (Kd.R_reads' HO653.out).2.1)
  rintro e w51 ⟨v658, v661, v664, rfl, ho0, ho1, ho2, hb⟩
  refine ⟨_, rfl, ?_⟩
  have HO659 := Aside0.mk (Kd.R_lower (Kd.R_new' (Kd.R_new' (Kd.R_new' (Kd.R_new' (Kd.R_new' (Kd.R_new' ho0 (rl_ HO625)) (rl_ HO628)) (rl_ HO636)) (rl_ HO639)) (rl_ HO647)) (rl_ HO650)) (below_size (hB HB)))
  have HO662 := Aside0.mk (Kd.R_lower (Kd.R_new' (Kd.R_new' (Kd.R_new' (Kd.R_new' (Kd.R_new' (Kd.R_new' ho1 (rl_ HO625)) (rl_ HO628)) (rl_ HO636)) (rl_ HO639)) (rl_ HO647)) (rl_ HO650)) (below_size (hB HB)))
  have HO665 := Aside0.mk (Kd.R_lower (Kd.R_new' (Kd.R_new' (Kd.R_new' ho2 (rl_ HO631)) (rl_ HO642)) (rl_ HO653)) (below_size (hB HB)))
  replace HO625 := rt2_ HO625 hb ho0 ho1
  replace HO628 := rt2_ HO628 hb ho0 ho1
  replace HO631 := re_ HO631 ho2 hb
  replace HO636 := rt2_ HO636 hb ho0 ho1
  replace HO639 := rt2_ HO639 hb ho0 ho1
  replace HO642 := re_ HO642 ho2 hb
  replace HO647 := rt2_ HO647 hb ho0 ho1
  replace HO650 := rt2_ HO650 hb ho0 ho1
  replace HO653 := re_ HO653 ho2 hb
  replace BK620 := bb_ BK620 hb
  replace BK621 := bb_ BK621 hb
  replace BK644 := bb_ BK644 hb
  replace BK654 := bb_ BK654 hb
  replace HB := bst_ HB hb
  clear hb ho0 ho1 ho2
  refine hK.out _ _ ⟨bc_ BK654 0, bc_ BK654 1, bc_ BK654 2, bc_ BK621 0, bc_ BK621 1⟩ (fun hHeld => ?_)
  clear hK K
  refine nm_ 35 ?_
  refine pu_ 4 31 (bs 10 31) HT_ ?_
  refine pu_ 5 36 (bs 10 63) HT_ ?_
  refine pu_ 6 37 (bs 10 127) HT_ ?_
  refine one_ (i := 7) (N := some 9) (bs 10 255) rfl rfl (one_of HT_.out (by kernel_rfl)) (by decide) (fun K hK => ?_)
  refine box_step ?hg (N := 9) ?hd (cs := #[.slice none 0 0, .slice none 0 0, .slice none 0 0]) (t := 47) ?hr ?_; (case hd => rfl); (case hg => rfl); (case hr => first | (go_simp; done) | (go_simp; rfl))
  intro gb667 hg w52 hbox hb
  have BK667 := Aside0.mk (hbox)
  have GW667 := gw_ hg HB
  have GE667 := gw_ hg HB
  have NB620_667 := nl_ hg BK620
  have NB667_620 := ng_ hg BK620
  have NB621_667 := nl_ hg BK621
  have NB667_621 := ng_ hg BK621
  have NB644_667 := nl_ hg BK644
  have NB667_644 := ng_ hg BK644
  have NB654_667 := nl_ hg BK654
  have NB667_654 := ng_ hg BK654
  replace HO625 := rb_ HO625 hb
  replace HO628 := rb_ HO628 hb
  replace HO631 := rb_ HO631 hb
  replace HO636 := rb_ HO636 hb
  replace HO639 := rb_ HO639 hb
  replace HO642 := rb_ HO642 hb
  replace HO647 := rb_ HO647 hb
  replace HO650 := rb_ HO650 hb
  replace HO653 := rb_ HO653 hb
  replace HO659 := rb_ HO659 hb
  replace HO662 := rb_ HO662 hb
  replace HO665 := rb_ HO665 hb
  replace BK620 := bb_ BK620 hb
  replace BK621 := bb_ BK621 hb
  replace BK644 := bb_ BK644 hb
  replace BK654 := bb_ BK654 hb
  replace HB := bst_ HB hb
  clear hb hbox hg
  refine hK.out _ _ ⟨bc_ BK654 0, bc_ BK654 1, bc_ BK654 2, bc_ BK621 0, bc_ BK621 1⟩ (fun hHeld => ?_)
  clear hK K
  refine nm_ 9 ?_
  exact norm_ (by simp only [putAll, Act.put, List.setIfInBounds_toArray, List.set_cons_zero, List.set_cons_succ]) (hCont (v658, v661, v664, gb667) _ ⟨hHeld, (rm_ HO625 (fun _ hk => ⟨hk.1.1.1, ⟨hk.1.1.2.1, ⟨hk.1.1.2.2.1, ⟨hk.1.1.2.2.2.1, ⟨hk.1.1.2.2.2.2, ⟨hk.1.2, hk.2⟩⟩⟩⟩⟩⟩)).out, (rm_ HO628 (fun _ hk => ⟨hk.1.1.1, ⟨hk.1.1.2.1, ⟨hk.1.1.2.2.1, ⟨hk.1.1.2.2.2.1, ⟨hk.1.1.2.2.2.2, ⟨hk.1.2, hk.2⟩⟩⟩⟩⟩⟩)).out, (rm_ HO631 (fun _ hk => ⟨hk.1.1, ⟨hk.1.2, hk.2⟩⟩)).out, (rm_ HO636 (fun _ hk => ⟨hk.1.1.1, ⟨hk.1.1.2.1, ⟨hk.1.1.2.2.1, ⟨hk.1.1.2.2.2.1, ⟨hk.1.1.2.2.2.2, ⟨hk.1.2, hk.2⟩⟩⟩⟩⟩⟩)).out, (rm_ HO639 (fun _ hk => ⟨hk.1.1.1, ⟨hk.1.1.2.1, ⟨hk.1.1.2.2.1, ⟨hk.1.1.2.2.2.1, ⟨hk.1.1.2.2.2.2, ⟨hk.1.2, hk.2⟩⟩⟩⟩⟩⟩)).out, (rm_ HO642 (fun _ hk => ⟨hk.1.1, ⟨hk.1.2, hk.2⟩⟩)).out, (rm_ HO647 (fun _ hk => ⟨hk.1.1.1, ⟨hk.1.1.2.1, ⟨hk.1.1.2.2.1, ⟨hk.1.1.2.2.2.1, ⟨hk.1.1.2.2.2.2, ⟨hk.1.2, hk.2⟩⟩⟩⟩⟩⟩)).out, (rm_ HO650 (fun _ hk => ⟨hk.1.1.1, ⟨hk.1.1.2.1, ⟨hk.1.1.2.2.1, ⟨hk.1.1.2.2.2.1, ⟨hk.1.1.2.2.2.2, ⟨hk.1.2, hk.2⟩⟩⟩⟩⟩⟩)).out, (rm_ HO653 (fun _ hk => ⟨hk.1.1, ⟨hk.1.2, hk.2⟩⟩)).out, (rm_ HO659 (fun _ hk => ⟨hk.1.1.1.1.1.2, ⟨hk.1.1.1.1.2, ⟨hk.1.1.1.2, ⟨hk.1.1.2, ⟨hk.1.2, ⟨hk.2, hk.1.1.1.1.1.1⟩⟩⟩⟩⟩⟩)).out, (rm_ HO662 (fun _ hk => ⟨hk.1.1.1.1.1.2, ⟨hk.1.1.1.1.2, ⟨hk.1.1.1.2, ⟨hk.1.1.2, ⟨hk.1.2, ⟨hk.2, hk.1.1.1.1.1.1⟩⟩⟩⟩⟩⟩)).out, (rm_ HO665 (fun _ hk => ⟨hk.1.1.2, ⟨hk.1.2, hk.2⟩⟩)).out, (ba BK620.out), (ba BK621.out), (ba BK644.out), (ba BK654.out), (ba BK667.out), GW667.out, GE667.out, NB620_667.out, NB667_620.out, NB621_667.out, NB667_621.out, NB644_667.out, NB667_644.out, NB654_667.out, NB667_654.out, (hB HB)⟩)
 rintro ⟨v658, v661, v664, gb667⟩ w53 ⟨hS_, h0_, h1_, h2_, h3_, h4_, h5_, h6_, h7_, h8_, h9_, h10_, h11_, h12_, h13_, h14_, h15_, h16_, h17_, h18_, h19_, h20_, h21_, h22_, h23_, h24_, h25_, h26_, h27_⟩
 try dsimp only at h0_ h1_ h2_ h3_ h4_ h5_ h6_ h7_ h8_ h9_ h10_ h11_ h12_ h13_ h14_ h15_ h16_ h17_ h18_ h19_ h20_ h21_ h22_ h23_ h24_ h25_ h26_ h27_
 have HO659 := Aside0.mk h9_
 have HO662 := Aside0.mk h10_
 have HO665 := Aside0.mk h11_
 have BK667 := Aside0.mk h16_
 have GW667 := Aside0.mk h17_
 have GE667 := Aside0.mk h18_
 have NB620_667 := Aside0.mk h19_
 have NB667_620 := Aside0.mk h20_
 have NB621_667 := Aside0.mk h21_
 have NB667_621 := Aside0.mk h22_
 have NB644_667 := Aside0.mk h23_
 have NB667_644 := Aside0.mk h24_
 have NB654_667 := Aside0.mk h25_
 have NB667_654 := Aside0.mk h26_
 replace HO625 := Aside0.mk h0_
 replace HO628 := Aside0.mk h1_
 replace HO631 := Aside0.mk h2_
 replace HO636 := Aside0.mk h3_
 replace HO639 := Aside0.mk h4_
 replace HO642 := Aside0.mk h5_
 replace HO647 := Aside0.mk h6_
 replace HO650 := Aside0.mk h7_
 replace HO653 := Aside0.mk h8_
 replace BK620 := Aside0.mk h12_
 replace BK621 := Aside0.mk h13_
 replace BK644 := Aside0.mk h14_
 replace BK654 := Aside0.mk h15_
 replace HB := Aside0.mk h27_
 clear h0_ h1_ h2_ h3_ h4_ h5_ h6_ h7_ h8_ h9_ h10_ h11_ h12_ h13_ h14_ h15_ h16_ h17_ h18_ h19_ h20_ h21_ h22_ h23_ h24_ h25_ h26_ h27_
 have hHeld : w53.cell? ⟨gb654, 0, none⟩ = some (.slice Ao41 t645.length co41) ∧ w53.cell? ⟨gb654, 1, none⟩ = some (.slice Ao46 t648.length co46) ∧ w53.cell? ⟨gb654, 2, none⟩ = some (.slice Ao47 t651.length co47) ∧ w53.cell? ⟨gb621, 0, none⟩ = some (.int .i64 a1_0) ∧ w53.cell? ⟨gb621, 1, none⟩ = some (.int .i64 a1_1) := hS_
 obtain ⟨Ao54, co54, eo54⟩ := Kd.R_slice HO659.out
 (first | subst eo54 | (injection eo54 with f1_ f2_ f3_; have f4_ := f1_.symm; have f5_ := f3_.symm; clear f1_ f2_ f3_; subst f4_; subst f5_))
 obtain ⟨Ao56, co56, eo56⟩ := Kd.R_slice HO662.out
 (first | subst eo56 | (injection eo56 with f1_ f2_ f3_; have f4_ := f1_.symm; have f5_ := f3_.symm; clear f1_ f2_ f3_; subst f4_; subst f5_))
 obtain ⟨Ao58, co58, eo58⟩ := Kd.R_slice HO665.out
 (first | subst eo58 | (injection eo58 with f1_ f2_ f3_; have f4_ := f1_.symm; have f5_ := f3_.symm; clear f1_ f2_ f3_; subst f4_; subst f5_))
 refine norm_ (a' := ?_) ?_ ?_
 rotate_left
 ·simp only [putAll, Act.put, List.setIfInBounds_toArray, List.set_cons_zero, List.set_cons_succ]
  rfl
 refine one_ (i := 8) (N := none) (bs 10 511) rfl rfl (one_of HT_.out (by kernel_rfl)) (by decide) (fun K hK => ?_)
 have hs55 : w53.cell? ⟨gb667, 0, none⟩ = some (.slice none 0 0) := bc_ BK667 0
 have hfs55 := blk_frozen BK667.out 0
 have hns55_0 := NB620_667.out
 have hns55_1 := NB621_667.out
 have hns55_2 := NB644_667.out
 have hns55_3 := NB654_667.out
 have hms55_0 := NB667_620.out
 have hms55_1 := NB667_621.out
 have hms55_2 := NB667_644.out
 have hms55_3 := NB667_654.out
 have hs57 : w53.cell? ⟨gb667, 1, none⟩ = some (.slice none 0 0) := bc_ BK667 1
 have hfs57 := blk_frozen BK667.out 1
 have hns57_0 := NB620_667.out
 have hns57_1 := NB621_667.out
 have hns57_2 := NB644_667.out
 have hns57_3 := NB654_667.out
 have hms57_0 := NB667_620.out
 have hms57_1 := NB667_621.out
 have hms57_2 := NB667_644.out
 have hms57_3 := NB667_654.out
 have hs59 : w53.cell? ⟨gb667, 2, none⟩ = some (.slice none 0 0) := bc_ BK667 2
 have hfs59 := blk_frozen BK667.out 2
 have hns59_0 := NB620_667.out
 have hns59_1 := NB621_667.out
 have hns59_2 := NB644_667.out
 have hns59_3 := NB654_667.out
 have hms59_0 := NB667_620.out
 have hms59_1 := NB667_621.out
 have hms59_2 := NB667_644.out
 have hms59_3 := NB667_654.out
 refine skip_ (w1 := ?_) (by rfl) rfl ?_ ?_
 rotate_left
 ·go_simp
  rfl
 refine hK.out _ _ ⟨((cell_far (p := ⟨gb667, _, none⟩) NB654_667.out _).trans (((cell_far (p := ⟨gb667, _, none⟩) NB654_667.out _).trans (((cell_far (p := ⟨gb667, _, none⟩) NB654_667.out _).trans (hHeld.1)))))), ((cell_far (p := ⟨gb667, _, none⟩) NB654_667.out _).trans (((cell_far (p := ⟨gb667, _, none⟩) NB654_667.out _).trans (((cell_far (p := ⟨gb667, _, none⟩) NB654_667.out _).trans (hHeld.2.1)))))), ((cell_far (p := ⟨gb667, _, none⟩) NB654_667.out _).trans (((cell_far (p := ⟨gb667, _, none⟩) NB654_667.out _).trans (((cell_far (p := ⟨gb667, _, none⟩) NB654_667.out _).trans (hHeld.2.2.1)))))), ((cell_far (p := ⟨gb667, _, none⟩) NB621_667.out _).trans (((cell_far (p := ⟨gb667, _, none⟩) NB621_667.out _).trans (((cell_far (p := ⟨gb667, _, none⟩) NB621_667.out _).trans (hHeld.2.2.2.1)))))), ((cell_far (p := ⟨gb667, _, none⟩) NB621_667.out _).trans (((cell_far (p := ⟨gb667, _, none⟩) NB621_667.out _).trans (((cell_far (p := ⟨gb667, _, none⟩) NB621_667.out _).trans (hHeld.2.2.2.2))))))⟩ (fun hHeld => ?_)
 clear hK K
 refine pu_ 9 10 (bs 10 1023) HT_ ?_
 refine done_ (done_of HT_.out (by kernel_rfl)) ?_
 go_upto_region 8 with (fail)
 go_cut [46] (fun v46 wc => ∃ (kq : Nat) (x46_15 : Bool), v46 = .bool x46_15 ∧ Aside0 (laws_FnExactStepPair.j0 kq t643 t666 x46_15 l0_0 l0_1 l0_2 a1_0 a1_1 t634 t637 t640 t645 t648 t651 t657 t660 t663 = some r) ∧ Aside0 (kq ≤ k) ∧ Aside0 (Kd.R (Kd.int .i64) 3 wc w.heap.size (fun k_ => no_ (.slice Ao33 t637.length co33) k_ ∧ no_ (.slice Ao41 t645.length co41) k_ ∧ no_ (.slice Ao46 t648.length co46) k_ ∧ no_ (.slice Ao54 t657.length co54) k_ ∧ no_ (.slice Ao56 t660.length co56) k_) (.slice Ao31 t634.length co31) t634) ∧ Aside0 (Kd.R (Kd.int .i64) 3 wc w.heap.size (fun k_ => no_ (.slice Ao31 t634.length co31) k_ ∧ no_ (.slice Ao41 t645.length co41) k_ ∧ no_ (.slice Ao46 t648.length co46) k_ ∧ no_ (.slice Ao54 t657.length co54) k_ ∧ no_ (.slice Ao56 t660.length co56) k_) (.slice Ao33 t637.length co33) t637) ∧ Aside0 (Kd.R k127 127 wc w.heap.size (fun k_ => no_ (.slice Ao47 t651.length co47) k_ ∧ no_ (.slice Ao58 t663.length co58) k_) (.slice Ao35 t640.length co35) t640) ∧ Aside0 (Kd.R (Kd.int .i64) 3 wc w.heap.size (fun k_ => no_ (.slice Ao31 t634.length co31) k_ ∧ no_ (.slice Ao33 t637.length co33) k_ ∧ no_ (.slice Ao46 t648.length co46) k_ ∧ no_ (.slice Ao54 t657.length co54) k_ ∧ no_ (.slice Ao56 t660.length co56) k_) (.slice Ao41 t645.length co41) t645) ∧ Aside0 (Kd.R (Kd.int .i64) 3 wc w.heap.size (fun k_ => no_ (.slice Ao31 t634.length co31) k_ ∧ no_ (.slice Ao33 t637.length co33) k_ ∧ no_ (.slice Ao41 t645.length co41) k_ ∧ no_ (.slice Ao54 t657.length co54) k_ ∧ no_ (.slice Ao56 t660.length co56) k_) (.slice Ao46 t648.length co46) t648) ∧ Aside0 (Kd.R k127 127 wc w.heap.size (fun k_ => no_ (.slice Ao35 t640.length co35) k_ ∧ no_ (.slice Ao58 t663.length co58) k_) (.slice Ao47 t651.length co47) t651) ∧ Aside0 (Kd.R (Kd.int .i64) 3 wc w.heap.size (fun k_ => no_ (.slice Ao31 t634.length co31) k_ ∧ no_ (.slice Ao33 t637.length co33) k_ ∧ no_ (.slice Ao41 t645.length co41) k_ ∧ no_ (.slice Ao46 t648.length co46) k_ ∧ no_ (.slice Ao56 t660.length co56) k_) (.slice Ao54 t657.length co54) t657) ∧ Aside0 (Kd.R (Kd.int .i64) 3 wc w.heap.size (fun k_ => no_ (.slice Ao31 t634.length co31) k_ ∧ no_ (.slice Ao33 t637.length co33) k_ ∧ no_ (.slice Ao41 t645.length co41) k_ ∧ no_ (.slice Ao46 t648.length co46) k_ ∧ no_ (.slice Ao54 t657.length co54) k_) (.slice Ao56 t660.length co56) t660) ∧ Aside0 (Kd.R k127 127 wc w.heap.size (fun k_ => no_ (.slice Ao35 t640.length co35) k_ ∧ no_ (.slice Ao47 t651.length co47) k_) (.slice Ao58 t663.length co58) t663) ∧ Aside0 (wc.heap[gb620]? = some (.cells #[(.slice A0_0 l0_0.length c0_0), (.slice A0_1 l0_1.length c0_1), (.slice A0_2 l0_2.length c0_2)] 41 (0, 0))) ∧ Aside0 (wc.heap[gb621]? = some (.cells #[.int .i64 a1_0, .int .i64 a1_1] 43 (0, 0))) ∧ Aside0 (wc.heap[gb644]? = some (.cells #[(.slice Ao31 t634.length co31), (.slice Ao33 t637.length co33), (.slice Ao35 t640.length co35)] 47 (0, 0))) ∧ Aside0 (wc.heap[gb654]? = some (.cells #[(.slice Ao41 t645.length co41), (.slice Ao46 t648.length co46), (.slice Ao47 t651.length co47)] 47 (0, 0))) ∧ Aside0 (wc.heap[gb667]? = some (.cells #[(.slice Ao54 t657.length co54), (.slice Ao56 t660.length co56), (.slice Ao58 t663.length co58)] 47 (0, 0))) ∧ Aside0 (Below w.heap.size w wc))
 case first =>
  have H := HC16.out
  clear HC16
  replace H := Option.bind_eq_some_iff.mp H
  obtain ⟨t668, A600, H⟩ := H
  replace H : (if t668 = true then (laws_FnExactStepPair.j0 k t643 t666 (t666 != t643) l0_0 l0_1 l0_2 a1_0 a1_1 t634 t637 t640 t645 t648 t651 t657 t660 t663) else (laws_FnExactStepPair.j0 k t643 t666 true l0_0 l0_1 l0_2 a1_0 a1_1 t634 t637 t640 t645 t648 t651 t657 t660 t663)) = some r := H
  have A60 := Aside0.mk A600
  clear A600
  by_cases c61 : t668 = true
  ·subst c61
   rw [if_pos rfl] at H
   have H' := Aside0.mk H
   clear H
   have hnb62 := NB667_620.out
   have hnc62 := NB620_667.out
   have hnb63 := NB667_621.out
   have hnc63 := NB621_667.out
   have hnb64 := NB667_644.out
   have hnc64 := NB644_667.out
   have hnb65 := NB667_654.out
   have hnc65 := NB654_667.out
   have hcz66_0 : w53.cell? ⟨gb667, 0, none⟩ = some (.slice none 0 0) := bc_ BK667 0
   have hcz66_1 : w53.cell? ⟨gb667, 1, none⟩ = some (.slice none 0 0) := bc_ BK667 1
   have hcz66_2 : w53.cell? ⟨gb667, 2, none⟩ = some (.slice none 0 0) := bc_ BK667 2
   have hfz66_0 := blk_frozen BK667.out 0
   have hfz66_1 := blk_frozen BK667.out 1
   have hfz66_2 := blk_frozen BK667.out 2
   have hnb67 := NB644_620.out
   have hnc67 := NB620_644.out
   have hnb68 := NB644_621.out
   have hnc68 := NB621_644.out
   have hnb69 := NB644_654.out
   have hnc69 := NB654_644.out
   have hcz70_0 : w53.cell? ⟨gb644, 0, none⟩ = some (.slice Ao31 t634.length co31) := bc_ BK644 0
   have hcz70_1 : w53.cell? ⟨gb644, 1, none⟩ = some (.slice Ao33 t637.length co33) := bc_ BK644 1
   have hcz70_2 : w53.cell? ⟨gb644, 2, none⟩ = some (.slice Ao35 t640.length co35) := bc_ BK644 2
   have hfz70_0 := blk_frozen BK644.out 0
   have hfz70_1 := blk_frozen BK644.out 1
   have hfz70_2 := blk_frozen BK644.out 2
   go_wp2_with (first | ((with_reducible refine gate_callee (f := 34) rfl ?_); refine goesL_ (some 40) rfl rfl Try.func34 (by kernel_rfl) rfl #[.agg #[.slice Ao54 t657.length co54, .slice Ao56 t660.length co56, .slice Ao58 t663.length co58], .agg #[.slice Ao31 t634.length co31, .slice Ao33 t637.length co33, .slice Ao35 t640.length co35]] rfl tm_ ?_; (with_reducible refine (laws_eqPair.calls k _ _ t657 _ _ t660 _ _ t663 _ _ t634 _ _ t637 _ _ t640 true _ ?side1 ?side2 ?side3 ?side4 ?side5 ?side6 ?side7 ?side8 ?side9 ?side10 ?side11 ?side12 A60.out).mono ?_); (case side1 => exact rr_ (fm3_ HO659 BK667)); (case side2 => exact (Kd.R_reads' HO659.out).2.1); (case side3 => exact rr_ (fm3_ HO662 BK667)); (case side4 => exact (Kd.R_reads' HO662.out).2.1); (case side5 => exact rr_ (fm3_ HO665 BK667)); (case side6 => exact (Kd.R_reads' HO665.out).2.1); (case side7 => exact rr_ (fm3_ HO636 BK667)); (case side8 => exact (Kd.R_reads' HO636.out).2.1); (case side9 => exact rr_ (fm3_ HO639 BK667)); (case side10 => exact (Kd.R_reads' HO639.out).2.1); (case side11 => exact rr_ (fm3_ HO642 BK667)); (case side12 => exact (Kd.R_reads' HO642.out).2.1); rintro e w71 ⟨rfl, hb⟩; refine ⟨_, rfl, ?_⟩; replace HO625 := rb3_ HO625 BK667 hb; replace HO628 := rb3_ HO628 BK667 hb; replace HO631 := rb3_ HO631 BK667 hb; replace HO636 := rb3_ HO636 BK667 hb; replace HO639 := rb3_ HO639 BK667 hb; replace HO642 := rb3_ HO642 BK667 hb; replace HO647 := rb3_ HO647 BK667 hb; replace HO650 := rb3_ HO650 BK667 hb; replace HO653 := rb3_ HO653 BK667 hb; replace HO659 := rb3_ HO659 BK667 hb; replace HO662 := rb3_ HO662 BK667 hb; replace HO665 := rb3_ HO665 BK667 hb; replace BK620 := Aside0.mk (blk_below (bx BK620) hb); replace BK621 := Aside0.mk (blk_below (bx BK621) hb); replace BK644 := Aside0.mk (blk_below (bx BK644) hb); replace BK654 := Aside0.mk (blk_below (bx BK654) hb); replace BK667 := Aside0.mk (blk_below (g := gb667) (o := .cells #[.slice Ao54 t657.length co54, .slice Ao56 t660.length co56, .slice Ao58 t663.length co58] 47 (0, 0)) (by (with_reducible repeat (first | refine blk_drewN ?_ _ | refine blk_drew ?_ | refine blk_alloc ?_ _)); refine blk_put (cs := #[.slice Ao54 t657.length co54, .slice Ao56 t660.length co56, .slice none 0 0]) ?_ 2 _ rfl; (with_reducible repeat (first | refine blk_drewN ?_ _ | refine blk_drew ?_ | refine blk_alloc ?_ _)); refine blk_put (cs := #[.slice Ao54 t657.length co54, .slice none 0 0, .slice none 0 0]) ?_ 1 _ rfl; (with_reducible repeat (first | refine blk_drewN ?_ _ | refine blk_drew ?_ | refine blk_alloc ?_ _)); refine blk_put (cs := #[.slice none 0 0, .slice none 0 0, .slice none 0 0]) ?_ 0 _ rfl; (with_reducible repeat (first | refine blk_drewN ?_ _ | refine blk_drew ?_ | refine blk_alloc ?_ _)); exact BK667.out) hb); replace HB := bst_ HB hb; clear hb))
   go_meet
   case rel => exact ⟨_, ((t666 != t643)), (by first | rfl | (simp; done) | (simp [*]; done)), H', ⟨by first | omega | exact Nat.le_refl _⟩, rm_ HO636 (fun _ hk => hk.2.2), rm_ HO639 (fun _ hk => hk.2.2), rm_ HO642 (fun _ hk => hk.2), rm_ HO647 (fun _ hk => hk.2.2), rm_ HO650 (fun _ hk => hk.2.2), rm_ HO653 (fun _ hk => hk.2), rm_ HO659 (fun _ hk => hk.2.2), rm_ HO662 (fun _ hk => hk.2.2), rm_ HO665 (fun _ hk => hk.2), ⟨by (with_reducible repeat (first | refine blk_drewN ?_ _ | refine blk_drew ?_ | refine blk_alloc ?_ _)); exact BK620.out⟩, ⟨by (with_reducible repeat (first | refine blk_drewN ?_ _ | refine blk_drew ?_ | refine blk_alloc ?_ _)); exact BK621.out⟩, ⟨by (with_reducible repeat (first | refine blk_drewN ?_ _ | refine blk_drew ?_ | refine blk_alloc ?_ _)); exact BK644.out⟩, ⟨by (with_reducible repeat (first | refine blk_drewN ?_ _ | refine blk_drew ?_ | refine blk_alloc ?_ _)); exact BK654.out⟩, ⟨by (with_reducible repeat (first | refine blk_drewN ?_ _ | refine blk_drew ?_ | refine blk_alloc ?_ _)); exact BK667.out⟩, ⟨hB HB⟩⟩
  replace c61 := Bool.eq_false_iff.mpr c61
  subst c61
  rw [if_neg (show ¬ (false = true) by decide)] at H
  have H' := Aside0.mk H
  clear H
  have hnb72 := NB667_620.out
  have hnc72 := NB620_667.out
  have hnb73 := NB667_621.out
  have hnc73 := NB621_667.out
  have hnb74 := NB667_644.out
  have hnc74 := NB644_667.out
  have hnb75 := NB667_654.out
  have hnc75 := NB654_667.out
  have hcz76_0 : w53.cell? ⟨gb667, 0, none⟩ = some (.slice none 0 0) := bc_ BK667 0
  have hcz76_1 : w53.cell? ⟨gb667, 1, none⟩ = some (.slice none 0 0) := bc_ BK667 1
  have hcz76_2 : w53.cell? ⟨gb667, 2, none⟩ = some (.slice none 0 0) := bc_ BK667 2
  have hfz76_0 := blk_frozen BK667.out 0
  have hfz76_1 := blk_frozen BK667.out 1
  have hfz76_2 := blk_frozen BK667.out 2
  have hnb77 := NB644_620.out
  have hnc77 := NB620_644.out
  have hnb78 := NB644_621.out
  have hnc78 := NB621_644.out
  have hnb79 := NB644_654.out
  have hnc79 := NB654_644.out
  have hcz80_0 : w53.cell? ⟨gb644, 0, none⟩ = some (.slice Ao31 t634.length co31) := bc_ BK644 0
  have hcz80_1 : w53.cell? ⟨gb644, 1, none⟩ = some (.slice Ao33 t637.length co33) := bc_ BK644 1
  have hcz80_2 : w53.cell? ⟨gb644, 2, none⟩ = some (.slice Ao35 t640.length co35) := bc_ BK644 2
  have hfz80_0 := blk_frozen BK644.out 0
  have hfz80_1 := blk_frozen BK644.out 1
  have hfz80_2 := blk_frozen BK644.out 2
  go_wp2_with (first | ((with_reducible refine gate_callee (f := 34) rfl ?_); refine goesL_ (some 40) rfl rfl Try.func34 (by kernel_rfl) rfl #[.agg #[.slice Ao54 t657.length co54, .slice Ao56 t660.length co56, .slice Ao58 t663.length co58], .agg #[.slice Ao31 t634.length co31, .slice Ao33 t637.length co33, .slice Ao35 t640.length co35]] rfl tm_ ?_; (with_reducible refine (laws_eqPair.calls k _ _ t657 _ _ t660 _ _ t663 _ _ t634 _ _ t637 _ _ t640 false _ ?side1 ?side2 ?side3 ?side4 ?side5 ?side6 ?side7 ?side8 ?side9 ?side10 ?side11 ?side12 A60.out).mono ?_); (case side1 => exact rr_ (fm3_ HO659 BK667)); (case side2 => exact (Kd.R_reads' HO659.out).2.1); (case side3 => exact rr_ (fm3_ HO662 BK667)); (case side4 => exact (Kd.R_reads' HO662.out).2.1); (case side5 => exact rr_ (fm3_ HO665 BK667)); (case side6 => exact (Kd.R_reads' HO665.out).2.1); (case side7 => exact rr_ (fm3_ HO636 BK667)); (case side8 => exact (Kd.R_reads' HO636.out).2.1); (case side9 => exact rr_ (fm3_ HO639 BK667)); (case side10 => exact (Kd.R_reads' HO639.out).2.1); (case side11 => exact rr_ (fm3_ HO642 BK667)); (case side12 => exact (Kd.R_reads' HO642.out).2.1); rintro e w81 ⟨rfl, hb⟩; refine ⟨_, rfl, ?_⟩; replace HO625 := rb3_ HO625 BK667 hb; replace HO628 := rb3_ HO628 BK667 hb; replace HO631 := rb3_ HO631 BK667 hb; replace HO636 := rb3_ HO636 BK667 hb; replace HO639 := rb3_ HO639 BK667 hb; replace HO642 := rb3_ HO642 BK667 hb; replace HO647 := rb3_ HO647 BK667 hb; replace HO650 := rb3_ HO650 BK667 hb; replace HO653 := rb3_ HO653 BK667 hb; replace HO659 := rb3_ HO659 BK667 hb; replace HO662 := rb3_ HO662 BK667 hb; replace HO665 := rb3_ HO665 BK667 hb; replace BK620 := Aside0.mk (blk_below (bx BK620) hb); replace BK621 := Aside0.mk (blk_below (bx BK621) hb); replace BK644 := Aside0.mk (blk_below (bx BK644) hb); replace BK654 := Aside0.mk (blk_below (bx BK654) hb); replace BK667 := Aside0.mk (blk_below (g := gb667) (o := .cells #[.slice Ao54 t657.length co54, .slice Ao56 t660.length co56, .slice Ao58 t663.length co58] 47 (0, 0)) (by (with_reducible repeat (first | refine blk_drewN ?_ _ | refine blk_drew ?_ | refine blk_alloc ?_ _)); refine blk_put (cs := #[.slice Ao54 t657.length co54, .slice Ao56 t660.length co56, .slice none 0 0]) ?_ 2 _ rfl; (with_reducible repeat (first | refine blk_drewN ?_ _ | refine blk_drew ?_ | refine blk_alloc ?_ _)); refine blk_put (cs := #[.slice Ao54 t657.length co54, .slice none 0 0, .slice none 0 0]) ?_ 1 _ rfl; (with_reducible repeat (first | refine blk_drewN ?_ _ | refine blk_drew ?_ | refine blk_alloc ?_ _)); refine blk_put (cs := #[.slice none 0 0, .slice none 0 0, .slice none 0 0]) ?_ 0 _ rfl; (with_reducible repeat (first | refine blk_drewN ?_ _ | refine blk_drew ?_ | refine blk_alloc ?_ _)); exact BK667.out) hb); replace HB := bst_ HB hb; clear hb))
  go_meet
  case rel => exact ⟨_, (true), (by first | rfl | (simp; done) | (simp [*]; done)), H', ⟨by first | omega | exact Nat.le_refl _⟩, rm_ HO636 (fun _ hk => hk.2.2), rm_ HO639 (fun _ hk => hk.2.2), rm_ HO642 (fun _ hk => hk.2), rm_ HO647 (fun _ hk => hk.2.2), rm_ HO650 (fun _ hk => hk.2.2), rm_ HO653 (fun _ hk => hk.2), rm_ HO659 (fun _ hk => hk.2.2), rm_ HO662 (fun _ hk => hk.2.2), rm_ HO665 (fun _ hk => hk.2), ⟨by (with_reducible repeat (first | refine blk_drewN ?_ _ | refine blk_drew ?_ | refine blk_alloc ?_ _)); exact BK620.out⟩, ⟨by (with_reducible repeat (first | refine blk_drewN ?_ _ | refine blk_drew ?_ | refine blk_alloc ?_ _)); exact BK621.out⟩, ⟨by (with_reducible repeat (first | refine blk_drewN ?_ _ | refine blk_drew ?_ | refine blk_alloc ?_ _)); exact BK644.out⟩, ⟨by (with_reducible repeat (first | refine blk_drewN ?_ _ | refine blk_drew ?_ | refine blk_alloc ?_ _)); exact BK654.out⟩, ⟨by (with_reducible repeat (first | refine blk_drewN ?_ _ | refine blk_drew ?_ | refine blk_alloc ?_ _)); exact BK667.out⟩, ⟨hB HB⟩⟩
 case rest =>
  clear HC16
  obtain ⟨kq, x46_15, rfl, HA, HJ15, HO_645000, HO_645001, HO_645002, HO_655000, HO_655001, HO_655002, HO_668000, HO_668001, HO_668002, BK620, BK621, BK644, BK654, BK667, HB⟩ := hcut
  cases kq with
  | zero => exact absurd HA.out (by simp [laws_FnExactStepPair.j0])
  | succ kj15 =>
   have H := HA.out
   clear HA
   simp only [laws_FnExactStepPair.j0] at H
   by_cases c82 : x46_15 = true
   ·subst c82
    rw [if_pos rfl] at H
    obtain rfl := Option.some.inj H
    go_wp2
    go_ret
    exact ⟨by first | rfl | (simp [errW_none, errW_some] <;> rfl) | (simp [*, errW_none, errW_some] <;> rfl), by repeat (first | (with_reducible first | exact HB.out | apply below_alloc | apply pw_below_drewN | apply below_drew1 | refine below_set ?_ GE620.out | refine below_set ?_ GE621.out | refine below_set ?_ GE644.out | refine below_set ?_ GE654.out | refine below_set ?_ GE667.out) | exact HB.out)⟩
   replace c82 := Bool.eq_false_iff.mpr c82
   subst c82
   rw [if_neg (show ¬ (false = true) by decide)] at H
   replace H := Option.bind_eq_some_iff.mp H
   obtain ⟨⟨t669, t672, t675⟩, A830, H⟩ := H
   replace H : ((laws_eqPair.f kj15 t645 t648 t651 t669 t672 t675).bind fun t678 => (if t678 = true then ((laws_markPair.f kj15 t645 t648 t651 1).bind fun bt679 => (if bt679.1 < 0 then (laws_FnExactStepPair.j1 kj15 t643 true l0_0 l0_1 l0_2 a1_0 a1_1 t634 t637 t640 t657 t660 t663) else ((laws_eqPair.f kj15 t657 t660 t663 t634 t637 t640).bind fun t683 => (if t683 = true then (laws_FnExactStepPair.j1 kj15 t643 (t666 != t643) l0_0 l0_1 l0_2 a1_0 a1_1 t634 t637 t640 t657 t660 t663) else (laws_FnExactStepPair.j1 kj15 t643 true l0_0 l0_1 l0_2 a1_0 a1_1 t634 t637 t640 t657 t660 t663))))) else (some false))) = some r := H
   have A83 := Aside0.mk A830
   clear A830
   replace H := Option.bind_eq_some_iff.mp H
   obtain ⟨t678, A840, H⟩ := H
   replace H : (if t678 = true then ((laws_markPair.f kj15 t645 t648 t651 1).bind fun bt679 => (if bt679.1 < 0 then (laws_FnExactStepPair.j1 kj15 t643 true l0_0 l0_1 l0_2 a1_0 a1_1 t634 t637 t640 t657 t660 t663) else ((laws_eqPair.f kj15 t657 t660 t663 t634 t637 t640).bind fun t683 => (if t683 = true then (laws_FnExactStepPair.j1 kj15 t643 (t666 != t643) l0_0 l0_1 l0_2 a1_0 a1_1 t634 t637 t640 t657 t660 t663) else (laws_FnExactStepPair.j1 kj15 t643 true l0_0 l0_1 l0_2 a1_0 a1_1 t634 t637 t640 t657 t660 t663))))) else (some false)) = some r := H
   have A84 := Aside0.mk A840
   clear A840
   by_cases c85 : t678 = true
   rotate_left
   ·replace c85 := Bool.eq_false_iff.mpr c85
    subst c85
    rw [if_neg (show ¬ (false = true) by decide)] at H
    obtain rfl := Option.some.inj H
    try go_wp2
    replace HO_645000 := rd_ HO_645000
    replace HO_645001 := rd_ HO_645001
    replace HO_645002 := rd_ HO_645002
    replace HO_655000 := rd_ HO_655000
    replace HO_655001 := rd_ HO_655001
    replace HO_655002 := rd_ HO_655002
    replace HO_668000 := rd_ HO_668000
    replace HO_668001 := rd_ HO_668001
    replace HO_668002 := rd_ HO_668002
    replace BK620 := bd_ BK620
    replace BK621 := bd_ BK621
    replace BK644 := bd_ BK644
    replace BK654 := bd_ BK654
    replace BK667 := bd_ BK667
    replace HB := Aside0.mk (below_drew1 HB.out)
    refine start_ (n := 5) (S := fun w' => w'.cell? ⟨gb654, 0, none⟩ = some (.slice Ao41 t645.length co41) ∧ w'.cell? ⟨gb654, 1, none⟩ = some (.slice Ao46 t648.length co46) ∧ w'.cell? ⟨gb654, 2, none⟩ = some (.slice Ao47 t651.length co47) ∧ w'.cell? ⟨gb620, 0, none⟩ = some (.slice A0_0 l0_0.length c0_0) ∧ w'.cell? ⟨gb620, 1, none⟩ = some (.slice A0_1 l0_1.length c0_1) ∧ w'.cell? ⟨gb620, 2, none⟩ = some (.slice A0_2 l0_2.length c0_2)) (ds := []) (bs 5 0) (by kernel_rfl) rfl rfl ⟨bc_ BK654 0, bc_ BK654 1, bc_ BK654 2, bc_ BK620 0, bc_ BK620 1, bc_ BK620 2⟩ (fun hHeld => ?_)
    generalize wc.drew = w222 at HO_645000 HO_645001 HO_645002 HO_655000 HO_655001 HO_655002 HO_668000 HO_668001 HO_668002 BK620 BK621 BK644 BK654 BK667 HB hHeld ⊢
    refine take_ (i := 0) (N := some 47) (v := ?_) (a' := ?_) (bs 5 1) rfl rfl (by kernel_rfl) (fun _ _ _ h => h) (Or.inl ⟨by rfl, ?_⟩) hHeld ?_ ?_
    rotate_left
    ·rintro w' ⟨s0, s1, s2, s3, s4, s5⟩
     go_simp
     with_reducible rfl
    rotate_left
    ·simp only [Act.put, List.setIfInBounds_toArray, List.set_cons_zero, List.set_cons_succ, i64_w, i32_w]
     rfl
    refine take_ (i := 1) (N := some 48) (v := ?_) (a' := ?_) (bs 5 3) rfl rfl (by kernel_rfl) (fun _ _ _ h => h) (Or.inl ⟨by rfl, ?_⟩) hHeld ?_ ?_
    rotate_left
    ·rintro w' ⟨s0, s1, s2, s3, s4, s5⟩
     go_simp
     with_reducible rfl
    rotate_left
    ·simp only [Act.put, List.setIfInBounds_toArray, List.set_cons_zero, List.set_cons_succ, i64_w, i32_w]
     rfl
    refine one_ (i := 2) (N := some 49) (bs 5 7) rfl rfl (by kernel_rfl) (by decide) (fun K hK => ?_)
    refine goes_ Try.func31 (by kernel_rfl) rfl #[.agg #[.slice A0_0 l0_0.length c0_0, .slice A0_1 l0_1.length c0_1, .slice A0_2 l0_2.length c0_2]] (by rfl) rfl rfl tm_ ?_
    with_reducible refine (laws_toPair.calls kj15 _ _ l0_0 _ _ l0_1 _ _ l0_2 t669 t672 t675 _ ?side1 ?side2 ?side3 ?side4 ?side5 ?side6 A83.out).mono ?_
    (case side1 => exact ca (Kd.C_below HR0_0.out HB.out))
    (case side2 => exact HC0_0.out)
    (case side3 => exact ca (Kd.C_below HR0_1.out HB.out))
    (case side4 => exact HC0_1.out)
    (case side5 => exact ca (Kd.C_below HR0_2.out HB.out))
    (case side6 => exact HC0_2.out)
    rintro e w223 ⟨v670, v673, v676, rfl, ho0, ho1, ho2, hb⟩
    refine ⟨_, rfl, ?_⟩
    have HO671 := Aside0.mk (Kd.R_lower (Kd.R_new' (Kd.R_new' (Kd.R_new' (Kd.R_new' (Kd.R_new' (Kd.R_new' ho0 (rl_ HO_645000)) (rl_ HO_645001)) (rl_ HO_655000)) (rl_ HO_655001)) (rl_ HO_668000)) (rl_ HO_668001)) (below_size (hB HB)))
    have HO674 := Aside0.mk (Kd.R_lower (Kd.R_new' (Kd.R_new' (Kd.R_new' (Kd.R_new' (Kd.R_new' (Kd.R_new' ho1 (rl_ HO_645000)) (rl_ HO_645001)) (rl_ HO_655000)) (rl_ HO_655001)) (rl_ HO_668000)) (rl_ HO_668001)) (below_size (hB HB)))
    have HO677 := Aside0.mk (Kd.R_lower (Kd.R_new' (Kd.R_new' (Kd.R_new' ho2 (rl_ HO_645002)) (rl_ HO_655002)) (rl_ HO_668002)) (below_size (hB HB)))
    replace HO_645000 := rt2_ HO_645000 hb ho0 ho1
    replace HO_645001 := rt2_ HO_645001 hb ho0 ho1
    replace HO_645002 := re_ HO_645002 ho2 hb
    replace HO_655000 := rt2_ HO_655000 hb ho0 ho1
    replace HO_655001 := rt2_ HO_655001 hb ho0 ho1
    replace HO_655002 := re_ HO_655002 ho2 hb
    replace HO_668000 := rt2_ HO_668000 hb ho0 ho1
    replace HO_668001 := rt2_ HO_668001 hb ho0 ho1
    replace HO_668002 := re_ HO_668002 ho2 hb
    replace BK620 := bb_ BK620 hb
    replace BK621 := bb_ BK621 hb
    replace BK644 := bb_ BK644 hb
    replace BK654 := bb_ BK654 hb
    replace BK667 := bb_ BK667 hb
    replace HB := bst_ HB hb
    clear hb ho0 ho1 ho2
    obtain ⟨Ao224, co224, eo224⟩ := Kd.R_slice HO671.out
    (first | subst eo224 | (injection eo224 with f1_ f2_ f3_; have f4_ := f1_.symm; have f5_ := f3_.symm; clear f1_ f2_ f3_; subst f4_; subst f5_))
    obtain ⟨Ao225, co225, eo225⟩ := Kd.R_slice HO674.out
    (first | subst eo225 | (injection eo225 with f1_ f2_ f3_; have f4_ := f1_.symm; have f5_ := f3_.symm; clear f1_ f2_ f3_; subst f4_; subst f5_))
    obtain ⟨Ao226, co226, eo226⟩ := Kd.R_slice HO677.out
    (first | subst eo226 | (injection eo226 with f1_ f2_ f3_; have f4_ := f1_.symm; have f5_ := f3_.symm; clear f1_ f2_ f3_; subst f4_; subst f5_))
    refine hK.out _ _ ⟨bc_ BK654 0, bc_ BK654 1, bc_ BK654 2, bc_ BK620 0, bc_ BK620 1, bc_ BK620 2⟩ (fun hHeld => ?_)
    clear hK K
    refine nm_ 49 ?_
    refine one_ (i := 3) (N := some 50) (bs 5 15) rfl rfl (by kernel_rfl) (by decide) (fun K hK => ?_)
    refine goes_ Try.func34 (by kernel_rfl) rfl #[.agg #[.slice Ao41 t645.length co41, .slice Ao46 t648.length co46, .slice Ao47 t651.length co47], .agg #[.slice Ao224 t669.length co224, .slice Ao225 t672.length co225, .slice Ao226 t675.length co226]] (by rfl) rfl rfl tm_ ?_
    with_reducible refine (laws_eqPair.calls kj15 _ _ t645 _ _ t648 _ _ t651 _ _ t669 _ _ t672 _ _ t675 false _ ?side1 ?side2 ?side3 ?side4 ?side5 ?side6 ?side7 ?side8 ?side9 ?side10 ?side11 ?side12 A84.out).mono ?_
    (case side1 => exact ca (Kd.R_reads' HO_655000.out).2.2)
    (case side2 => exact (Kd.R_reads' HO_655000.out).2.1)
    (case side3 => exact ca (Kd.R_reads' HO_655001.out).2.2)
    (case side4 => exact (Kd.R_reads' HO_655001.out).2.1)
    (case side5 => exact ca (Kd.R_reads' HO_655002.out).2.2)
    (case side6 => exact (Kd.R_reads' HO_655002.out).2.1)
    (case side7 => exact ca (Kd.R_reads' HO671.out).2.2)
    (case side8 => exact (Kd.R_reads' HO671.out).2.1)
    (case side9 => exact ca (Kd.R_reads' HO674.out).2.2)
    (case side10 => exact (Kd.R_reads' HO674.out).2.1)
    (case side11 => exact ca (Kd.R_reads' HO677.out).2.2)
    (case side12 => exact (Kd.R_reads' HO677.out).2.1)
    rintro e w227 ⟨rfl, hb⟩
    refine ⟨_, rfl, ?_⟩
    replace HO_645000 := rb_ HO_645000 hb
    replace HO_645001 := rb_ HO_645001 hb
    replace HO_645002 := rb_ HO_645002 hb
    replace HO_655000 := rb_ HO_655000 hb
    replace HO_655001 := rb_ HO_655001 hb
    replace HO_655002 := rb_ HO_655002 hb
    replace HO_668000 := rb_ HO_668000 hb
    replace HO_668001 := rb_ HO_668001 hb
    replace HO_668002 := rb_ HO_668002 hb
    replace HO671 := rb_ HO671 hb
    replace HO674 := rb_ HO674 hb
    replace HO677 := rb_ HO677 hb
    replace BK620 := bb_ BK620 hb
    replace BK621 := bb_ BK621 hb
    replace BK644 := bb_ BK644 hb
    replace BK654 := bb_ BK654 hb
    replace BK667 := bb_ BK667 hb
    replace HB := bst_ HB hb
    clear hb
    refine hK.out _ _ ⟨bc_ BK654 0, bc_ BK654 1, bc_ BK654 2, bc_ BK620 0, bc_ BK620 1, bc_ BK620 2⟩ (fun hHeld => ?_)
    clear hK K
    refine nm_ 50 ?_
    refine pure_ (i := 4) (N := some 51) (v := ?_) (a' := ?_) (bs 5 31) rfl rfl (by kernel_rfl) (fun _ _ _ h => h) (Or.inl ⟨by rfl, ?_⟩) ?_ ?_
    rotate_left
    ·intro w'
     go_simp
     with_reducible rfl
    rotate_left
    ·simp only [Act.put, List.setIfInBounds_toArray, List.set_cons_zero, List.set_cons_succ, i64_w, i32_w]
     rfl
    refine done_ (by kernel_rfl) ?_
    try go_wp2
    go_ret
    exact ⟨by first | rfl | (simp [errW_none, errW_some] <;> rfl) | (simp [*, errW_none, errW_some] <;> rfl), by repeat (first | (with_reducible first | exact HB.out | apply below_alloc | apply pw_below_drewN | apply below_drew1 | refine below_set ?_ GE620.out | refine below_set ?_ GE621.out | refine below_set ?_ GE644.out | refine below_set ?_ GE654.out | refine below_set ?_ GE667.out) | exact HB.out)⟩
   subst c85
   rw [if_pos rfl] at H
   replace H := Option.bind_eq_some_iff.mp H
   obtain ⟨⟨t679, t680, t681, t682⟩, A860, H⟩ := H
   replace H : (if t679 < 0 then (laws_FnExactStepPair.j1 kj15 t643 true l0_0 l0_1 l0_2 a1_0 a1_1 t634 t637 t640 t657 t660 t663) else ((laws_eqPair.f kj15 t657 t660 t663 t634 t637 t640).bind fun t683 => (if t683 = true then (laws_FnExactStepPair.j1 kj15 t643 (t666 != t643) l0_0 l0_1 l0_2 a1_0 a1_1 t634 t637 t640 t657 t660 t663) else (laws_FnExactStepPair.j1 kj15 t643 true l0_0 l0_1 l0_2 a1_0 a1_1 t634 t637 t640 t657 t660 t663)))) = some r := H
   have A86 := Aside0.mk A860
   clear A860
   have HC87 := Aside0.mk H
   clear H
   try go_wp2
   replace HO_645000 := rd_ HO_645000
   replace HO_645001 := rd_ HO_645001
   replace HO_645002 := rd_ HO_645002
   replace HO_655000 := rd_ HO_655000
   replace HO_655001 := rd_ HO_655001
   replace HO_655002 := rd_ HO_655002
   replace HO_668000 := rd_ HO_668000
   replace HO_668001 := rd_ HO_668001
   replace HO_668002 := rd_ HO_668002
   replace BK620 := bd_ BK620
   replace BK621 := bd_ BK621
   replace BK644 := bd_ BK644
   replace BK654 := bd_ BK654
   replace BK667 := bd_ BK667
   replace HB := Aside0.mk (below_drew1 HB.out)
   refine start_ (n := 5) (S := fun w' => w'.cell? ⟨gb654, 0, none⟩ = some (.slice Ao41 t645.length co41) ∧ w'.cell? ⟨gb654, 1, none⟩ = some (.slice Ao46 t648.length co46) ∧ w'.cell? ⟨gb654, 2, none⟩ = some (.slice Ao47 t651.length co47) ∧ w'.cell? ⟨gb620, 0, none⟩ = some (.slice A0_0 l0_0.length c0_0) ∧ w'.cell? ⟨gb620, 1, none⟩ = some (.slice A0_1 l0_1.length c0_1) ∧ w'.cell? ⟨gb620, 2, none⟩ = some (.slice A0_2 l0_2.length c0_2)) (ds := []) (bs 5 0) (by kernel_rfl) rfl rfl ⟨bc_ BK654 0, bc_ BK654 1, bc_ BK654 2, bc_ BK620 0, bc_ BK620 1, bc_ BK620 2⟩ (fun hHeld => ?_)
   generalize wc.drew = w88 at HO_645000 HO_645001 HO_645002 HO_655000 HO_655001 HO_655002 HO_668000 HO_668001 HO_668002 BK620 BK621 BK644 BK654 BK667 HB hHeld ⊢
   refine take_ (i := 0) (N := some 47) (v := ?_) (a' := ?_) (bs 5 1) rfl rfl (by kernel_rfl) (fun _ _ _ h => h) (Or.inl ⟨by rfl, ?_⟩) hHeld ?_ ?_
   rotate_left
   ·rintro w' ⟨s0, s1, s2, s3, s4, s5⟩
    go_simp
    with_reducible rfl
   rotate_left
   ·simp only [Act.put, List.setIfInBounds_toArray, List.set_cons_zero, List.set_cons_succ, i64_w, i32_w]
    rfl
   refine take_ (i := 1) (N := some 48) (v := ?_) (a' := ?_) (bs 5 3) rfl rfl (by kernel_rfl) (fun _ _ _ h => h) (Or.inl ⟨by rfl, ?_⟩) hHeld ?_ ?_
   rotate_left
   ·rintro w' ⟨s0, s1, s2, s3, s4, s5⟩
    go_simp
    with_reducible rfl
   rotate_left
   ·simp only [Act.put, List.setIfInBounds_toArray, List.set_cons_zero, List.set_cons_succ, i64_w, i32_w]
    rfl
   refine one_ (i := 2) (N := some 49) (bs 5 7) rfl rfl (by kernel_rfl) (by decide) (fun K hK => ?_)
   refine goes_ Try.func31 (by kernel_rfl) rfl #[.agg #[.slice A0_0 l0_0.length c0_0, .slice A0_1 l0_1.length c0_1, .slice A0_2 l0_2.length c0_2]] (by rfl) rfl rfl tm_ ?_
   with_reducible refine (laws_toPair.calls kj15 _ _ l0_0 _ _ l0_1 _ _ l0_2 t669 t672 t675 _ ?side1 ?side2 ?side3 ?side4 ?side5 ?side6 A83.out).mono ?_
   (case side1 => exact ca (Kd.C_below HR0_0.out HB.out))
   (case side2 => exact HC0_0.out)
   (case side3 => exact ca (Kd.C_below HR0_1.out HB.out))
   (case side4 => exact HC0_1.out)
   (case side5 => exact ca (Kd.C_below HR0_2.out HB.out))
   (case side6 => exact HC0_2.out)
   rintro e w89 ⟨v670, v673, v676, rfl, ho0, ho1, ho2, hb⟩
   refine ⟨_, rfl, ?_⟩
   have HO671 := Aside0.mk (Kd.R_lower (Kd.R_new' (Kd.R_new' (Kd.R_new' (Kd.R_new' (Kd.R_new' (Kd.R_new' ho0 (rl_ HO_645000)) (rl_ HO_645001)) (rl_ HO_655000)) (rl_ HO_655001)) (rl_ HO_668000)) (rl_ HO_668001)) (below_size (hB HB)))
   have HO674 := Aside0.mk (Kd.R_lower (Kd.R_new' (Kd.R_new' (Kd.R_new' (Kd.R_new' (Kd.R_new' (Kd.R_new' ho1 (rl_ HO_645000)) (rl_ HO_645001)) (rl_ HO_655000)) (rl_ HO_655001)) (rl_ HO_668000)) (rl_ HO_668001)) (below_size (hB HB)))
   have HO677 := Aside0.mk (Kd.R_lower (Kd.R_new' (Kd.R_new' (Kd.R_new' ho2 (rl_ HO_645002)) (rl_ HO_655002)) (rl_ HO_668002)) (below_size (hB HB)))
   replace HO_645000 := rt2_ HO_645000 hb ho0 ho1
   replace HO_645001 := rt2_ HO_645001 hb ho0 ho1
   replace HO_645002 := re_ HO_645002 ho2 hb
   replace HO_655000 := rt2_ HO_655000 hb ho0 ho1
   replace HO_655001 := rt2_ HO_655001 hb ho0 ho1
   replace HO_655002 := re_ HO_655002 ho2 hb
   replace HO_668000 := rt2_ HO_668000 hb ho0 ho1
   replace HO_668001 := rt2_ HO_668001 hb ho0 ho1
   replace HO_668002 := re_ HO_668002 ho2 hb
   replace BK620 := bb_ BK620 hb
   replace BK621 := bb_ BK621 hb
   replace BK644 := bb_ BK644 hb
   replace BK654 := bb_ BK654 hb
   replace BK667 := bb_ BK667 hb
   replace HB := bst_ HB hb
   clear hb ho0 ho1 ho2
   obtain ⟨Ao90, co90, eo90⟩ := Kd.R_slice HO671.out
   (first | subst eo90 | (injection eo90 with f1_ f2_ f3_; have f4_ := f1_.symm; have f5_ := f3_.symm; clear f1_ f2_ f3_; subst f4_; subst f5_))
   obtain ⟨Ao91, co91, eo91⟩ := Kd.R_slice HO674.out
   (first | subst eo91 | (injection eo91 with f1_ f2_ f3_; have f4_ := f1_.symm; have f5_ := f3_.symm; clear f1_ f2_ f3_; subst f4_; subst f5_))
   obtain ⟨Ao92, co92, eo92⟩ := Kd.R_slice HO677.out
   (first | subst eo92 | (injection eo92 with f1_ f2_ f3_; have f4_ := f1_.symm; have f5_ := f3_.symm; clear f1_ f2_ f3_; subst f4_; subst f5_))
   refine hK.out _ _ ⟨bc_ BK654 0, bc_ BK654 1, bc_ BK654 2, bc_ BK620 0, bc_ BK620 1, bc_ BK620 2⟩ (fun hHeld => ?_)
   clear hK K
   refine nm_ 49 ?_
   refine one_ (i := 3) (N := some 50) (bs 5 15) rfl rfl (by kernel_rfl) (by decide) (fun K hK => ?_)
   refine goes_ Try.func34 (by kernel_rfl) rfl #[.agg #[.slice Ao41 t645.length co41, .slice Ao46 t648.length co46, .slice Ao47 t651.length co47], .agg #[.slice Ao90 t669.length co90, .slice Ao91 t672.length co91, .slice Ao92 t675.length co92]] (by rfl) rfl rfl tm_ ?_
   with_reducible refine (laws_eqPair.calls kj15 _ _ t645 _ _ t648 _ _ t651 _ _ t669 _ _ t672 _ _ t675 true _ ?side1 ?side2 ?side3 ?side4 ?side5 ?side6 ?side7 ?side8 ?side9 ?side10 ?side11 ?side12 A84.out).mono ?_
   (case side1 => exact ca (Kd.R_reads' HO_655000.out).2.2)
   (case side2 => exact (Kd.R_reads' HO_655000.out).2.1)
   (case side3 => exact ca (Kd.R_reads' HO_655001.out).2.2)
   (case side4 => exact (Kd.R_reads' HO_655001.out).2.1)
   (case side5 => exact ca (Kd.R_reads' HO_655002.out).2.2)
   (case side6 => exact (Kd.R_reads' HO_655002.out).2.1)
   (case side7 => exact ca (Kd.R_reads' HO671.out).2.2)
   (case side8 => exact (Kd.R_reads' HO671.out).2.1)
   (case side9 => exact ca (Kd.R_reads' HO674.out).2.2)
   (case side10 => exact (Kd.R_reads' HO674.out).2.1)
   (case side11 => exact ca (Kd.R_reads' HO677.out).2.2)
   (case side12 => exact (Kd.R_reads' HO677.out).2.1)
   rintro e w93 ⟨rfl, hb⟩
   refine ⟨_, rfl, ?_⟩
   replace HO_645000 := rb_ HO_645000 hb
   replace HO_645001 := rb_ HO_645001 hb
   replace HO_645002 := rb_ HO_645002 hb
   replace HO_655000 := rb_ HO_655000 hb
   replace HO_655001 := rb_ HO_655001 hb
   replace HO_655002 := rb_ HO_655002 hb
   replace HO_668000 := rb_ HO_668000 hb
   replace HO_668001 := rb_ HO_668001 hb
   replace HO_668002 := rb_ HO_668002 hb
   replace HO671 := rb_ HO671 hb
   replace HO674 := rb_ HO674 hb
   replace HO677 := rb_ HO677 hb
   replace BK620 := bb_ BK620 hb
   replace BK621 := bb_ BK621 hb
   replace BK644 := bb_ BK644 hb
   replace BK654 := bb_ BK654 hb
   replace BK667 := bb_ BK667 hb
   replace HB := bst_ HB hb
   clear hb
   refine hK.out _ _ ⟨bc_ BK654 0, bc_ BK654 1, bc_ BK654 2, bc_ BK620 0, bc_ BK620 1, bc_ BK620 2⟩ (fun hHeld => ?_)
   clear hK K
   refine nm_ 50 ?_
   refine pure_ (i := 4) (N := some 51) (v := ?_) (a' := ?_) (bs 5 31) rfl rfl (by kernel_rfl) (fun _ _ _ h => h) (Or.inl ⟨by rfl, ?_⟩) ?_ ?_
   rotate_left
   ·intro w'
    go_simp
    with_reducible rfl
   rotate_left
   ·simp only [Act.put, List.setIfInBounds_toArray, List.set_cons_zero, List.set_cons_succ, i64_w, i32_w]
    rfl
   refine done_ (by kernel_rfl) ?_
   have hnb94 := NB654_620.out
   have hnc94 := NB620_654.out
   have hnb95 := NB654_621.out
   have hnc95 := NB621_654.out
   have hnb96 := NB654_644.out
   have hnc96 := NB644_654.out
   have hnb97 := NB654_667.out
   have hnc97 := NB667_654.out
   have hcz98_0 : w93.cell? ⟨gb654, 0, none⟩ = some (.slice Ao41 t645.length co41) := bc_ BK654 0
   have hcz98_1 : w93.cell? ⟨gb654, 1, none⟩ = some (.slice Ao46 t648.length co46) := bc_ BK654 1
   have hcz98_2 : w93.cell? ⟨gb654, 2, none⟩ = some (.slice Ao47 t651.length co47) := bc_ BK654 2
   have hfz98_0 := blk_frozen BK654.out 0
   have hfz98_1 := blk_frozen BK654.out 1
   have hfz98_2 := blk_frozen BK654.out 2
   go_upto_region 14 with (first | ((with_reducible refine gate_callee (f := 35) rfl ?_); refine goesL_ (some 54) rfl rfl Try.func35 (by kernel_rfl) rfl #[.agg #[.slice Ao41 t645.length co41, .slice Ao46 t648.length co46, .slice Ao47 t651.length co47], .int .i64 1] rfl tm_ ?_; (with_reducible refine (laws_markPair.calls kj15 (fun k_ => some k_ = (.slice Ao41 t645.length co41 : Value).ownBlock) (.slice Ao41 t645.length co41) t645 (fun k_ => some k_ = (.slice Ao46 t648.length co46 : Value).ownBlock) (.slice Ao46 t648.length co46) t648 (fun k_ => some k_ = (.slice Ao47 t651.length co47 : Value).ownBlock) (.slice Ao47 t651.length co47) t651 1 t679 t680 t681 t682 w _ ?side1 ?side2 ?side3 ?side4 ?side5 ?side6 A86.out).mono ?_); (case side1 => repeat (first | (with_reducible first | exact HB.out | apply below_alloc | apply pw_below_drewN | apply below_drew1 | refine below_set ?_ GE620.out | refine below_set ?_ GE621.out | refine below_set ?_ GE644.out | refine below_set ?_ GE654.out | refine below_set ?_ GE667.out) | exact HB.out)); (case side2 => exact Kd.R_tight rfl HO_655000.out); (case side3 => exact fun k_ e_ => (HO_655000.out.1 k_ e_.symm).1.1.2.2.1); (case side4 => exact Kd.R_tight rfl HO_655001.out); (case side5 => exact fun k_ e_ => (HO_655001.out.1 k_ e_.symm).1.1.2.2.1); (case side6 => exact Kd.R_tight rfl HO_655002.out); rintro e w99 ⟨rfl, hy0, hy1, hy2, hb, hkp⟩; refine ⟨_, rfl, ?_⟩; replace HO_645000 := Aside0.mk (Kd.R_mono (ok' := fun k_ => no_ (.slice Ao33 t637.length co33) k_ ∧ no_ (.slice Ao41 t645.length co41) k_ ∧ no_ (.slice Ao46 t648.length co46) k_ ∧ no_ (.slice Ao54 t657.length co54) k_ ∧ no_ (.slice Ao56 t660.length co56) k_ ∧ no_ (.slice Ao90 t669.length co90) k_ ∧ no_ (.slice Ao91 t672.length co91) k_) (Kd.R_keptB ((Kd.R_apart' HO_645000.out (Kd.R_typed HO_655002.out) (by decide))) hkp (fun k_ hk_ hs_ => Or.elim hs_ (fun e_ => (hk_.1.1.1.2.1) e_) (fun e_ => Or.elim e_ (fun e_ => (hk_.1.1.1.2.2.1) e_) (fun e_ => (hk_.2) e_)))) (fun k_ hk_ => ⟨hk_.1.1.1.1.1, hk_.1.1.1.1.2.1, hk_.1.1.1.1.2.2.1, hk_.1.1.1.1.2.2.2.1, hk_.1.1.1.1.2.2.2.2, hk_.1.1.1.2, hk_.1.1.2⟩)); replace HO_645001 := Aside0.mk (Kd.R_mono (ok' := fun k_ => no_ (.slice Ao31 t634.length co31) k_ ∧ no_ (.slice Ao41 t645.length co41) k_ ∧ no_ (.slice Ao46 t648.length co46) k_ ∧ no_ (.slice Ao54 t657.length co54) k_ ∧ no_ (.slice Ao56 t660.length co56) k_ ∧ no_ (.slice Ao90 t669.length co90) k_ ∧ no_ (.slice Ao91 t672.length co91) k_) (Kd.R_keptB ((Kd.R_apart' HO_645001.out (Kd.R_typed HO_655002.out) (by decide))) hkp (fun k_ hk_ hs_ => Or.elim hs_ (fun e_ => (hk_.1.1.1.2.1) e_) (fun e_ => Or.elim e_ (fun e_ => (hk_.1.1.1.2.2.1) e_) (fun e_ => (hk_.2) e_)))) (fun k_ hk_ => ⟨hk_.1.1.1.1.1, hk_.1.1.1.1.2.1, hk_.1.1.1.1.2.2.1, hk_.1.1.1.1.2.2.2.1, hk_.1.1.1.1.2.2.2.2, hk_.1.1.1.2, hk_.1.1.2⟩)); replace HO_645002 := Aside0.mk (Kd.R_mono (ok' := fun k_ => no_ (.slice Ao47 t651.length co47) k_ ∧ no_ (.slice Ao58 t663.length co58) k_ ∧ no_ (.slice Ao92 t675.length co92) k_) (Kd.R_keptB ((Kd.R_apart' (Kd.R_apart' HO_645002.out (Kd.R_typed HO_655000.out) (by decide)) (Kd.R_typed HO_655001.out) (by decide))) hkp (fun k_ hk_ hs_ => Or.elim hs_ (fun e_ => (hk_.1.2) e_) (fun e_ => Or.elim e_ (fun e_ => (hk_.2) e_) (fun e_ => (hk_.1.1.1.1) e_)))) (fun k_ hk_ => ⟨hk_.1.1.1.1.1, hk_.1.1.1.1.2, hk_.1.1.1.2⟩)); replace HO_668000 := Aside0.mk (Kd.R_mono (ok' := fun k_ => no_ (.slice Ao31 t634.length co31) k_ ∧ no_ (.slice Ao33 t637.length co33) k_ ∧ no_ (.slice Ao41 t645.length co41) k_ ∧ no_ (.slice Ao46 t648.length co46) k_ ∧ no_ (.slice Ao56 t660.length co56) k_ ∧ no_ (.slice Ao90 t669.length co90) k_ ∧ no_ (.slice Ao91 t672.length co91) k_) (Kd.R_keptB ((Kd.R_apart' HO_668000.out (Kd.R_typed HO_655002.out) (by decide))) hkp (fun k_ hk_ hs_ => Or.elim hs_ (fun e_ => (hk_.1.1.1.2.2.1) e_) (fun e_ => Or.elim e_ (fun e_ => (hk_.1.1.1.2.2.2.1) e_) (fun e_ => (hk_.2) e_)))) (fun k_ hk_ => ⟨hk_.1.1.1.1.1, hk_.1.1.1.1.2.1, hk_.1.1.1.1.2.2.1, hk_.1.1.1.1.2.2.2.1, hk_.1.1.1.1.2.2.2.2, hk_.1.1.1.2, hk_.1.1.2⟩)); replace HO_668001 := Aside0.mk (Kd.R_mono (ok' := fun k_ => no_ (.slice Ao31 t634.length co31) k_ ∧ no_ (.slice Ao33 t637.length co33) k_ ∧ no_ (.slice Ao41 t645.length co41) k_ ∧ no_ (.slice Ao46 t648.length co46) k_ ∧ no_ (.slice Ao54 t657.length co54) k_ ∧ no_ (.slice Ao90 t669.length co90) k_ ∧ no_ (.slice Ao91 t672.length co91) k_) (Kd.R_keptB ((Kd.R_apart' HO_668001.out (Kd.R_typed HO_655002.out) (by decide))) hkp (fun k_ hk_ hs_ => Or.elim hs_ (fun e_ => (hk_.1.1.1.2.2.1) e_) (fun e_ => Or.elim e_ (fun e_ => (hk_.1.1.1.2.2.2.1) e_) (fun e_ => (hk_.2) e_)))) (fun k_ hk_ => ⟨hk_.1.1.1.1.1, hk_.1.1.1.1.2.1, hk_.1.1.1.1.2.2.1, hk_.1.1.1.1.2.2.2.1, hk_.1.1.1.1.2.2.2.2, hk_.1.1.1.2, hk_.1.1.2⟩)); replace HO_668002 := Aside0.mk (Kd.R_mono (ok' := fun k_ => no_ (.slice Ao35 t640.length co35) k_ ∧ no_ (.slice Ao47 t651.length co47) k_ ∧ no_ (.slice Ao92 t675.length co92) k_) (Kd.R_keptB ((Kd.R_apart' (Kd.R_apart' HO_668002.out (Kd.R_typed HO_655000.out) (by decide)) (Kd.R_typed HO_655001.out) (by decide))) hkp (fun k_ hk_ hs_ => Or.elim hs_ (fun e_ => (hk_.1.2) e_) (fun e_ => Or.elim e_ (fun e_ => (hk_.2) e_) (fun e_ => (hk_.1.1.1.2) e_)))) (fun k_ hk_ => ⟨hk_.1.1.1.1.1, hk_.1.1.1.1.2, hk_.1.1.1.2⟩)); replace BK620 := Aside0.mk (blk_kept (ba BK620.out) hkp (fun hs_ => Or.elim hs_ (kne_ HO_655000 BK620) (fun e_ => Or.elim e_ (kne_ HO_655001 BK620) (kne_ HO_655002 BK620)))); replace BK621 := Aside0.mk (blk_kept (ba BK621.out) hkp (fun hs_ => Or.elim hs_ (kne_ HO_655000 BK621) (fun e_ => Or.elim e_ (kne_ HO_655001 BK621) (kne_ HO_655002 BK621)))); replace BK644 := Aside0.mk (blk_kept (ba BK644.out) hkp (fun hs_ => Or.elim hs_ (kne_ HO_655000 BK644) (fun e_ => Or.elim e_ (kne_ HO_655001 BK644) (kne_ HO_655002 BK644)))); replace BK654 := Aside0.mk (blk_kept (ba BK654.out) hkp (fun hs_ => Or.elim hs_ (kne_ HO_655000 BK654) (fun e_ => Or.elim e_ (kne_ HO_655001 BK654) (kne_ HO_655002 BK654)))); replace BK667 := Aside0.mk (blk_kept (ba BK667.out) hkp (fun hs_ => Or.elim hs_ (kne_ HO_655000 BK667) (fun e_ => Or.elim e_ (kne_ HO_655001 BK667) (kne_ HO_655002 BK667)))); replace HO671 := Aside0.mk (Kd.R_mono (ok' := fun k_ => no_ (.slice Ao31 t634.length co31) k_ ∧ no_ (.slice Ao33 t637.length co33) k_ ∧ no_ (.slice Ao41 t645.length co41) k_ ∧ no_ (.slice Ao46 t648.length co46) k_ ∧ no_ (.slice Ao54 t657.length co54) k_ ∧ no_ (.slice Ao56 t660.length co56) k_ ∧ no_ (.slice Ao91 t672.length co91) k_) (Kd.R_keptB ((Kd.R_apart' HO671.out (Kd.R_typed HO_655002.out) (by decide))) hkp (fun k_ hk_ hs_ => Or.elim hs_ (fun e_ => (hk_.1.1.1.1.2) e_) (fun e_ => Or.elim e_ (fun e_ => (hk_.1.1.1.2) e_) (fun e_ => (hk_.2) e_)))) (fun k_ hk_ => ⟨hk_.1.1.1.1.1.1.1.2, hk_.1.1.1.1.1.1.2, hk_.1.1.1.1.1.2, hk_.1.1.1.1.2, hk_.1.1.1.2, hk_.1.1.2, hk_.1.1.1.1.1.1.1.1⟩)); replace HO674 := Aside0.mk (Kd.R_mono (ok' := fun k_ => no_ (.slice Ao31 t634.length co31) k_ ∧ no_ (.slice Ao33 t637.length co33) k_ ∧ no_ (.slice Ao41 t645.length co41) k_ ∧ no_ (.slice Ao46 t648.length co46) k_ ∧ no_ (.slice Ao54 t657.length co54) k_ ∧ no_ (.slice Ao56 t660.length co56) k_ ∧ no_ (.slice Ao90 t669.length co90) k_) (Kd.R_keptB ((Kd.R_apart' HO674.out (Kd.R_typed HO_655002.out) (by decide))) hkp (fun k_ hk_ hs_ => Or.elim hs_ (fun e_ => (hk_.1.1.1.1.2) e_) (fun e_ => Or.elim e_ (fun e_ => (hk_.1.1.1.2) e_) (fun e_ => (hk_.2) e_)))) (fun k_ hk_ => ⟨hk_.1.1.1.1.1.1.1.2, hk_.1.1.1.1.1.1.2, hk_.1.1.1.1.1.2, hk_.1.1.1.1.2, hk_.1.1.1.2, hk_.1.1.2, hk_.1.1.1.1.1.1.1.1⟩)); replace HO_655002 := Aside0.mk (Kd.R_reok rfl hy2 (fun k_ e_ => HO_655002.out.1 k_ e_)); replace HO677 := Aside0.mk (Kd.R_mono (ok' := fun k_ => no_ (.slice Ao35 t640.length co35) k_ ∧ no_ (.slice Ao47 t651.length co47) k_ ∧ no_ (.slice Ao58 t663.length co58) k_) (Kd.R_keptB ((Kd.R_apart' (Kd.R_apart' HO677.out (Kd.R_typed HO_655000.out) (by decide)) (Kd.R_typed HO_655001.out) (by decide))) hkp (fun k_ hk_ hs_ => Or.elim hs_ (fun e_ => (hk_.1.2) e_) (fun e_ => Or.elim e_ (fun e_ => (hk_.2) e_) (fun e_ => (hk_.1.1.1.2) e_)))) (fun k_ hk_ => ⟨hk_.1.1.1.1.1.2, hk_.1.1.1.1.2, hk_.1.1.1.2⟩)); replace HO_655000 := Aside0.mk (Kd.R_reok rfl hy0 (fun k_ e_ => HO_655000.out.1 k_ e_)); replace HO_655001 := Aside0.mk (Kd.R_reok rfl hy1 (fun k_ e_ => HO_655001.out.1 k_ e_)); replace HB := Aside0.mk (hb); clear hb))
   (try simp only [Act.put, List.setIfInBounds_toArray, List.set_cons_zero, List.set_cons_succ])
   go_cut [67] (fun v67 wc => ∃ (kq : Nat) (x67_86 : Bool), v67 = .bool x67_86 ∧ Aside0 (laws_FnExactStepPair.j1 kq t643 x67_86 l0_0 l0_1 l0_2 a1_0 a1_1 t634 t637 t640 t657 t660 t663 = some r) ∧ Aside0 (kq ≤ kj15) ∧ Aside0 (Kd.R (Kd.int .i64) 3 wc w.heap.size (fun k_ => no_ (.slice Ao33 t637.length co33) k_ ∧ no_ (.slice Ao41 t645.length co41) k_ ∧ no_ (.slice Ao46 t648.length co46) k_ ∧ no_ (.slice Ao54 t657.length co54) k_ ∧ no_ (.slice Ao56 t660.length co56) k_) (.slice Ao31 t634.length co31) t634) ∧ Aside0 (Kd.R (Kd.int .i64) 3 wc w.heap.size (fun k_ => no_ (.slice Ao31 t634.length co31) k_ ∧ no_ (.slice Ao41 t645.length co41) k_ ∧ no_ (.slice Ao46 t648.length co46) k_ ∧ no_ (.slice Ao54 t657.length co54) k_ ∧ no_ (.slice Ao56 t660.length co56) k_) (.slice Ao33 t637.length co33) t637) ∧ Aside0 (Kd.R k127 127 wc w.heap.size (fun k_ => no_ (.slice Ao47 t651.length co47) k_ ∧ no_ (.slice Ao58 t663.length co58) k_) (.slice Ao35 t640.length co35) t640) ∧ Aside0 (Kd.R (Kd.int .i64) 3 wc w.heap.size (fun k_ => no_ (.slice Ao31 t634.length co31) k_ ∧ no_ (.slice Ao33 t637.length co33) k_ ∧ no_ (.slice Ao46 t648.length co46) k_ ∧ no_ (.slice Ao54 t657.length co54) k_ ∧ no_ (.slice Ao56 t660.length co56) k_) (.slice Ao41 t645.length co41) t680) ∧ Aside0 (Kd.R (Kd.int .i64) 3 wc w.heap.size (fun k_ => no_ (.slice Ao31 t634.length co31) k_ ∧ no_ (.slice Ao33 t637.length co33) k_ ∧ no_ (.slice Ao41 t645.length co41) k_ ∧ no_ (.slice Ao54 t657.length co54) k_ ∧ no_ (.slice Ao56 t660.length co56) k_) (.slice Ao46 t648.length co46) t681) ∧ Aside0 (Kd.R k127 127 wc w.heap.size (fun k_ => no_ (.slice Ao35 t640.length co35) k_ ∧ no_ (.slice Ao58 t663.length co58) k_) (.slice Ao47 t651.length co47) t682) ∧ Aside0 (Kd.R (Kd.int .i64) 3 wc w.heap.size (fun k_ => no_ (.slice Ao31 t634.length co31) k_ ∧ no_ (.slice Ao33 t637.length co33) k_ ∧ no_ (.slice Ao41 t645.length co41) k_ ∧ no_ (.slice Ao46 t648.length co46) k_ ∧ no_ (.slice Ao56 t660.length co56) k_) (.slice Ao54 t657.length co54) t657) ∧ Aside0 (Kd.R (Kd.int .i64) 3 wc w.heap.size (fun k_ => no_ (.slice Ao31 t634.length co31) k_ ∧ no_ (.slice Ao33 t637.length co33) k_ ∧ no_ (.slice Ao41 t645.length co41) k_ ∧ no_ (.slice Ao46 t648.length co46) k_ ∧ no_ (.slice Ao54 t657.length co54) k_) (.slice Ao56 t660.length co56) t660) ∧ Aside0 (Kd.R k127 127 wc w.heap.size (fun k_ => no_ (.slice Ao35 t640.length co35) k_ ∧ no_ (.slice Ao47 t651.length co47) k_) (.slice Ao58 t663.length co58) t663) ∧ Aside0 (wc.heap[gb620]? = some (.cells #[(.slice A0_0 l0_0.length c0_0), (.slice A0_1 l0_1.length c0_1), (.slice A0_2 l0_2.length c0_2)] 41 (0, 0))) ∧ Aside0 (wc.heap[gb621]? = some (.cells #[.int .i64 a1_0, .int .i64 a1_1] 43 (0, 0))) ∧ Aside0 (wc.heap[gb644]? = some (.cells #[(.slice Ao31 t634.length co31), (.slice Ao33 t637.length co33), (.slice Ao35 t640.length co35)] 47 (0, 0))) ∧ Aside0 (wc.heap[gb654]? = some (.cells #[(.slice Ao41 t645.length co41), (.slice Ao46 t648.length co46), (.slice Ao47 t651.length co47)] 47 (0, 0))) ∧ Aside0 (wc.heap[gb667]? = some (.cells #[(.slice Ao54 t657.length co54), (.slice Ao56 t660.length co56), (.slice Ao58 t663.length co58)] 47 (0, 0))) ∧ Aside0 (Below w.heap.size w wc))
   case first =>
    have H := HC87.out
    clear HC87
    by_cases c100 : t679 < 0
    ·rw [if_pos c100] at H
     have c100b0 : decide (t679 < 0) = true := decide_eq_true c100
     clear c100
     (first | rw [c100b0] | (simp only [i64_w, i32_w]; rw [c100b0]) | skip)
     have H' := Aside0.mk H
     clear H
     go_wp2
     go_meet
     case rel => exact ⟨_, (true), (by first | rfl | (simp; done) | (simp [*]; done)), H', ⟨by have := HJ15.out; first | omega | exact Nat.le_refl _⟩, rm_ HO_645000 (fun _ hk => ⟨hk.1, ⟨hk.2.1, ⟨hk.2.2.1, ⟨hk.2.2.2.1, hk.2.2.2.2.1⟩⟩⟩⟩), rm_ HO_645001 (fun _ hk => ⟨hk.1, ⟨hk.2.1, ⟨hk.2.2.1, ⟨hk.2.2.2.1, hk.2.2.2.2.1⟩⟩⟩⟩), rm_ HO_645002 (fun _ hk => ⟨hk.1, hk.2.1⟩), rm_ HO_655000 (fun _ hk => hk.1.1), rm_ HO_655001 (fun _ hk => hk.1.1), rm_ HO_655002 (fun _ hk => hk.1), rm_ HO_668000 (fun _ hk => ⟨hk.1, ⟨hk.2.1, ⟨hk.2.2.1, ⟨hk.2.2.2.1, hk.2.2.2.2.1⟩⟩⟩⟩), rm_ HO_668001 (fun _ hk => ⟨hk.1, ⟨hk.2.1, ⟨hk.2.2.1, ⟨hk.2.2.2.1, hk.2.2.2.2.1⟩⟩⟩⟩), rm_ HO_668002 (fun _ hk => ⟨hk.1, hk.2.1⟩), ⟨by (with_reducible repeat (first | refine blk_drewN ?_ _ | refine blk_drew ?_ | refine blk_alloc ?_ _)); exact BK620.out⟩, ⟨by (with_reducible repeat (first | refine blk_drewN ?_ _ | refine blk_drew ?_ | refine blk_alloc ?_ _)); exact BK621.out⟩, ⟨by (with_reducible repeat (first | refine blk_drewN ?_ _ | refine blk_drew ?_ | refine blk_alloc ?_ _)); exact BK644.out⟩, ⟨by (with_reducible repeat (first | refine blk_drewN ?_ _ | refine blk_drew ?_ | refine blk_alloc ?_ _)); exact BK654.out⟩, ⟨by (with_reducible repeat (first | refine blk_drewN ?_ _ | refine blk_drew ?_ | refine blk_alloc ?_ _)); exact BK667.out⟩, ⟨hB HB⟩⟩
    rw [if_neg c100] at H
    have c100b0 : decide (t679 < 0) = false := decide_eq_false c100
    clear c100
    (first | rw [c100b0] | (simp only [i64_w, i32_w]; rw [c100b0]) | skip)
    replace H := Option.bind_eq_some_iff.mp H
    obtain ⟨t683, A1010, H⟩ := H
    replace H : (if t683 = true then (laws_FnExactStepPair.j1 kj15 t643 (t666 != t643) l0_0 l0_1 l0_2 a1_0 a1_1 t634 t637 t640 t657 t660 t663) else (laws_FnExactStepPair.j1 kj15 t643 true l0_0 l0_1 l0_2 a1_0 a1_1 t634 t637 t640 t657 t660 t663)) = some r := H
    have A101 := Aside0.mk A1010
    clear A1010
    by_cases c102 : t683 = true
    ·subst c102
     rw [if_pos rfl] at H
     have H' := Aside0.mk H
     clear H
     have hnb103 := NB667_620.out
     have hnc103 := NB620_667.out
     have hnb104 := NB667_621.out
     have hnc104 := NB621_667.out
     have hnb105 := NB667_644.out
     have hnc105 := NB644_667.out
     have hnb106 := NB667_654.out
     have hnc106 := NB654_667.out
     have hcz107_0 : w99.cell? ⟨gb667, 0, none⟩ = some (.slice Ao54 t657.length co54) := bc_ BK667 0
     have hcz107_1 : w99.cell? ⟨gb667, 1, none⟩ = some (.slice Ao56 t660.length co56) := bc_ BK667 1
     have hcz107_2 : w99.cell? ⟨gb667, 2, none⟩ = some (.slice Ao58 t663.length co58) := bc_ BK667 2
     have hfz107_0 := blk_frozen BK667.out 0
     have hfz107_1 := blk_frozen BK667.out 1
     have hfz107_2 := blk_frozen BK667.out 2
     have hnb108 := NB644_620.out
     have hnc108 := NB620_644.out
     have hnb109 := NB644_621.out
     have hnc109 := NB621_644.out
     have hnb110 := NB644_654.out
     have hnc110 := NB654_644.out
     have hcz111_0 : w99.cell? ⟨gb644, 0, none⟩ = some (.slice Ao31 t634.length co31) := bc_ BK644 0
     have hcz111_1 : w99.cell? ⟨gb644, 1, none⟩ = some (.slice Ao33 t637.length co33) := bc_ BK644 1
     have hcz111_2 : w99.cell? ⟨gb644, 2, none⟩ = some (.slice Ao35 t640.length co35) := bc_ BK644 2
     have hfz111_0 := blk_frozen BK644.out 0
     have hfz111_1 := blk_frozen BK644.out 1
     have hfz111_2 := blk_frozen BK644.out 2
     go_wp2_with (first | (go_at_call 34; (with_reducible refine (laws_eqPair.calls kj15 _ _ t657 _ _ t660 _ _ t663 _ _ t634 _ _ t637 _ _ t640 true _ ?side1 ?side2 ?side3 ?side4 ?side5 ?side6 ?side7 ?side8 ?side9 ?side10 ?side11 ?side12 A101.out).mono ?_); (case side1 => exact ca (Kd.R_reads' HO_668000.out).2.2); (case side2 => exact (Kd.R_reads' HO_668000.out).2.1); (case side3 => exact ca (Kd.R_reads' HO_668001.out).2.2); (case side4 => exact (Kd.R_reads' HO_668001.out).2.1); (case side5 => exact ca (Kd.R_reads' HO_668002.out).2.2); (case side6 => exact (Kd.R_reads' HO_668002.out).2.1); (case side7 => exact ca (Kd.R_reads' HO_645000.out).2.2); (case side8 => exact (Kd.R_reads' HO_645000.out).2.1); (case side9 => exact ca (Kd.R_reads' HO_645001.out).2.2); (case side10 => exact (Kd.R_reads' HO_645001.out).2.1); (case side11 => exact ca (Kd.R_reads' HO_645002.out).2.2); (case side12 => exact (Kd.R_reads' HO_645002.out).2.1); rintro e w112 ⟨rfl, hb⟩; replace HO_645000 := rb_ HO_645000 hb; replace HO_645001 := rb_ HO_645001 hb; replace HO_645002 := rb_ HO_645002 hb; replace HO_655000 := rb_ HO_655000 hb; replace HO_655001 := rb_ HO_655001 hb; replace HO_655002 := rb_ HO_655002 hb; replace HO_668000 := rb_ HO_668000 hb; replace HO_668001 := rb_ HO_668001 hb; replace HO_668002 := rb_ HO_668002 hb; replace HO671 := rb_ HO671 hb; replace HO674 := rb_ HO674 hb; replace HO677 := rb_ HO677 hb; replace BK620 := bb_ BK620 hb; replace BK621 := bb_ BK621 hb; replace BK644 := bb_ BK644 hb; replace BK654 := bb_ BK654 hb; replace BK667 := bb_ BK667 hb; replace HB := bst_ HB hb; clear hb))
     go_meet
     case rel => exact ⟨_, ((t666 != t643)), (by first | rfl | (simp; done) | (simp [*]; done)), H', ⟨by have := HJ15.out; first | omega | exact Nat.le_refl _⟩, rm_ HO_645000 (fun _ hk => ⟨hk.1, ⟨hk.2.1, ⟨hk.2.2.1, ⟨hk.2.2.2.1, hk.2.2.2.2.1⟩⟩⟩⟩), rm_ HO_645001 (fun _ hk => ⟨hk.1, ⟨hk.2.1, ⟨hk.2.2.1, ⟨hk.2.2.2.1, hk.2.2.2.2.1⟩⟩⟩⟩), rm_ HO_645002 (fun _ hk => ⟨hk.1, hk.2.1⟩), rm_ HO_655000 (fun _ hk => hk.1.1), rm_ HO_655001 (fun _ hk => hk.1.1), rm_ HO_655002 (fun _ hk => hk.1), rm_ HO_668000 (fun _ hk => ⟨hk.1, ⟨hk.2.1, ⟨hk.2.2.1, ⟨hk.2.2.2.1, hk.2.2.2.2.1⟩⟩⟩⟩), rm_ HO_668001 (fun _ hk => ⟨hk.1, ⟨hk.2.1, ⟨hk.2.2.1, ⟨hk.2.2.2.1, hk.2.2.2.2.1⟩⟩⟩⟩), rm_ HO_668002 (fun _ hk => ⟨hk.1, hk.2.1⟩), ⟨by (with_reducible repeat (first | refine blk_drewN ?_ _ | refine blk_drew ?_ | refine blk_alloc ?_ _)); exact BK620.out⟩, ⟨by (with_reducible repeat (first | refine blk_drewN ?_ _ | refine blk_drew ?_ | refine blk_alloc ?_ _)); exact BK621.out⟩, ⟨by (with_reducible repeat (first | refine blk_drewN ?_ _ | refine blk_drew ?_ | refine blk_alloc ?_ _)); exact BK644.out⟩, ⟨by (with_reducible repeat (first | refine blk_drewN ?_ _ | refine blk_drew ?_ | refine blk_alloc ?_ _)); exact BK654.out⟩, ⟨by (with_reducible repeat (first | refine blk_drewN ?_ _ | refine blk_drew ?_ | refine blk_alloc ?_ _)); exact BK667.out⟩, ⟨hB HB⟩⟩
    replace c102 := Bool.eq_false_iff.mpr c102
    subst c102
    rw [if_neg (show ¬ (false = true) by decide)] at H
    have H' := Aside0.mk H
    clear H
    have hnb113 := NB667_620.out
    have hnc113 := NB620_667.out
    have hnb114 := NB667_621.out
    have hnc114 := NB621_667.out
    have hnb115 := NB667_644.out
    have hnc115 := NB644_667.out
    have hnb116 := NB667_654.out
    have hnc116 := NB654_667.out
    have hcz117_0 : w99.cell? ⟨gb667, 0, none⟩ = some (.slice Ao54 t657.length co54) := bc_ BK667 0
    have hcz117_1 : w99.cell? ⟨gb667, 1, none⟩ = some (.slice Ao56 t660.length co56) := bc_ BK667 1
    have hcz117_2 : w99.cell? ⟨gb667, 2, none⟩ = some (.slice Ao58 t663.length co58) := bc_ BK667 2
    have hfz117_0 := blk_frozen BK667.out 0
    have hfz117_1 := blk_frozen BK667.out 1
    have hfz117_2 := blk_frozen BK667.out 2
    have hnb118 := NB644_620.out
    have hnc118 := NB620_644.out
    have hnb119 := NB644_621.out
    have hnc119 := NB621_644.out
    have hnb120 := NB644_654.out
    have hnc120 := NB654_644.out
    have hcz121_0 : w99.cell? ⟨gb644, 0, none⟩ = some (.slice Ao31 t634.length co31) := bc_ BK644 0
    have hcz121_1 : w99.cell? ⟨gb644, 1, none⟩ = some (.slice Ao33 t637.length co33) := bc_ BK644 1
    have hcz121_2 : w99.cell? ⟨gb644, 2, none⟩ = some (.slice Ao35 t640.length co35) := bc_ BK644 2
    have hfz121_0 := blk_frozen BK644.out 0
    have hfz121_1 := blk_frozen BK644.out 1
    have hfz121_2 := blk_frozen BK644.out 2
    go_wp2_with (first | (go_at_call 34; (with_reducible refine (laws_eqPair.calls kj15 _ _ t657 _ _ t660 _ _ t663 _ _ t634 _ _ t637 _ _ t640 false _ ?side1 ?side2 ?side3 ?side4 ?side5 ?side6 ?side7 ?side8 ?side9 ?side10 ?side11 ?side12 A101.out).mono ?_); (case side1 => exact ca (Kd.R_reads' HO_668000.out).2.2); (case side2 => exact (Kd.R_reads' HO_668000.out).2.1); (case side3 => exact ca (Kd.R_reads' HO_668001.out).2.2); (case side4 => exact (Kd.R_reads' HO_668001.out).2.1); (case side5 => exact ca (Kd.R_reads' HO_668002.out).2.2); (case side6 => exact (Kd.R_reads' HO_668002.out).2.1); (case side7 => exact ca (Kd.R_reads' HO_645000.out).2.2); (case side8 => exact (Kd.R_reads' HO_645000.out).2.1); (case side9 => exact ca (Kd.R_reads' HO_645001.out).2.2); (case side10 => exact (Kd.R_reads' HO_645001.out).2.1); (case side11 => exact ca (Kd.R_reads' HO_645002.out).2.2); (case side12 => exact (Kd.R_reads' HO_645002.out).2.1); rintro e w122 ⟨rfl, hb⟩; replace HO_645000 := rb_ HO_645000 hb; replace HO_645001 := rb_ HO_645001 hb; replace HO_645002 := rb_ HO_645002 hb; replace HO_655000 := rb_ HO_655000 hb; replace HO_655001 := rb_ HO_655001 hb; replace HO_655002 := rb_ HO_655002 hb; replace HO_668000 := rb_ HO_668000 hb; replace HO_668001 := rb_ HO_668001 hb; replace HO_668002 := rb_ HO_668002 hb; replace HO671 := rb_ HO671 hb; replace HO674 := rb_ HO674 hb; replace HO677 := rb_ HO677 hb; replace BK620 := bb_ BK620 hb; replace BK621 := bb_ BK621 hb; replace BK644 := bb_ BK644 hb; replace BK654 := bb_ BK654 hb; replace BK667 := bb_ BK667 hb; replace HB := bst_ HB hb; clear hb))
    go_meet
    case rel => exact ⟨_, (true), (by first | rfl | (simp; done) | (simp [*]; done)), H', ⟨by have := HJ15.out; first | omega | exact Nat.le_refl _⟩, rm_ HO_645000 (fun _ hk => ⟨hk.1, ⟨hk.2.1, ⟨hk.2.2.1, ⟨hk.2.2.2.1, hk.2.2.2.2.1⟩⟩⟩⟩), rm_ HO_645001 (fun _ hk => ⟨hk.1, ⟨hk.2.1, ⟨hk.2.2.1, ⟨hk.2.2.2.1, hk.2.2.2.2.1⟩⟩⟩⟩), rm_ HO_645002 (fun _ hk => ⟨hk.1, hk.2.1⟩), rm_ HO_655000 (fun _ hk => hk.1.1), rm_ HO_655001 (fun _ hk => hk.1.1), rm_ HO_655002 (fun _ hk => hk.1), rm_ HO_668000 (fun _ hk => ⟨hk.1, ⟨hk.2.1, ⟨hk.2.2.1, ⟨hk.2.2.2.1, hk.2.2.2.2.1⟩⟩⟩⟩), rm_ HO_668001 (fun _ hk => ⟨hk.1, ⟨hk.2.1, ⟨hk.2.2.1, ⟨hk.2.2.2.1, hk.2.2.2.2.1⟩⟩⟩⟩), rm_ HO_668002 (fun _ hk => ⟨hk.1, hk.2.1⟩), ⟨by (with_reducible repeat (first | refine blk_drewN ?_ _ | refine blk_drew ?_ | refine blk_alloc ?_ _)); exact BK620.out⟩, ⟨by (with_reducible repeat (first | refine blk_drewN ?_ _ | refine blk_drew ?_ | refine blk_alloc ?_ _)); exact BK621.out⟩, ⟨by (with_reducible repeat (first | refine blk_drewN ?_ _ | refine blk_drew ?_ | refine blk_alloc ?_ _)); exact BK644.out⟩, ⟨by (with_reducible repeat (first | refine blk_drewN ?_ _ | refine blk_drew ?_ | refine blk_alloc ?_ _)); exact BK654.out⟩, ⟨by (with_reducible repeat (first | refine blk_drewN ?_ _ | refine blk_drew ?_ | refine blk_alloc ?_ _)); exact BK667.out⟩, ⟨hB HB⟩⟩
   case rest =>
    clear HC87
    try clear c82
    try clear c85
    try clear hcz98_0
    try clear hcz98_1
    try clear hcz98_2
    try clear hfz98_0
    try clear hfz98_1
    try clear hfz98_2
    obtain ⟨kq, x67_86, rfl, HA, HJ86, HO_645000, HO_645001, HO_645002, HO_655000, HO_655001, HO_655002, HO_668000, HO_668001, HO_668002, BK620, BK621, BK644, BK654, BK667, HB⟩ := hcut
    have hl655000_86 := (Kd.R_reads' HO_655000.out).1
    rw [hl655000_86] at HO_655000
    (try simp only [hl655000_86])
    (try simp only [hl655000_86] at BK620)
    (try simp only [hl655000_86] at BK621)
    (try simp only [hl655000_86] at BK644)
    (try simp only [hl655000_86] at BK654)
    (try simp only [hl655000_86] at BK667)
    (try simp only [hl655000_86] at HO_645000)
    (try simp only [hl655000_86] at HO_645001)
    (try simp only [hl655000_86] at HO_645002)
    (try simp only [hl655000_86] at HO_655001)
    (try simp only [hl655000_86] at HO_655002)
    (try simp only [hl655000_86] at HO_668000)
    (try simp only [hl655000_86] at HO_668001)
    (try simp only [hl655000_86] at HO_668002)
    have hl655001_86 := (Kd.R_reads' HO_655001.out).1
    rw [hl655001_86] at HO_655001
    (try simp only [hl655001_86])
    (try simp only [hl655001_86] at BK620)
    (try simp only [hl655001_86] at BK621)
    (try simp only [hl655001_86] at BK644)
    (try simp only [hl655001_86] at BK654)
    (try simp only [hl655001_86] at BK667)
    (try simp only [hl655001_86] at HO_645000)
    (try simp only [hl655001_86] at HO_645001)
    (try simp only [hl655001_86] at HO_645002)
    (try simp only [hl655001_86] at HO_655000)
    (try simp only [hl655001_86] at HO_655002)
    (try simp only [hl655001_86] at HO_668000)
    (try simp only [hl655001_86] at HO_668001)
    (try simp only [hl655001_86] at HO_668002)
    have hl655002_86 := (Kd.R_reads' HO_655002.out).1
    rw [hl655002_86] at HO_655002
    (try simp only [hl655002_86])
    (try simp only [hl655002_86] at BK620)
    (try simp only [hl655002_86] at BK621)
    (try simp only [hl655002_86] at BK644)
    (try simp only [hl655002_86] at BK654)
    (try simp only [hl655002_86] at BK667)
    (try simp only [hl655002_86] at HO_645000)
    (try simp only [hl655002_86] at HO_645001)
    (try simp only [hl655002_86] at HO_645002)
    (try simp only [hl655002_86] at HO_655000)
    (try simp only [hl655002_86] at HO_655001)
    (try simp only [hl655002_86] at HO_668000)
    (try simp only [hl655002_86] at HO_668001)
    (try simp only [hl655002_86] at HO_668002)
    cases kq with
    | zero => exact absurd HA.out (by simp [laws_FnExactStepPair.j1])
    | succ kj86 =>
     have H := HA.out
     clear HA
     simp only [laws_FnExactStepPair.j1] at H
     by_cases c123 : x67_86 = true
     ·subst c123
      rw [if_pos rfl] at H
      obtain rfl := Option.some.inj H
      go_wp2
      go_ret
      exact ⟨by first | rfl | (simp [errW_none, errW_some] <;> rfl) | (simp [*, errW_none, errW_some] <;> rfl), by repeat (first | (with_reducible first | exact HB.out | apply below_alloc | apply pw_below_drewN | apply below_drew1 | refine below_set ?_ GE620.out | refine below_set ?_ GE621.out | refine below_set ?_ GE644.out | refine below_set ?_ GE654.out | refine below_set ?_ GE667.out) | exact HB.out)⟩
     replace c123 := Bool.eq_false_iff.mpr c123
     subst c123
     rw [if_neg (show ¬ (false = true) by decide)] at H
     replace H := Option.bind_eq_some_iff.mp H
     obtain ⟨⟨t684, t685, t686, t687⟩, A1240, H⟩ := H
     replace H : ((laws_heldPair.f kj86 t685 t686 t687 1).bind fun t688 => (if t688 < 0 then (some false) else (if t688 = t684 then ((laws_toPair.f kj86 l0_0 l0_1 l0_2).bind fun bt689 => ((laws_toPairStep.f a1_0 a1_1).bind fun bt698 => ((impl_StepPair.f kj86 bt689.1 bt689.2.1 bt689.2.2 bt698.1 bt698.2).bind fun bt700 => ((laws_eqPair.f kj86 bt700.1 bt700.2.1 bt700.2.2.1 t634 t637 t640).bind fun t711 => (if t711 = true then (laws_FnExactStepPair.j2 kj86 t684 (bt700.2.2.2 != t643) t685 t686 t687) else (laws_FnExactStepPair.j2 kj86 t684 true t685 t686 t687)))))) else (some false)))) = some r := H
     have A124 := Aside0.mk A1240
     clear A1240
     replace H := Option.bind_eq_some_iff.mp H
     obtain ⟨t688, A1250, H⟩ := H
     replace H : (if t688 < 0 then (some false) else (if t688 = t684 then ((laws_toPair.f kj86 l0_0 l0_1 l0_2).bind fun bt689 => ((laws_toPairStep.f a1_0 a1_1).bind fun bt698 => ((impl_StepPair.f kj86 bt689.1 bt689.2.1 bt689.2.2 bt698.1 bt698.2).bind fun bt700 => ((laws_eqPair.f kj86 bt700.1 bt700.2.1 bt700.2.2.1 t634 t637 t640).bind fun t711 => (if t711 = true then (laws_FnExactStepPair.j2 kj86 t684 (bt700.2.2.2 != t643) t685 t686 t687) else (laws_FnExactStepPair.j2 kj86 t684 true t685 t686 t687)))))) else (some false))) = some r := H
     have A125 := Aside0.mk A1250
     clear A1250
     by_cases c126 : t688 < 0
     ·rw [if_pos c126] at H
      have c126b0 : decide (t688 < 0) = true := decide_eq_true c126
      clear c126
      obtain rfl := Option.some.inj H
      have hnb127 := NB667_620.out
      have hnc127 := NB620_667.out
      have hnb128 := NB667_621.out
      have hnc128 := NB621_667.out
      have hnb129 := NB667_644.out
      have hnc129 := NB644_667.out
      have hnb130 := NB667_654.out
      have hnc130 := NB654_667.out
      have hcz131_0 : wc.cell? ⟨gb667, 0, none⟩ = some (.slice Ao54 t657.length co54) := bc_ BK667 0
      have hcz131_1 : wc.cell? ⟨gb667, 1, none⟩ = some (.slice Ao56 t660.length co56) := bc_ BK667 1
      have hcz131_2 : wc.cell? ⟨gb667, 2, none⟩ = some (.slice Ao58 t663.length co58) := bc_ BK667 2
      have hfz131_0 := blk_frozen BK667.out 0
      have hfz131_1 := blk_frozen BK667.out 1
      have hfz131_2 := blk_frozen BK667.out 2
      go_wp2_with (first | ((with_reducible refine gate_callee (f := 35) rfl ?_); refine goesL_ (some 70) rfl rfl Try.func35 (by kernel_rfl) rfl #[.agg #[.slice Ao54 t657.length co54, .slice Ao56 t660.length co56, .slice Ao58 t663.length co58], .int .i64 1] rfl tm_ ?_; (with_reducible refine (laws_markPair.calls kj86 (fun k_ => some k_ = (.slice Ao54 t657.length co54 : Value).ownBlock) (.slice Ao54 t657.length co54) t657 (fun k_ => some k_ = (.slice Ao56 t660.length co56 : Value).ownBlock) (.slice Ao56 t660.length co56) t660 (fun k_ => some k_ = (.slice Ao58 t663.length co58 : Value).ownBlock) (.slice Ao58 t663.length co58) t663 1 t684 t685 t686 t687 w _ ?side1 ?side2 ?side3 ?side4 ?side5 ?side6 A124.out).mono ?_); (case side1 => repeat (first | (with_reducible first | exact HB.out | apply below_alloc | apply pw_below_drewN | apply below_drew1 | refine below_set ?_ GE620.out | refine below_set ?_ GE621.out | refine below_set ?_ GE644.out | refine below_set ?_ GE654.out | refine below_set ?_ GE667.out) | exact HB.out)); (case side2 => exact Kd.R_tight rfl HO_668000.out); (case side3 => exact fun k_ e_ => (HO_668000.out.1 k_ e_.symm).2.2.2.2); (case side4 => exact Kd.R_tight rfl HO_668001.out); (case side5 => exact fun k_ e_ => (HO_668001.out.1 k_ e_.symm).2.2.2.2); (case side6 => exact Kd.R_tight rfl HO_668002.out); rintro e w132 ⟨rfl, hy0, hy1, hy2, hb, hkp⟩; refine ⟨_, rfl, ?_⟩; replace HO_645000 := Aside0.mk (Kd.R_mono (ok' := fun k_ => no_ (.slice Ao33 t637.length co33) k_ ∧ no_ (.slice Ao41 t680.length co41) k_ ∧ no_ (.slice Ao46 t681.length co46) k_ ∧ no_ (.slice Ao54 t657.length co54) k_ ∧ no_ (.slice Ao56 t660.length co56) k_) (Kd.R_keptB ((Kd.R_apart' HO_645000.out (Kd.R_typed HO_668002.out) (by decide))) hkp (fun k_ hk_ hs_ => Or.elim hs_ (fun e_ => (hk_.1.2.2.2.1) e_) (fun e_ => Or.elim e_ (fun e_ => (hk_.1.2.2.2.2) e_) (fun e_ => (hk_.2) e_)))) (fun k_ hk_ => ⟨hk_.1.1.1, hk_.1.1.2.1, hk_.1.1.2.2.1, hk_.1.1.2.2.2.1, hk_.1.1.2.2.2.2⟩)); replace HO_645001 := Aside0.mk (Kd.R_mono (ok' := fun k_ => no_ (.slice Ao31 t634.length co31) k_ ∧ no_ (.slice Ao41 t680.length co41) k_ ∧ no_ (.slice Ao46 t681.length co46) k_ ∧ no_ (.slice Ao54 t657.length co54) k_ ∧ no_ (.slice Ao56 t660.length co56) k_) (Kd.R_keptB ((Kd.R_apart' HO_645001.out (Kd.R_typed HO_668002.out) (by decide))) hkp (fun k_ hk_ hs_ => Or.elim hs_ (fun e_ => (hk_.1.2.2.2.1) e_) (fun e_ => Or.elim e_ (fun e_ => (hk_.1.2.2.2.2) e_) (fun e_ => (hk_.2) e_)))) (fun k_ hk_ => ⟨hk_.1.1.1, hk_.1.1.2.1, hk_.1.1.2.2.1, hk_.1.1.2.2.2.1, hk_.1.1.2.2.2.2⟩)); replace HO_645002 := Aside0.mk (Kd.R_mono (ok' := fun k_ => no_ (.slice Ao47 t682.length co47) k_ ∧ no_ (.slice Ao58 t663.length co58) k_) (Kd.R_keptB ((Kd.R_apart' (Kd.R_apart' HO_645002.out (Kd.R_typed HO_668000.out) (by decide)) (Kd.R_typed HO_668001.out) (by decide))) hkp (fun k_ hk_ hs_ => Or.elim hs_ (fun e_ => (hk_.1.2) e_) (fun e_ => Or.elim e_ (fun e_ => (hk_.2) e_) (fun e_ => (hk_.1.1.2) e_)))) (fun k_ hk_ => ⟨hk_.1.1.1.1, hk_.1.1.1.2⟩)); replace HO_655000 := Aside0.mk (Kd.R_mono (ok' := fun k_ => no_ (.slice Ao31 t634.length co31) k_ ∧ no_ (.slice Ao33 t637.length co33) k_ ∧ no_ (.slice Ao46 t681.length co46) k_ ∧ no_ (.slice Ao54 t657.length co54) k_ ∧ no_ (.slice Ao56 t660.length co56) k_) (Kd.R_keptB ((Kd.R_apart' HO_655000.out (Kd.R_typed HO_668002.out) (by decide))) hkp (fun k_ hk_ hs_ => Or.elim hs_ (fun e_ => (hk_.1.2.2.2.1) e_) (fun e_ => Or.elim e_ (fun e_ => (hk_.1.2.2.2.2) e_) (fun e_ => (hk_.2) e_)))) (fun k_ hk_ => ⟨hk_.1.1.1, hk_.1.1.2.1, hk_.1.1.2.2.1, hk_.1.1.2.2.2.1, hk_.1.1.2.2.2.2⟩)); replace HO_655001 := Aside0.mk (Kd.R_mono (ok' := fun k_ => no_ (.slice Ao31 t634.length co31) k_ ∧ no_ (.slice Ao33 t637.length co33) k_ ∧ no_ (.slice Ao41 t680.length co41) k_ ∧ no_ (.slice Ao54 t657.length co54) k_ ∧ no_ (.slice Ao56 t660.length co56) k_) (Kd.R_keptB ((Kd.R_apart' HO_655001.out (Kd.R_typed HO_668002.out) (by decide))) hkp (fun k_ hk_ hs_ => Or.elim hs_ (fun e_ => (hk_.1.2.2.2.1) e_) (fun e_ => Or.elim e_ (fun e_ => (hk_.1.2.2.2.2) e_) (fun e_ => (hk_.2) e_)))) (fun k_ hk_ => ⟨hk_.1.1.1, hk_.1.1.2.1, hk_.1.1.2.2.1, hk_.1.1.2.2.2.1, hk_.1.1.2.2.2.2⟩)); replace HO_655002 := Aside0.mk (Kd.R_mono (ok' := fun k_ => no_ (.slice Ao35 t640.length co35) k_ ∧ no_ (.slice Ao58 t663.length co58) k_) (Kd.R_keptB ((Kd.R_apart' (Kd.R_apart' HO_655002.out (Kd.R_typed HO_668000.out) (by decide)) (Kd.R_typed HO_668001.out) (by decide))) hkp (fun k_ hk_ hs_ => Or.elim hs_ (fun e_ => (hk_.1.2) e_) (fun e_ => Or.elim e_ (fun e_ => (hk_.2) e_) (fun e_ => (hk_.1.1.2) e_)))) (fun k_ hk_ => ⟨hk_.1.1.1.1, hk_.1.1.1.2⟩)); replace BK620 := Aside0.mk (blk_kept (ba BK620.out) hkp (fun hs_ => Or.elim hs_ (kne_ HO_668000 BK620) (fun e_ => Or.elim e_ (kne_ HO_668001 BK620) (kne_ HO_668002 BK620)))); replace BK621 := Aside0.mk (blk_kept (ba BK621.out) hkp (fun hs_ => Or.elim hs_ (kne_ HO_668000 BK621) (fun e_ => Or.elim e_ (kne_ HO_668001 BK621) (kne_ HO_668002 BK621)))); replace BK644 := Aside0.mk (blk_kept (ba BK644.out) hkp (fun hs_ => Or.elim hs_ (kne_ HO_668000 BK644) (fun e_ => Or.elim e_ (kne_ HO_668001 BK644) (kne_ HO_668002 BK644)))); replace BK654 := Aside0.mk (blk_kept (ba BK654.out) hkp (fun hs_ => Or.elim hs_ (kne_ HO_668000 BK654) (fun e_ => Or.elim e_ (kne_ HO_668001 BK654) (kne_ HO_668002 BK654)))); replace BK667 := Aside0.mk (blk_kept (ba BK667.out) hkp (fun hs_ => Or.elim hs_ (kne_ HO_668000 BK667) (fun e_ => Or.elim e_ (kne_ HO_668001 BK667) (kne_ HO_668002 BK667)))); replace HO_668000 := Aside0.mk (Kd.R_reok rfl hy0 (fun k_ e_ => HO_668000.out.1 k_ e_)); replace HO_668001 := Aside0.mk (Kd.R_reok rfl hy1 (fun k_ e_ => HO_668001.out.1 k_ e_)); replace HO_668002 := Aside0.mk (Kd.R_reok rfl hy2 (fun k_ e_ => HO_668002.out.1 k_ e_)); replace HB := Aside0.mk (hb); clear hb; have hcz133_0 : w132.cell? ⟨gb667, 0, none⟩ = some (.slice Ao54 t657.length co54) := bc_ BK667 0; have hcz133_1 : w132.cell? ⟨gb667, 1, none⟩ = some (.slice Ao56 t660.length co56) := bc_ BK667 1; have hcz133_2 : w132.cell? ⟨gb667, 2, none⟩ = some (.slice Ao58 t663.length co58) := bc_ BK667 2; have hfz133_0 := blk_frozen BK667.out 0; have hfz133_1 := blk_frozen BK667.out 1; have hfz133_2 := blk_frozen BK667.out 2) | ((with_reducible refine gate_callee (f := 36) rfl ?_); refine goesL_ (some 73) rfl rfl Try.func36 (by kernel_rfl) rfl #[.agg #[.slice Ao54 t685.length co54, .slice Ao56 t686.length co56, .slice Ao58 t687.length co58], .int .i64 1] rfl (by (try simp only [List.map_toArray, List.map_cons, List.map_nil]); first | done | (rw [show t685.length = t657.length from (Kd.R_reads' HO_668000.out).1.symm, show t686.length = t660.length from (Kd.R_reads' HO_668001.out).1.symm, show t687.length = t663.length from (Kd.R_reads' HO_668002.out).1.symm] <;> rfl) | rfl | (simp only [List.length_drop, List.length_take]; rfl)) ?_; (with_reducible refine (laws_heldPair.calls kj86 _ _ t685 _ _ t686 _ _ t687 1 t688 _ ?side1 ?side2 ?side3 ?side4 ?side5 ?side6 A125.out).mono ?_); (case side1 => exact ca (Kd.R_reads' HO_668000.out).2.2); (case side2 => rw [show t685.length = t657.length from (Kd.R_reads' HO_668000.out).1.symm]; exact (Kd.R_reads' HO_668000.out).2.1); (case side3 => exact ca (Kd.R_reads' HO_668001.out).2.2); (case side4 => rw [show t686.length = t660.length from (Kd.R_reads' HO_668001.out).1.symm]; exact (Kd.R_reads' HO_668001.out).2.1); (case side5 => exact ca (Kd.R_reads' HO_668002.out).2.2); (case side6 => rw [show t687.length = t663.length from (Kd.R_reads' HO_668002.out).1.symm]; exact (Kd.R_reads' HO_668002.out).2.1); rintro e w134 ⟨rfl, hb⟩; refine ⟨_, rfl, ?_⟩; replace HO_645000 := rb_ HO_645000 hb; replace HO_645001 := rb_ HO_645001 hb; replace HO_645002 := rb_ HO_645002 hb; replace HO_655000 := rb_ HO_655000 hb; replace HO_655001 := rb_ HO_655001 hb; replace HO_655002 := rb_ HO_655002 hb; replace HO_668000 := rb_ HO_668000 hb; replace HO_668001 := rb_ HO_668001 hb; replace HO_668002 := rb_ HO_668002 hb; replace BK620 := bb_ BK620 hb; replace BK621 := bb_ BK621 hb; replace BK644 := bb_ BK644 hb; replace BK654 := bb_ BK654 hb; replace BK667 := bb_ BK667 hb; replace HB := bst_ HB hb; clear hb))
      go_ret
      exact ⟨by first | rfl | (simp [errW_none, errW_some] <;> rfl) | (simp [*, errW_none, errW_some] <;> rfl), by repeat (first | (with_reducible first | exact HB.out | apply below_alloc | apply pw_below_drewN | apply below_drew1 | refine below_set ?_ GE620.out | refine below_set ?_ GE621.out | refine below_set ?_ GE644.out | refine below_set ?_ GE654.out | refine below_set ?_ GE667.out) | exact HB.out)⟩
     rw [if_neg c126] at H
     have c126b0 : decide (t688 < 0) = false := decide_eq_false c126
     clear c126
     by_cases c135 : t688 = t684
     rotate_left
     ·rw [if_neg c135] at H
      have c135b0 : (t688 == t684) = false := beq_eq_false_iff_ne.mpr c135
      have c135b1 : (t688 != t684) = true := bne_iff_ne.mpr c135
      obtain rfl := Option.some.inj H
      have hnb214 := NB667_620.out
      have hnc214 := NB620_667.out
      have hnb215 := NB667_621.out
      have hnc215 := NB621_667.out
      have hnb216 := NB667_644.out
      have hnc216 := NB644_667.out
      have hnb217 := NB667_654.out
      have hnc217 := NB654_667.out
      have hcz218_0 : wc.cell? ⟨gb667, 0, none⟩ = some (.slice Ao54 t657.length co54) := bc_ BK667 0
      have hcz218_1 : wc.cell? ⟨gb667, 1, none⟩ = some (.slice Ao56 t660.length co56) := bc_ BK667 1
      have hcz218_2 : wc.cell? ⟨gb667, 2, none⟩ = some (.slice Ao58 t663.length co58) := bc_ BK667 2
      have hfz218_0 := blk_frozen BK667.out 0
      have hfz218_1 := blk_frozen BK667.out 1
      have hfz218_2 := blk_frozen BK667.out 2
      go_wp2_with (first | ((with_reducible refine gate_callee (f := 35) rfl ?_); refine goesL_ (some 70) rfl rfl Try.func35 (by kernel_rfl) rfl #[.agg #[.slice Ao54 t657.length co54, .slice Ao56 t660.length co56, .slice Ao58 t663.length co58], .int .i64 1] rfl tm_ ?_; (with_reducible refine (laws_markPair.calls kj86 (fun k_ => some k_ = (.slice Ao54 t657.length co54 : Value).ownBlock) (.slice Ao54 t657.length co54) t657 (fun k_ => some k_ = (.slice Ao56 t660.length co56 : Value).ownBlock) (.slice Ao56 t660.length co56) t660 (fun k_ => some k_ = (.slice Ao58 t663.length co58 : Value).ownBlock) (.slice Ao58 t663.length co58) t663 1 t684 t685 t686 t687 w _ ?side1 ?side2 ?side3 ?side4 ?side5 ?side6 A124.out).mono ?_); (case side1 => repeat (first | (with_reducible first | exact HB.out | apply below_alloc | apply pw_below_drewN | apply below_drew1 | refine below_set ?_ GE620.out | refine below_set ?_ GE621.out | refine below_set ?_ GE644.out | refine below_set ?_ GE654.out | refine below_set ?_ GE667.out) | exact HB.out)); (case side2 => exact Kd.R_tight rfl HO_668000.out); (case side3 => exact fun k_ e_ => (HO_668000.out.1 k_ e_.symm).2.2.2.2); (case side4 => exact Kd.R_tight rfl HO_668001.out); (case side5 => exact fun k_ e_ => (HO_668001.out.1 k_ e_.symm).2.2.2.2); (case side6 => exact Kd.R_tight rfl HO_668002.out); rintro e w219 ⟨rfl, hy0, hy1, hy2, hb, hkp⟩; refine ⟨_, rfl, ?_⟩; replace HO_645000 := Aside0.mk (Kd.R_mono (ok' := fun k_ => no_ (.slice Ao33 t637.length co33) k_ ∧ no_ (.slice Ao41 t680.length co41) k_ ∧ no_ (.slice Ao46 t681.length co46) k_ ∧ no_ (.slice Ao54 t657.length co54) k_ ∧ no_ (.slice Ao56 t660.length co56) k_) (Kd.R_keptB ((Kd.R_apart' HO_645000.out (Kd.R_typed HO_668002.out) (by decide))) hkp (fun k_ hk_ hs_ => Or.elim hs_ (fun e_ => (hk_.1.2.2.2.1) e_) (fun e_ => Or.elim e_ (fun e_ => (hk_.1.2.2.2.2) e_) (fun e_ => (hk_.2) e_)))) (fun k_ hk_ => ⟨hk_.1.1.1, hk_.1.1.2.1, hk_.1.1.2.2.1, hk_.1.1.2.2.2.1, hk_.1.1.2.2.2.2⟩)); replace HO_645001 := Aside0.mk (Kd.R_mono (ok' := fun k_ => no_ (.slice Ao31 t634.length co31) k_ ∧ no_ (.slice Ao41 t680.length co41) k_ ∧ no_ (.slice Ao46 t681.length co46) k_ ∧ no_ (.slice Ao54 t657.length co54) k_ ∧ no_ (.slice Ao56 t660.length co56) k_) (Kd.R_keptB ((Kd.R_apart' HO_645001.out (Kd.R_typed HO_668002.out) (by decide))) hkp (fun k_ hk_ hs_ => Or.elim hs_ (fun e_ => (hk_.1.2.2.2.1) e_) (fun e_ => Or.elim e_ (fun e_ => (hk_.1.2.2.2.2) e_) (fun e_ => (hk_.2) e_)))) (fun k_ hk_ => ⟨hk_.1.1.1, hk_.1.1.2.1, hk_.1.1.2.2.1, hk_.1.1.2.2.2.1, hk_.1.1.2.2.2.2⟩)); replace HO_645002 := Aside0.mk (Kd.R_mono (ok' := fun k_ => no_ (.slice Ao47 t682.length co47) k_ ∧ no_ (.slice Ao58 t663.length co58) k_) (Kd.R_keptB ((Kd.R_apart' (Kd.R_apart' HO_645002.out (Kd.R_typed HO_668000.out) (by decide)) (Kd.R_typed HO_668001.out) (by decide))) hkp (fun k_ hk_ hs_ => Or.elim hs_ (fun e_ => (hk_.1.2) e_) (fun e_ => Or.elim e_ (fun e_ => (hk_.2) e_) (fun e_ => (hk_.1.1.2) e_)))) (fun k_ hk_ => ⟨hk_.1.1.1.1, hk_.1.1.1.2⟩)); replace HO_655000 := Aside0.mk (Kd.R_mono (ok' := fun k_ => no_ (.slice Ao31 t634.length co31) k_ ∧ no_ (.slice Ao33 t637.length co33) k_ ∧ no_ (.slice Ao46 t681.length co46) k_ ∧ no_ (.slice Ao54 t657.length co54) k_ ∧ no_ (.slice Ao56 t660.length co56) k_) (Kd.R_keptB ((Kd.R_apart' HO_655000.out (Kd.R_typed HO_668002.out) (by decide))) hkp (fun k_ hk_ hs_ => Or.elim hs_ (fun e_ => (hk_.1.2.2.2.1) e_) (fun e_ => Or.elim e_ (fun e_ => (hk_.1.2.2.2.2) e_) (fun e_ => (hk_.2) e_)))) (fun k_ hk_ => ⟨hk_.1.1.1, hk_.1.1.2.1, hk_.1.1.2.2.1, hk_.1.1.2.2.2.1, hk_.1.1.2.2.2.2⟩)); replace HO_655001 := Aside0.mk (Kd.R_mono (ok' := fun k_ => no_ (.slice Ao31 t634.length co31) k_ ∧ no_ (.slice Ao33 t637.length co33) k_ ∧ no_ (.slice Ao41 t680.length co41) k_ ∧ no_ (.slice Ao54 t657.length co54) k_ ∧ no_ (.slice Ao56 t660.length co56) k_) (Kd.R_keptB ((Kd.R_apart' HO_655001.out (Kd.R_typed HO_668002.out) (by decide))) hkp (fun k_ hk_ hs_ => Or.elim hs_ (fun e_ => (hk_.1.2.2.2.1) e_) (fun e_ => Or.elim e_ (fun e_ => (hk_.1.2.2.2.2) e_) (fun e_ => (hk_.2) e_)))) (fun k_ hk_ => ⟨hk_.1.1.1, hk_.1.1.2.1, hk_.1.1.2.2.1, hk_.1.1.2.2.2.1, hk_.1.1.2.2.2.2⟩)); replace HO_655002 := Aside0.mk (Kd.R_mono (ok' := fun k_ => no_ (.slice Ao35 t640.length co35) k_ ∧ no_ (.slice Ao58 t663.length co58) k_) (Kd.R_keptB ((Kd.R_apart' (Kd.R_apart' HO_655002.out (Kd.R_typed HO_668000.out) (by decide)) (Kd.R_typed HO_668001.out) (by decide))) hkp (fun k_ hk_ hs_ => Or.elim hs_ (fun e_ => (hk_.1.2) e_) (fun e_ => Or.elim e_ (fun e_ => (hk_.2) e_) (fun e_ => (hk_.1.1.2) e_)))) (fun k_ hk_ => ⟨hk_.1.1.1.1, hk_.1.1.1.2⟩)); replace BK620 := Aside0.mk (blk_kept (ba BK620.out) hkp (fun hs_ => Or.elim hs_ (kne_ HO_668000 BK620) (fun e_ => Or.elim e_ (kne_ HO_668001 BK620) (kne_ HO_668002 BK620)))); replace BK621 := Aside0.mk (blk_kept (ba BK621.out) hkp (fun hs_ => Or.elim hs_ (kne_ HO_668000 BK621) (fun e_ => Or.elim e_ (kne_ HO_668001 BK621) (kne_ HO_668002 BK621)))); replace BK644 := Aside0.mk (blk_kept (ba BK644.out) hkp (fun hs_ => Or.elim hs_ (kne_ HO_668000 BK644) (fun e_ => Or.elim e_ (kne_ HO_668001 BK644) (kne_ HO_668002 BK644)))); replace BK654 := Aside0.mk (blk_kept (ba BK654.out) hkp (fun hs_ => Or.elim hs_ (kne_ HO_668000 BK654) (fun e_ => Or.elim e_ (kne_ HO_668001 BK654) (kne_ HO_668002 BK654)))); replace BK667 := Aside0.mk (blk_kept (ba BK667.out) hkp (fun hs_ => Or.elim hs_ (kne_ HO_668000 BK667) (fun e_ => Or.elim e_ (kne_ HO_668001 BK667) (kne_ HO_668002 BK667)))); replace HO_668000 := Aside0.mk (Kd.R_reok rfl hy0 (fun k_ e_ => HO_668000.out.1 k_ e_)); replace HO_668001 := Aside0.mk (Kd.R_reok rfl hy1 (fun k_ e_ => HO_668001.out.1 k_ e_)); replace HO_668002 := Aside0.mk (Kd.R_reok rfl hy2 (fun k_ e_ => HO_668002.out.1 k_ e_)); replace HB := Aside0.mk (hb); clear hb; have hcz220_0 : w219.cell? ⟨gb667, 0, none⟩ = some (.slice Ao54 t657.length co54) := bc_ BK667 0; have hcz220_1 : w219.cell? ⟨gb667, 1, none⟩ = some (.slice Ao56 t660.length co56) := bc_ BK667 1; have hcz220_2 : w219.cell? ⟨gb667, 2, none⟩ = some (.slice Ao58 t663.length co58) := bc_ BK667 2; have hfz220_0 := blk_frozen BK667.out 0; have hfz220_1 := blk_frozen BK667.out 1; have hfz220_2 := blk_frozen BK667.out 2) | ((with_reducible refine gate_callee (f := 36) rfl ?_); refine goesL_ (some 73) rfl rfl Try.func36 (by kernel_rfl) rfl #[.agg #[.slice Ao54 t685.length co54, .slice Ao56 t686.length co56, .slice Ao58 t687.length co58], .int .i64 1] rfl (by (try simp only [List.map_toArray, List.map_cons, List.map_nil]); first | done | (rw [show t685.length = t657.length from (Kd.R_reads' HO_668000.out).1.symm, show t686.length = t660.length from (Kd.R_reads' HO_668001.out).1.symm, show t687.length = t663.length from (Kd.R_reads' HO_668002.out).1.symm] <;> rfl) | rfl | (simp only [List.length_drop, List.length_take]; rfl)) ?_; (with_reducible refine (laws_heldPair.calls kj86 _ _ t685 _ _ t686 _ _ t687 1 t688 _ ?side1 ?side2 ?side3 ?side4 ?side5 ?side6 A125.out).mono ?_); (case side1 => exact ca (Kd.R_reads' HO_668000.out).2.2); (case side2 => rw [show t685.length = t657.length from (Kd.R_reads' HO_668000.out).1.symm]; exact (Kd.R_reads' HO_668000.out).2.1); (case side3 => exact ca (Kd.R_reads' HO_668001.out).2.2); (case side4 => rw [show t686.length = t660.length from (Kd.R_reads' HO_668001.out).1.symm]; exact (Kd.R_reads' HO_668001.out).2.1); (case side5 => exact ca (Kd.R_reads' HO_668002.out).2.2); (case side6 => rw [show t687.length = t663.length from (Kd.R_reads' HO_668002.out).1.symm]; exact (Kd.R_reads' HO_668002.out).2.1); rintro e w221 ⟨rfl, hb⟩; refine ⟨_, rfl, ?_⟩; replace HO_645000 := rb_ HO_645000 hb; replace HO_645001 := rb_ HO_645001 hb; replace HO_645002 := rb_ HO_645002 hb; replace HO_655000 := rb_ HO_655000 hb; replace HO_655001 := rb_ HO_655001 hb; replace HO_655002 := rb_ HO_655002 hb; replace HO_668000 := rb_ HO_668000 hb; replace HO_668001 := rb_ HO_668001 hb; replace HO_668002 := rb_ HO_668002 hb; replace BK620 := bb_ BK620 hb; replace BK621 := bb_ BK621 hb; replace BK644 := bb_ BK644 hb; replace BK654 := bb_ BK654 hb; replace BK667 := bb_ BK667 hb; replace HB := bst_ HB hb; clear hb))
      go_ret
      exact ⟨by first | rfl | (simp [errW_none, errW_some] <;> rfl) | (simp [*, errW_none, errW_some] <;> rfl), by repeat (first | (with_reducible first | exact HB.out | apply below_alloc | apply pw_below_drewN | apply below_drew1 | refine below_set ?_ GE620.out | refine below_set ?_ GE621.out | refine below_set ?_ GE644.out | refine below_set ?_ GE654.out | refine below_set ?_ GE667.out) | exact HB.out)⟩
     rw [if_pos c135] at H
     have c135b0 : (t688 == t684) = true := beq_iff_eq.mpr c135
     have c135b1 : (t688 != t684) = false := bne_eq_false_iff_eq.mpr c135
     clear c135
     replace H := Option.bind_eq_some_iff.mp H
     obtain ⟨⟨t689, t692, t695⟩, A1360, H⟩ := H
     replace H : ((laws_toPairStep.f a1_0 a1_1).bind fun bt698 => ((impl_StepPair.f kj86 t689 t692 t695 bt698.1 bt698.2).bind fun bt700 => ((laws_eqPair.f kj86 bt700.1 bt700.2.1 bt700.2.2.1 t634 t637 t640).bind fun t711 => (if t711 = true then (laws_FnExactStepPair.j2 kj86 t684 (bt700.2.2.2 != t643) t685 t686 t687) else (laws_FnExactStepPair.j2 kj86 t684 true t685 t686 t687))))) = some r := H
     have A136 := Aside0.mk A1360
     clear A1360
     replace H := Option.bind_eq_some_iff.mp H
     obtain ⟨⟨t698, t699⟩, A1370, H⟩ := H
     replace H : ((impl_StepPair.f kj86 t689 t692 t695 t698 t699).bind fun bt700 => ((laws_eqPair.f kj86 bt700.1 bt700.2.1 bt700.2.2.1 t634 t637 t640).bind fun t711 => (if t711 = true then (laws_FnExactStepPair.j2 kj86 t684 (bt700.2.2.2 != t643) t685 t686 t687) else (laws_FnExactStepPair.j2 kj86 t684 true t685 t686 t687)))) = some r := H
     have A137 := Aside0.mk A1370
     clear A1370
     replace H := Option.bind_eq_some_iff.mp H
     obtain ⟨⟨t700, t703, t706, t709⟩, A1380, H⟩ := H
     replace H : ((laws_eqPair.f kj86 t700 t703 t706 t634 t637 t640).bind fun t711 => (if t711 = true then (laws_FnExactStepPair.j2 kj86 t684 (t709 != t643) t685 t686 t687) else (laws_FnExactStepPair.j2 kj86 t684 true t685 t686 t687))) = some r := H
     have A138 := Aside0.mk A1380
     clear A1380
     have HC139 := Aside0.mk H
     clear H
     have hnb140 := NB667_620.out
     have hnc140 := NB620_667.out
     have hnb141 := NB667_621.out
     have hnc141 := NB621_667.out
     have hnb142 := NB667_644.out
     have hnc142 := NB644_667.out
     have hnb143 := NB667_654.out
     have hnc143 := NB654_667.out
     have hcz144_0 : wc.cell? ⟨gb667, 0, none⟩ = some (.slice Ao54 t657.length co54) := bc_ BK667 0
     have hcz144_1 : wc.cell? ⟨gb667, 1, none⟩ = some (.slice Ao56 t660.length co56) := bc_ BK667 1
     have hcz144_2 : wc.cell? ⟨gb667, 2, none⟩ = some (.slice Ao58 t663.length co58) := bc_ BK667 2
     have hfz144_0 := blk_frozen BK667.out 0
     have hfz144_1 := blk_frozen BK667.out 1
     have hfz144_2 := blk_frozen BK667.out 2
     try go_wp2_with (first | ((with_reducible refine gate_callee (f := 35) rfl ?_); refine goesL_ (some 70) rfl rfl Try.func35 (by kernel_rfl) rfl #[.agg #[.slice Ao54 t657.length co54, .slice Ao56 t660.length co56, .slice Ao58 t663.length co58], .int .i64 1] rfl tm_ ?_; (with_reducible refine (laws_markPair.calls kj86 (fun k_ => some k_ = (.slice Ao54 t657.length co54 : Value).ownBlock) (.slice Ao54 t657.length co54) t657 (fun k_ => some k_ = (.slice Ao56 t660.length co56 : Value).ownBlock) (.slice Ao56 t660.length co56) t660 (fun k_ => some k_ = (.slice Ao58 t663.length co58 : Value).ownBlock) (.slice Ao58 t663.length co58) t663 1 t684 t685 t686 t687 w _ ?side1 ?side2 ?side3 ?side4 ?side5 ?side6 A124.out).mono ?_); (case side1 => repeat (first | (with_reducible first | exact HB.out | apply below_alloc | apply pw_below_drewN | apply below_drew1 | refine below_set ?_ GE620.out | refine below_set ?_ GE621.out | refine below_set ?_ GE644.out | refine below_set ?_ GE654.out | refine below_set ?_ GE667.out) | exact HB.out)); (case side2 => exact Kd.R_tight rfl HO_668000.out); (case side3 => exact fun k_ e_ => (HO_668000.out.1 k_ e_.symm).2.2.2.2); (case side4 => exact Kd.R_tight rfl HO_668001.out); (case side5 => exact fun k_ e_ => (HO_668001.out.1 k_ e_.symm).2.2.2.2); (case side6 => exact Kd.R_tight rfl HO_668002.out); rintro e w145 ⟨rfl, hy0, hy1, hy2, hb, hkp⟩; refine ⟨_, rfl, ?_⟩; replace HO_645000 := Aside0.mk (Kd.R_mono (ok' := fun k_ => no_ (.slice Ao33 t637.length co33) k_ ∧ no_ (.slice Ao41 t680.length co41) k_ ∧ no_ (.slice Ao46 t681.length co46) k_ ∧ no_ (.slice Ao54 t657.length co54) k_ ∧ no_ (.slice Ao56 t660.length co56) k_) (Kd.R_keptB ((Kd.R_apart' HO_645000.out (Kd.R_typed HO_668002.out) (by decide))) hkp (fun k_ hk_ hs_ => Or.elim hs_ (fun e_ => (hk_.1.2.2.2.1) e_) (fun e_ => Or.elim e_ (fun e_ => (hk_.1.2.2.2.2) e_) (fun e_ => (hk_.2) e_)))) (fun k_ hk_ => ⟨hk_.1.1.1, hk_.1.1.2.1, hk_.1.1.2.2.1, hk_.1.1.2.2.2.1, hk_.1.1.2.2.2.2⟩)); replace HO_645001 := Aside0.mk (Kd.R_mono (ok' := fun k_ => no_ (.slice Ao31 t634.length co31) k_ ∧ no_ (.slice Ao41 t680.length co41) k_ ∧ no_ (.slice Ao46 t681.length co46) k_ ∧ no_ (.slice Ao54 t657.length co54) k_ ∧ no_ (.slice Ao56 t660.length co56) k_) (Kd.R_keptB ((Kd.R_apart' HO_645001.out (Kd.R_typed HO_668002.out) (by decide))) hkp (fun k_ hk_ hs_ => Or.elim hs_ (fun e_ => (hk_.1.2.2.2.1) e_) (fun e_ => Or.elim e_ (fun e_ => (hk_.1.2.2.2.2) e_) (fun e_ => (hk_.2) e_)))) (fun k_ hk_ => ⟨hk_.1.1.1, hk_.1.1.2.1, hk_.1.1.2.2.1, hk_.1.1.2.2.2.1, hk_.1.1.2.2.2.2⟩)); replace HO_645002 := Aside0.mk (Kd.R_mono (ok' := fun k_ => no_ (.slice Ao47 t682.length co47) k_ ∧ no_ (.slice Ao58 t663.length co58) k_) (Kd.R_keptB ((Kd.R_apart' (Kd.R_apart' HO_645002.out (Kd.R_typed HO_668000.out) (by decide)) (Kd.R_typed HO_668001.out) (by decide))) hkp (fun k_ hk_ hs_ => Or.elim hs_ (fun e_ => (hk_.1.2) e_) (fun e_ => Or.elim e_ (fun e_ => (hk_.2) e_) (fun e_ => (hk_.1.1.2) e_)))) (fun k_ hk_ => ⟨hk_.1.1.1.1, hk_.1.1.1.2⟩)); replace HO_655000 := Aside0.mk (Kd.R_mono (ok' := fun k_ => no_ (.slice Ao31 t634.length co31) k_ ∧ no_ (.slice Ao33 t637.length co33) k_ ∧ no_ (.slice Ao46 t681.length co46) k_ ∧ no_ (.slice Ao54 t657.length co54) k_ ∧ no_ (.slice Ao56 t660.length co56) k_) (Kd.R_keptB ((Kd.R_apart' HO_655000.out (Kd.R_typed HO_668002.out) (by decide))) hkp (fun k_ hk_ hs_ => Or.elim hs_ (fun e_ => (hk_.1.2.2.2.1) e_) (fun e_ => Or.elim e_ (fun e_ => (hk_.1.2.2.2.2) e_) (fun e_ => (hk_.2) e_)))) (fun k_ hk_ => ⟨hk_.1.1.1, hk_.1.1.2.1, hk_.1.1.2.2.1, hk_.1.1.2.2.2.1, hk_.1.1.2.2.2.2⟩)); replace HO_655001 := Aside0.mk (Kd.R_mono (ok' := fun k_ => no_ (.slice Ao31 t634.length co31) k_ ∧ no_ (.slice Ao33 t637.length co33) k_ ∧ no_ (.slice Ao41 t680.length co41) k_ ∧ no_ (.slice Ao54 t657.length co54) k_ ∧ no_ (.slice Ao56 t660.length co56) k_) (Kd.R_keptB ((Kd.R_apart' HO_655001.out (Kd.R_typed HO_668002.out) (by decide))) hkp (fun k_ hk_ hs_ => Or.elim hs_ (fun e_ => (hk_.1.2.2.2.1) e_) (fun e_ => Or.elim e_ (fun e_ => (hk_.1.2.2.2.2) e_) (fun e_ => (hk_.2) e_)))) (fun k_ hk_ => ⟨hk_.1.1.1, hk_.1.1.2.1, hk_.1.1.2.2.1, hk_.1.1.2.2.2.1, hk_.1.1.2.2.2.2⟩)); replace HO_655002 := Aside0.mk (Kd.R_mono (ok' := fun k_ => no_ (.slice Ao35 t640.length co35) k_ ∧ no_ (.slice Ao58 t663.length co58) k_) (Kd.R_keptB ((Kd.R_apart' (Kd.R_apart' HO_655002.out (Kd.R_typed HO_668000.out) (by decide)) (Kd.R_typed HO_668001.out) (by decide))) hkp (fun k_ hk_ hs_ => Or.elim hs_ (fun e_ => (hk_.1.2) e_) (fun e_ => Or.elim e_ (fun e_ => (hk_.2) e_) (fun e_ => (hk_.1.1.2) e_)))) (fun k_ hk_ => ⟨hk_.1.1.1.1, hk_.1.1.1.2⟩)); replace BK620 := Aside0.mk (blk_kept (ba BK620.out) hkp (fun hs_ => Or.elim hs_ (kne_ HO_668000 BK620) (fun e_ => Or.elim e_ (kne_ HO_668001 BK620) (kne_ HO_668002 BK620)))); replace BK621 := Aside0.mk (blk_kept (ba BK621.out) hkp (fun hs_ => Or.elim hs_ (kne_ HO_668000 BK621) (fun e_ => Or.elim e_ (kne_ HO_668001 BK621) (kne_ HO_668002 BK621)))); replace BK644 := Aside0.mk (blk_kept (ba BK644.out) hkp (fun hs_ => Or.elim hs_ (kne_ HO_668000 BK644) (fun e_ => Or.elim e_ (kne_ HO_668001 BK644) (kne_ HO_668002 BK644)))); replace BK654 := Aside0.mk (blk_kept (ba BK654.out) hkp (fun hs_ => Or.elim hs_ (kne_ HO_668000 BK654) (fun e_ => Or.elim e_ (kne_ HO_668001 BK654) (kne_ HO_668002 BK654)))); replace BK667 := Aside0.mk (blk_kept (ba BK667.out) hkp (fun hs_ => Or.elim hs_ (kne_ HO_668000 BK667) (fun e_ => Or.elim e_ (kne_ HO_668001 BK667) (kne_ HO_668002 BK667)))); replace HO_668000 := Aside0.mk (Kd.R_reok rfl hy0 (fun k_ e_ => HO_668000.out.1 k_ e_)); replace HO_668001 := Aside0.mk (Kd.R_reok rfl hy1 (fun k_ e_ => HO_668001.out.1 k_ e_)); replace HO_668002 := Aside0.mk (Kd.R_reok rfl hy2 (fun k_ e_ => HO_668002.out.1 k_ e_)); replace HB := Aside0.mk (hb); clear hb; have hcz146_0 : w145.cell? ⟨gb667, 0, none⟩ = some (.slice Ao54 t657.length co54) := bc_ BK667 0; have hcz146_1 : w145.cell? ⟨gb667, 1, none⟩ = some (.slice Ao56 t660.length co56) := bc_ BK667 1; have hcz146_2 : w145.cell? ⟨gb667, 2, none⟩ = some (.slice Ao58 t663.length co58) := bc_ BK667 2; have hfz146_0 := blk_frozen BK667.out 0; have hfz146_1 := blk_frozen BK667.out 1; have hfz146_2 := blk_frozen BK667.out 2) | ((with_reducible refine gate_callee (f := 36) rfl ?_); refine goesL_ (some 73) rfl rfl Try.func36 (by kernel_rfl) rfl #[.agg #[.slice Ao54 t685.length co54, .slice Ao56 t686.length co56, .slice Ao58 t687.length co58], .int .i64 1] rfl (by (try simp only [List.map_toArray, List.map_cons, List.map_nil]); first | done | (rw [show t685.length = t657.length from (Kd.R_reads' HO_668000.out).1.symm, show t686.length = t660.length from (Kd.R_reads' HO_668001.out).1.symm, show t687.length = t663.length from (Kd.R_reads' HO_668002.out).1.symm] <;> rfl) | rfl | (simp only [List.length_drop, List.length_take]; rfl)) ?_; (with_reducible refine (laws_heldPair.calls kj86 _ _ t685 _ _ t686 _ _ t687 1 t688 _ ?side1 ?side2 ?side3 ?side4 ?side5 ?side6 A125.out).mono ?_); (case side1 => exact ca (Kd.R_reads' HO_668000.out).2.2); (case side2 => rw [show t685.length = t657.length from (Kd.R_reads' HO_668000.out).1.symm]; exact (Kd.R_reads' HO_668000.out).2.1); (case side3 => exact ca (Kd.R_reads' HO_668001.out).2.2); (case side4 => rw [show t686.length = t660.length from (Kd.R_reads' HO_668001.out).1.symm]; exact (Kd.R_reads' HO_668001.out).2.1); (case side5 => exact ca (Kd.R_reads' HO_668002.out).2.2); (case side6 => rw [show t687.length = t663.length from (Kd.R_reads' HO_668002.out).1.symm]; exact (Kd.R_reads' HO_668002.out).2.1); rintro e w147 ⟨rfl, hb⟩; refine ⟨_, rfl, ?_⟩; replace HO_645000 := rb_ HO_645000 hb; replace HO_645001 := rb_ HO_645001 hb; replace HO_645002 := rb_ HO_645002 hb; replace HO_655000 := rb_ HO_655000 hb; replace HO_655001 := rb_ HO_655001 hb; replace HO_655002 := rb_ HO_655002 hb; replace HO_668000 := rb_ HO_668000 hb; replace HO_668001 := rb_ HO_668001 hb; replace HO_668002 := rb_ HO_668002 hb; replace BK620 := bb_ BK620 hb; replace BK621 := bb_ BK621 hb; replace BK644 := bb_ BK644 hb; replace BK654 := bb_ BK654 hb; replace BK667 := bb_ BK667 hb; replace HB := bst_ HB hb; clear hb))
     replace HO_645000 := rd_ HO_645000
     replace HO_645001 := rd_ HO_645001
     replace HO_645002 := rd_ HO_645002
     replace HO_655000 := rd_ HO_655000
     replace HO_655001 := rd_ HO_655001
     replace HO_655002 := rd_ HO_655002
     replace HO_668000 := rd_ HO_668000
     replace HO_668001 := rd_ HO_668001
     replace HO_668002 := rd_ HO_668002
     replace BK620 := bd_ BK620
     replace BK621 := bd_ BK621
     replace BK644 := bd_ BK644
     replace BK654 := bd_ BK654
     replace BK667 := bd_ BK667
     replace HB := Aside0.mk (below_drew1 HB.out)
     refine start_ (n := 11) (S := fun w' => w'.cell? ⟨gb620, 0, none⟩ = some (.slice A0_0 l0_0.length c0_0) ∧ w'.cell? ⟨gb620, 1, none⟩ = some (.slice A0_1 l0_1.length c0_1) ∧ w'.cell? ⟨gb620, 2, none⟩ = some (.slice A0_2 l0_2.length c0_2) ∧ w'.cell? ⟨gb621, 0, none⟩ = some (.int .i64 a1_0) ∧ w'.cell? ⟨gb621, 1, none⟩ = some (.int .i64 a1_1)) (ds := []) (bs 11 0) (by kernel_rfl) rfl rfl ⟨bc_ BK620 0, bc_ BK620 1, bc_ BK620 2, bc_ BK621 0, bc_ BK621 1⟩ (fun hHeld => ?_); refine with_tabW laws_FnExactStepPair.tab24 laws_FnExactStepPair.bits24 (fun HT_ HW_ => ?_)
     generalize w147.drew = w148 at HO_645000 HO_645001 HO_645002 HO_655000 HO_655001 HO_655002 HO_668000 HO_668001 HO_668002 BK620 BK621 BK644 BK654 BK667 HB hHeld ⊢
     refine tk_ 0 80 (bs 11 1) HT_ HW_ hHeld ?_
     refine tk_ 2 82 (bs 11 5) HT_ HW_ hHeld ?_
     refine join_ (σ := Value × Value × Value × Value × Value × Value × Nat) 2 (bs 11 511) (fun s_ => [(81, .agg #[s_.1, s_.2.1, s_.2.2.1]), (83, .agg #[.int .i64 t698, .int .i64 t699]), (84, .tuple #[.agg #[s_.2.2.2.1, s_.2.2.2.2.1, s_.2.2.2.2.2.1], .bool t709]), (14, .pointer (some ⟨s_.2.2.2.2.2.2, 0, none⟩)), (79, .tuple #[.agg #[s_.2.2.2.1, s_.2.2.2.2.1, s_.2.2.2.2.2.1], .bool t709]), (85, .agg #[s_.2.2.2.1, s_.2.2.2.2.1, s_.2.2.2.2.2.1]), (86, .bool t709)]) (fun s_ w' => (w'.cell? ⟨gb620, 0, none⟩ = some (.slice A0_0 l0_0.length c0_0) ∧ w'.cell? ⟨gb620, 1, none⟩ = some (.slice A0_1 l0_1.length c0_1) ∧ w'.cell? ⟨gb620, 2, none⟩ = some (.slice A0_2 l0_2.length c0_2) ∧ w'.cell? ⟨gb621, 0, none⟩ = some (.int .i64 a1_0) ∧ w'.cell? ⟨gb621, 1, none⟩ = some (.int .i64 a1_1)) ∧ (Kd.R (Kd.int .i64) 3 w' w.heap.size (fun k_ => no_ s_.2.1 k_ ∧ no_ s_.2.2.2.1 k_ ∧ no_ s_.2.2.2.2.1 k_ ∧ no_ (.slice Ao31 t634.length co31) k_ ∧ no_ (.slice Ao33 t637.length co33) k_ ∧ no_ (.slice Ao41 t680.length co41) k_ ∧ no_ (.slice Ao46 t681.length co46) k_ ∧ no_ (.slice Ao54 t657.length co54) k_ ∧ no_ (.slice Ao56 t660.length co56) k_) s_.1 t689) ∧ (Kd.R (Kd.int .i64) 3 w' w.heap.size (fun k_ => no_ s_.1 k_ ∧ no_ s_.2.2.2.1 k_ ∧ no_ s_.2.2.2.2.1 k_ ∧ no_ (.slice Ao31 t634.length co31) k_ ∧ no_ (.slice Ao33 t637.length co33) k_ ∧ no_ (.slice Ao41 t680.length co41) k_ ∧ no_ (.slice Ao46 t681.length co46) k_ ∧ no_ (.slice Ao54 t657.length co54) k_ ∧ no_ (.slice Ao56 t660.length co56) k_) s_.2.1 t692) ∧ (Kd.R k127 127 w' w.heap.size (fun k_ => no_ s_.2.2.2.2.2.1 k_ ∧ no_ (.slice Ao35 t640.length co35) k_ ∧ no_ (.slice Ao47 t682.length co47) k_ ∧ no_ (.slice Ao58 t663.length co58) k_) s_.2.2.1 t695) ∧ (Kd.R (Kd.int .i64) 3 w' w.heap.size (fun k_ => no_ s_.1 k_ ∧ no_ s_.2.1 k_ ∧ no_ s_.2.2.2.2.1 k_ ∧ no_ (.slice Ao31 t634.length co31) k_ ∧ no_ (.slice Ao33 t637.length co33) k_ ∧ no_ (.slice Ao41 t680.length co41) k_ ∧ no_ (.slice Ao46 t681.length co46) k_ ∧ no_ (.slice Ao54 t657.length co54) k_ ∧ no_ (.slice Ao56 t660.length co56) k_) s_.2.2.2.1 t700) ∧ (Kd.R (Kd.int .i64) 3 w' w.heap.size (fun k_ => no_ s_.1 k_ ∧ no_ s_.2.1 k_ ∧ no_ s_.2.2.2.1 k_ ∧ no_ (.slice Ao31 t634.length co31) k_ ∧ no_ (.slice Ao33 t637.length co33) k_ ∧ no_ (.slice Ao41 t680.length co41) k_ ∧ no_ (.slice Ao46 t681.length co46) k_ ∧ no_ (.slice Ao54 t657.length co54) k_ ∧ no_ (.slice Ao56 t660.length co56) k_) s_.2.2.2.2.1 t703) ∧ (Kd.R k127 127 w' w.heap.size (fun k_ => no_ s_.2.2.1 k_ ∧ no_ (.slice Ao35 t640.length co35) k_ ∧ no_ (.slice Ao47 t682.length co47) k_ ∧ no_ (.slice Ao58 t663.length co58) k_) s_.2.2.2.2.2.1 t706) ∧ (Kd.R (Kd.int .i64) 3 w' w.heap.size (fun k_ => no_ s_.1 k_ ∧ no_ s_.2.1 k_ ∧ no_ s_.2.2.2.1 k_ ∧ no_ s_.2.2.2.2.1 k_ ∧ no_ (.slice Ao33 t637.length co33) k_ ∧ no_ (.slice Ao41 t680.length co41) k_ ∧ no_ (.slice Ao46 t681.length co46) k_ ∧ no_ (.slice Ao54 t657.length co54) k_ ∧ no_ (.slice Ao56 t660.length co56) k_) (.slice Ao31 t634.length co31) t634) ∧ (Kd.R (Kd.int .i64) 3 w' w.heap.size (fun k_ => no_ s_.1 k_ ∧ no_ s_.2.1 k_ ∧ no_ s_.2.2.2.1 k_ ∧ no_ s_.2.2.2.2.1 k_ ∧ no_ (.slice Ao31 t634.length co31) k_ ∧ no_ (.slice Ao41 t680.length co41) k_ ∧ no_ (.slice Ao46 t681.length co46) k_ ∧ no_ (.slice Ao54 t657.length co54) k_ ∧ no_ (.slice Ao56 t660.length co56) k_) (.slice Ao33 t637.length co33) t637) ∧ (Kd.R k127 127 w' w.heap.size (fun k_ => no_ s_.2.2.1 k_ ∧ no_ s_.2.2.2.2.2.1 k_ ∧ no_ (.slice Ao47 t682.length co47) k_ ∧ no_ (.slice Ao58 t663.length co58) k_) (.slice Ao35 t640.length co35) t640) ∧ (Kd.R (Kd.int .i64) 3 w' w.heap.size (fun k_ => no_ s_.1 k_ ∧ no_ s_.2.1 k_ ∧ no_ s_.2.2.2.1 k_ ∧ no_ s_.2.2.2.2.1 k_ ∧ no_ (.slice Ao31 t634.length co31) k_ ∧ no_ (.slice Ao33 t637.length co33) k_ ∧ no_ (.slice Ao46 t681.length co46) k_ ∧ no_ (.slice Ao54 t657.length co54) k_ ∧ no_ (.slice Ao56 t660.length co56) k_) (.slice Ao41 t680.length co41) t680) ∧ (Kd.R (Kd.int .i64) 3 w' w.heap.size (fun k_ => no_ s_.1 k_ ∧ no_ s_.2.1 k_ ∧ no_ s_.2.2.2.1 k_ ∧ no_ s_.2.2.2.2.1 k_ ∧ no_ (.slice Ao31 t634.length co31) k_ ∧ no_ (.slice Ao33 t637.length co33) k_ ∧ no_ (.slice Ao41 t680.length co41) k_ ∧ no_ (.slice Ao54 t657.length co54) k_ ∧ no_ (.slice Ao56 t660.length co56) k_) (.slice Ao46 t681.length co46) t681) ∧ (Kd.R k127 127 w' w.heap.size (fun k_ => no_ s_.2.2.1 k_ ∧ no_ s_.2.2.2.2.2.1 k_ ∧ no_ (.slice Ao35 t640.length co35) k_ ∧ no_ (.slice Ao58 t663.length co58) k_) (.slice Ao47 t682.length co47) t682) ∧ (Kd.R (Kd.int .i64) 3 w' w.heap.size (fun k_ => no_ s_.1 k_ ∧ no_ s_.2.1 k_ ∧ no_ s_.2.2.2.1 k_ ∧ no_ s_.2.2.2.2.1 k_ ∧ no_ (.slice Ao31 t634.length co31) k_ ∧ no_ (.slice Ao33 t637.length co33) k_ ∧ no_ (.slice Ao41 t680.length co41) k_ ∧ no_ (.slice Ao46 t681.length co46) k_ ∧ no_ (.slice Ao56 t660.length co56) k_) (.slice Ao54 t657.length co54) t685) ∧ (Kd.R (Kd.int .i64) 3 w' w.heap.size (fun k_ => no_ s_.1 k_ ∧ no_ s_.2.1 k_ ∧ no_ s_.2.2.2.1 k_ ∧ no_ s_.2.2.2.2.1 k_ ∧ no_ (.slice Ao31 t634.length co31) k_ ∧ no_ (.slice Ao33 t637.length co33) k_ ∧ no_ (.slice Ao41 t680.length co41) k_ ∧ no_ (.slice Ao46 t681.length co46) k_ ∧ no_ (.slice Ao54 t657.length co54) k_) (.slice Ao56 t660.length co56) t686) ∧ (Kd.R k127 127 w' w.heap.size (fun k_ => no_ s_.2.2.1 k_ ∧ no_ s_.2.2.2.2.2.1 k_ ∧ no_ (.slice Ao35 t640.length co35) k_ ∧ no_ (.slice Ao47 t682.length co47) k_) (.slice Ao58 t663.length co58) t687) ∧ (w'.heap[gb620]? = some (.cells #[.slice A0_0 l0_0.length c0_0, .slice A0_1 l0_1.length c0_1, .slice A0_2 l0_2.length c0_2] 41 (0, 0))) ∧ (w'.heap[gb621]? = some (.cells #[.int .i64 a1_0, .int .i64 a1_1] 43 (0, 0))) ∧ (w'.heap[gb644]? = some (.cells #[.slice Ao31 t634.length co31, .slice Ao33 t637.length co33, .slice Ao35 t640.length co35] 47 (0, 0))) ∧ (w'.heap[gb654]? = some (.cells #[.slice Ao41 t680.length co41, .slice Ao46 t681.length co46, .slice Ao47 t682.length co47] 47 (0, 0))) ∧ (w'.heap[gb667]? = some (.cells #[.slice Ao54 t657.length co54, .slice Ao56 t660.length co56, .slice Ao58 t663.length co58] 47 (0, 0))) ∧ (w'.heap[s_.2.2.2.2.2.2]? = some (.cells #[.slice none 0 0, .slice none 0 0, .slice none 0 0] 47 (0, 0))) ∧ (w.heap.size ≤ s_.2.2.2.2.2.2) ∧ (w.heap.size ≤ s_.2.2.2.2.2.2) ∧ (gb620 ≠ s_.2.2.2.2.2.2) ∧ (s_.2.2.2.2.2.2 ≠ gb620) ∧ (gb621 ≠ s_.2.2.2.2.2.2) ∧ (s_.2.2.2.2.2.2 ≠ gb621) ∧ (gb644 ≠ s_.2.2.2.2.2.2) ∧ (s_.2.2.2.2.2.2 ≠ gb644) ∧ (gb654 ≠ s_.2.2.2.2.2.2) ∧ (s_.2.2.2.2.2.2 ≠ gb654) ∧ (gb667 ≠ s_.2.2.2.2.2.2) ∧ (s_.2.2.2.2.2.2 ≠ gb667) ∧ (Below w.heap.size w w')) ?_ ?_
     rotate_left
     ·intro hCont
      refine two_ (i := 1) (j := 8) (Ni := some 81) (Nj := some 14) (bs 11 7) (bs 11 261) rfl rfl rfl rfl (two_of HT_.out (by kernel_rfl)) (by decide) (by decide) (fun K hK => ?_) (fun K hK => ?_)
      rotate_left
      ·skip
       refine box_step ?hg (N := 14) ?hd (cs := #[.slice none 0 0, .slice none 0 0, .slice none 0 0]) (t := 47) ?hr ?_; (case hd => rfl); (case hg => rfl); (case hr => first | (go_simp; done) | (go_simp; rfl))
       intro gb710 hg w149 hbox hb
       have BK710 := Aside0.mk (hbox)
       have GW710 := gw_ hg HB
       have GE710 := gw_ hg HB
       have NB620_710 := nl_ hg BK620
       have NB710_620 := ng_ hg BK620
       have NB621_710 := nl_ hg BK621
       have NB710_621 := ng_ hg BK621
       have NB644_710 := nl_ hg BK644
       have NB710_644 := ng_ hg BK644
       have NB654_710 := nl_ hg BK654
       have NB710_654 := ng_ hg BK654
       have NB667_710 := nl_ hg BK667
       have NB710_667 := ng_ hg BK667
       replace HO_645000 := rb_ HO_645000 hb
       replace HO_645001 := rb_ HO_645001 hb
       replace HO_645002 := rb_ HO_645002 hb
       replace HO_655000 := rb_ HO_655000 hb
       replace HO_655001 := rb_ HO_655001 hb
       replace HO_655002 := rb_ HO_655002 hb
       replace HO_668000 := rb_ HO_668000 hb
       replace HO_668001 := rb_ HO_668001 hb
       replace HO_668002 := rb_ HO_668002 hb
       replace BK620 := bb_ BK620 hb
       replace BK621 := bb_ BK621 hb
       replace BK644 := bb_ BK644 hb
       replace BK654 := bb_ BK654 hb
       replace BK667 := bb_ BK667 hb
       replace HB := bst_ HB hb
       clear hb hbox hg
       refine hK.out _ _ ⟨bc_ BK620 0, bc_ BK620 1, bc_ BK620 2, bc_ BK621 0, bc_ BK621 1⟩ (fun hHeld => ?_)
       clear hK K
       refine nm_ 14 ?_
       refine one_ (i := 1) (N := some 81) (bs 11 263) rfl rfl (one_of HT_.out (by kernel_rfl)) (by decide) (fun K hK => ?_)
       refine goes_ Try.func31 (by kernel_rfl) rfl #[.agg #[.slice A0_0 l0_0.length c0_0, .slice A0_1 l0_1.length c0_1, .slice A0_2 l0_2.length c0_2]] (by rfl) rfl rfl tm_ ?_
       with_reducible refine (laws_toPair.calls kj86 _ _ l0_0 _ _ l0_1 _ _ l0_2 t689 t692 t695 _ ?side1 ?side2 ?side3 ?side4 ?side5 ?side6 A136.out).mono ?_
       (case side1 => exact ca (Kd.C_below HR0_0.out HB.out))
       (case side2 => exact HC0_0.out)
       (case side3 => exact ca (Kd.C_below HR0_1.out HB.out))
       (case side4 => exact HC0_1.out)
       (case side5 => exact ca (Kd.C_below HR0_2.out HB.out))
       (case side6 => exact HC0_2.out)
       rintro e w150 ⟨v690, v693, v696, rfl, ho0, ho1, ho2, hb⟩
       refine ⟨_, rfl, ?_⟩
       have HO691 := Aside0.mk (Kd.R_lower (Kd.R_new' (Kd.R_new' (Kd.R_new' (Kd.R_new' (Kd.R_new' (Kd.R_new' ho0 (rl_ HO_645000)) (rl_ HO_645001)) (rl_ HO_655000)) (rl_ HO_655001)) (rl_ HO_668000)) (rl_ HO_668001)) (below_size (hB HB)))
       have HO694 := Aside0.mk (Kd.R_lower (Kd.R_new' (Kd.R_new' (Kd.R_new' (Kd.R_new' (Kd.R_new' (Kd.R_new' ho1 (rl_ HO_645000)) (rl_ HO_645001)) (rl_ HO_655000)) (rl_ HO_655001)) (rl_ HO_668000)) (rl_ HO_668001)) (below_size (hB HB)))
       have HO697 := Aside0.mk (Kd.R_lower (Kd.R_new' (Kd.R_new' (Kd.R_new' ho2 (rl_ HO_645002)) (rl_ HO_655002)) (rl_ HO_668002)) (below_size (hB HB)))
       replace HO_645000 := rt2_ HO_645000 hb ho0 ho1
       replace HO_645001 := rt2_ HO_645001 hb ho0 ho1
       replace HO_645002 := re_ HO_645002 ho2 hb
       replace HO_655000 := rt2_ HO_655000 hb ho0 ho1
       replace HO_655001 := rt2_ HO_655001 hb ho0 ho1
       replace HO_655002 := re_ HO_655002 ho2 hb
       replace HO_668000 := rt2_ HO_668000 hb ho0 ho1
       replace HO_668001 := rt2_ HO_668001 hb ho0 ho1
       replace HO_668002 := re_ HO_668002 ho2 hb
       replace BK620 := bb_ BK620 hb
       replace BK621 := bb_ BK621 hb
       replace BK644 := bb_ BK644 hb
       replace BK654 := bb_ BK654 hb
       replace BK667 := bb_ BK667 hb
       replace BK710 := bb_ BK710 hb
       replace HB := bst_ HB hb
       clear hb ho0 ho1 ho2
       refine hK.out _ _ ⟨bc_ BK620 0, bc_ BK620 1, bc_ BK620 2, bc_ BK621 0, bc_ BK621 1⟩ (fun hHeld => ?_)
       clear hK K
       refine nm_ 81 ?_
       refine one_ (i := 3) (N := some 83) (bs 11 271) rfl rfl (one_of HT_.out (by kernel_rfl)) (by decide) (fun K hK => ?_)
       refine goes_ Try.func32 (by kernel_rfl) rfl #[.agg #[.int .i64 a1_0, .int .i64 a1_1]] (by rfl) rfl rfl tm_ ?_
       with_reducible refine (laws_toPairStep.calls a1_0 a1_1 t698 t699 _ A137.out).mono ?_
       rintro e w151 ⟨rfl, hb⟩
       refine ⟨_, rfl, ?_⟩
       replace HO_645000 := rb_ HO_645000 hb
       replace HO_645001 := rb_ HO_645001 hb
       replace HO_645002 := rb_ HO_645002 hb
       replace HO_655000 := rb_ HO_655000 hb
       replace HO_655001 := rb_ HO_655001 hb
       replace HO_655002 := rb_ HO_655002 hb
       replace HO_668000 := rb_ HO_668000 hb
       replace HO_668001 := rb_ HO_668001 hb
       replace HO_668002 := rb_ HO_668002 hb
       replace HO691 := rb_ HO691 hb
       replace HO694 := rb_ HO694 hb
       replace HO697 := rb_ HO697 hb
       replace BK620 := bb_ BK620 hb
       replace BK621 := bb_ BK621 hb
       replace BK644 := bb_ BK644 hb
       replace BK654 := bb_ BK654 hb
       replace BK667 := bb_ BK667 hb
       replace BK710 := bb_ BK710 hb
       replace HB := bst_ HB hb
       clear hb
       obtain ⟨Ao152, co152, eo152⟩ := Kd.R_slice HO691.out
       (first | subst eo152 | (injection eo152 with f1_ f2_ f3_; have f4_ := f1_.symm; have f5_ := f3_.symm; clear f1_ f2_ f3_; subst f4_; subst f5_))
       obtain ⟨Ao153, co153, eo153⟩ := Kd.R_slice HO694.out
       (first | subst eo153 | (injection eo153 with f1_ f2_ f3_; have f4_ := f1_.symm; have f5_ := f3_.symm; clear f1_ f2_ f3_; subst f4_; subst f5_))
       obtain ⟨Ao154, co154, eo154⟩ := Kd.R_slice HO697.out
       (first | subst eo154 | (injection eo154 with f1_ f2_ f3_; have f4_ := f1_.symm; have f5_ := f3_.symm; clear f1_ f2_ f3_; subst f4_; subst f5_))
       refine hK.out _ _ ⟨bc_ BK620 0, bc_ BK620 1, bc_ BK620 2, bc_ BK621 0, bc_ BK621 1⟩ (fun hHeld => ?_)
       clear hK K
       refine nm_ 83 ?_
       refine one_ (i := 4) (N := some 84) (bs 11 287) rfl rfl (one_of HT_.out (by kernel_rfl)) (by decide) (fun K hK => ?_)
       refine goes_ Try.func33 (by kernel_rfl) rfl #[.agg #[.slice Ao152 t689.length co152, .slice Ao153 t692.length co153, .slice Ao154 t695.length co154], .agg #[.int .i64 t698, .int .i64 t699]] (by rfl) rfl rfl tm_ ?_
       with_reducible refine (impl_StepPair.calls kj86 _ _ t689 _ _ t692 _ _ t695 t698 t699 t700 t703 t706 t709 _ ?side1 ?side2 ?side3 ?side4 ?side5 ?side6 A138.out).mono ?_
       (case side1 => exact ca (Kd.R_reads' HO691.out).2.2)
       (case side2 => exact (Kd.R_reads' HO691.out).2.1)
       (case side3 => exact ca (Kd.R_reads' HO694.out).2.2)
       (case side4 => exact (Kd.R_reads' HO694.out).2.1)
       (case side5 => exact ca (Kd.R_reads' HO697.out).2.2)
       (case side6 => exact (Kd.R_reads' HO697.out).2.1)
       rintro e w155 ⟨v701, v704, v707, rfl, ho0, ho1, ho2, hb⟩
       refine ⟨_, rfl, ?_⟩
       have HO702 := Aside0.mk (Kd.R_lower (Kd.R_new' (Kd.R_new' (Kd.R_new' (Kd.R_new' (Kd.R_new' (Kd.R_new' (Kd.R_new' (Kd.R_new' ho0 (rl_ HO_645000)) (rl_ HO_645001)) (rl_ HO_655000)) (rl_ HO_655001)) (rl_ HO_668000)) (rl_ HO_668001)) (rl_ HO691)) (rl_ HO694)) (below_size (hB HB)))
       have HO705 := Aside0.mk (Kd.R_lower (Kd.R_new' (Kd.R_new' (Kd.R_new' (Kd.R_new' (Kd.R_new' (Kd.R_new' (Kd.R_new' (Kd.R_new' ho1 (rl_ HO_645000)) (rl_ HO_645001)) (rl_ HO_655000)) (rl_ HO_655001)) (rl_ HO_668000)) (rl_ HO_668001)) (rl_ HO691)) (rl_ HO694)) (below_size (hB HB)))
       have HO708 := Aside0.mk (Kd.R_lower (Kd.R_new' (Kd.R_new' (Kd.R_new' (Kd.R_new' ho2 (rl_ HO_645002)) (rl_ HO_655002)) (rl_ HO_668002)) (rl_ HO697)) (below_size (hB HB)))
       replace HO_645000 := rt2_ HO_645000 hb ho0 ho1
       replace HO_645001 := rt2_ HO_645001 hb ho0 ho1
       replace HO_645002 := re_ HO_645002 ho2 hb
       replace HO_655000 := rt2_ HO_655000 hb ho0 ho1
       replace HO_655001 := rt2_ HO_655001 hb ho0 ho1
       replace HO_655002 := re_ HO_655002 ho2 hb
       replace HO_668000 := rt2_ HO_668000 hb ho0 ho1
       replace HO_668001 := rt2_ HO_668001 hb ho0 ho1
       replace HO_668002 := re_ HO_668002 ho2 hb
       replace HO691 := rt2_ HO691 hb ho0 ho1
       replace HO694 := rt2_ HO694 hb ho0 ho1
       replace HO697 := re_ HO697 ho2 hb
       replace BK620 := bb_ BK620 hb
       replace BK621 := bb_ BK621 hb
       replace BK644 := bb_ BK644 hb
       replace BK654 := bb_ BK654 hb
       replace BK667 := bb_ BK667 hb
       replace BK710 := bb_ BK710 hb
       replace HB := bst_ HB hb
       clear hb ho0 ho1 ho2
       refine hK.out _ _ ⟨bc_ BK620 0, bc_ BK620 1, bc_ BK620 2, bc_ BK621 0, bc_ BK621 1⟩ (fun hHeld => ?_)
       clear hK K
       refine nm_ 84 ?_
       refine pu_ 5 79 (bs 11 319) HT_ ?_
       refine pu_ 6 85 (bs 11 383) HT_ ?_
       refine pu_ 7 86 (bs 11 511) HT_ ?_
       exact norm_ (by simp only [putAll, Act.put, List.setIfInBounds_toArray, List.set_cons_zero, List.set_cons_succ]) (hCont (.slice Ao152 t689.length co152, .slice Ao153 t692.length co153, .slice Ao154 t695.length co154, v701, v704, v707, gb710) _ ⟨hHeld, (rm_ HO691 (fun _ hk => ⟨hk.1.1.1.1.1.1.1.1, ⟨hk.1.2, ⟨hk.2, ⟨hk.1.1.1.1.1.1.1.2, ⟨hk.1.1.1.1.1.1.2, ⟨hk.1.1.1.1.1.2, ⟨hk.1.1.1.1.2, ⟨hk.1.1.1.2, hk.1.1.2⟩⟩⟩⟩⟩⟩⟩⟩)).out, (rm_ HO694 (fun _ hk => ⟨hk.1.1.1.1.1.1.1.1, ⟨hk.1.2, ⟨hk.2, ⟨hk.1.1.1.1.1.1.1.2, ⟨hk.1.1.1.1.1.1.2, ⟨hk.1.1.1.1.1.2, ⟨hk.1.1.1.1.2, ⟨hk.1.1.1.2, hk.1.1.2⟩⟩⟩⟩⟩⟩⟩⟩)).out, (rm_ HO697 (fun _ hk => ⟨hk.2, ⟨hk.1.1.1.2, ⟨hk.1.1.2, hk.1.2⟩⟩⟩)).out, (rm_ HO702 (fun _ hk => ⟨hk.1.2, ⟨hk.2, ⟨hk.1.1.1.1.1.1.1.1, ⟨hk.1.1.1.1.1.1.1.2, ⟨hk.1.1.1.1.1.1.2, ⟨hk.1.1.1.1.1.2, ⟨hk.1.1.1.1.2, ⟨hk.1.1.1.2, hk.1.1.2⟩⟩⟩⟩⟩⟩⟩⟩)).out, (rm_ HO705 (fun _ hk => ⟨hk.1.2, ⟨hk.2, ⟨hk.1.1.1.1.1.1.1.1, ⟨hk.1.1.1.1.1.1.1.2, ⟨hk.1.1.1.1.1.1.2, ⟨hk.1.1.1.1.1.2, ⟨hk.1.1.1.1.2, ⟨hk.1.1.1.2, hk.1.1.2⟩⟩⟩⟩⟩⟩⟩⟩)).out, (rm_ HO708 (fun _ hk => ⟨hk.2, ⟨hk.1.1.1.2, ⟨hk.1.1.2, hk.1.2⟩⟩⟩)).out, (rm_ HO_645000 (fun _ hk => ⟨hk.1.1.1.2, ⟨hk.1.1.2, ⟨hk.1.2, ⟨hk.2, hk.1.1.1.1⟩⟩⟩⟩)).out, (rm_ HO_645001 (fun _ hk => ⟨hk.1.1.1.2, ⟨hk.1.1.2, ⟨hk.1.2, ⟨hk.2, hk.1.1.1.1⟩⟩⟩⟩)).out, (rm_ HO_645002 (fun _ hk => ⟨hk.1.2, ⟨hk.2, hk.1.1⟩⟩)).out, (rm_ HO_655000 (fun _ hk => ⟨hk.1.1.1.2, ⟨hk.1.1.2, ⟨hk.1.2, ⟨hk.2, hk.1.1.1.1⟩⟩⟩⟩)).out, (rm_ HO_655001 (fun _ hk => ⟨hk.1.1.1.2, ⟨hk.1.1.2, ⟨hk.1.2, ⟨hk.2, hk.1.1.1.1⟩⟩⟩⟩)).out, (rm_ HO_655002 (fun _ hk => ⟨hk.1.2, ⟨hk.2, hk.1.1⟩⟩)).out, (rm_ HO_668000 (fun _ hk => ⟨hk.1.1.1.2, ⟨hk.1.1.2, ⟨hk.1.2, ⟨hk.2, hk.1.1.1.1⟩⟩⟩⟩)).out, (rm_ HO_668001 (fun _ hk => ⟨hk.1.1.1.2, ⟨hk.1.1.2, ⟨hk.1.2, ⟨hk.2, hk.1.1.1.1⟩⟩⟩⟩)).out, (rm_ HO_668002 (fun _ hk => ⟨hk.1.2, ⟨hk.2, hk.1.1⟩⟩)).out, (ba BK620.out), (ba BK621.out), (ba BK644.out), (ba BK654.out), (ba BK667.out), (ba BK710.out), GW710.out, GE710.out, NB620_710.out, NB710_620.out, NB621_710.out, NB710_621.out, NB644_710.out, NB710_644.out, NB654_710.out, NB710_654.out, NB667_710.out, NB710_667.out, (hB HB)⟩)
      skip
      refine goes_ Try.func31 (by kernel_rfl) rfl #[.agg #[.slice A0_0 l0_0.length c0_0, .slice A0_1 l0_1.length c0_1, .slice A0_2 l0_2.length c0_2]] (by rfl) rfl rfl tm_ ?_
      with_reducible refine (laws_toPair.calls kj86 _ _ l0_0 _ _ l0_1 _ _ l0_2 t689 t692 t695 _ ?side1 ?side2 ?side3 ?side4 ?side5 ?side6 A136.out).mono ?_
      (case side1 => exact ca (Kd.C_below HR0_0.out HB.out))
      (case side2 => exact HC0_0.out)
      (case side3 => exact ca (Kd.C_below HR0_1.out HB.out))
      (case side4 => exact HC0_1.out)
      (case side5 => exact ca (Kd.C_below HR0_2.out HB.out))
      (case side6 => exact HC0_2.out)
      rintro e w149 ⟨v690, v693, v696, rfl, ho0, ho1, ho2, hb⟩
      refine ⟨_, rfl, ?_⟩
      have HO691 := Aside0.mk (Kd.R_lower (Kd.R_new' (Kd.R_new' (Kd.R_new' (Kd.R_new' (Kd.R_new' (Kd.R_new' ho0 (rl_ HO_645000)) (rl_ HO_645001)) (rl_ HO_655000)) (rl_ HO_655001)) (rl_ HO_668000)) (rl_ HO_668001)) (below_size (hB HB)))
      have HO694 := Aside0.mk (Kd.R_lower (Kd.R_new' (Kd.R_new' (Kd.R_new' (Kd.R_new' (Kd.R_new' (Kd.R_new' ho1 (rl_ HO_645000)) (rl_ HO_645001)) (rl_ HO_655000)) (rl_ HO_655001)) (rl_ HO_668000)) (rl_ HO_668001)) (below_size (hB HB)))
      have HO697 := Aside0.mk (Kd.R_lower (Kd.R_new' (Kd.R_new' (Kd.R_new' ho2 (rl_ HO_645002)) (rl_ HO_655002)) (rl_ HO_668002)) (below_size (hB HB)))
      replace HO_645000 := rt2_ HO_645000 hb ho0 ho1
      replace HO_645001 := rt2_ HO_645001 hb ho0 ho1
      replace HO_645002 := re_ HO_645002 ho2 hb
      replace HO_655000 := rt2_ HO_655000 hb ho0 ho1
      replace HO_655001 := rt2_ HO_655001 hb ho0 ho1
      replace HO_655002 := re_ HO_655002 ho2 hb
      replace HO_668000 := rt2_ HO_668000 hb ho0 ho1
      replace HO_668001 := rt2_ HO_668001 hb ho0 ho1
      replace HO_668002 := re_ HO_668002 ho2 hb
      replace BK620 := bb_ BK620 hb
      replace BK621 := bb_ BK621 hb
      replace BK644 := bb_ BK644 hb
      replace BK654 := bb_ BK654 hb
      replace BK667 := bb_ BK667 hb
      replace HB := bst_ HB hb
      clear hb ho0 ho1 ho2
      refine hK.out _ _ ⟨bc_ BK620 0, bc_ BK620 1, bc_ BK620 2, bc_ BK621 0, bc_ BK621 1⟩ (fun hHeld => ?_)
      clear hK K
      refine nm_ 81 ?_
      refine two_ (i := 3) (j := 8) (Ni := some 83) (Nj := some 14) (bs 11 15) (bs 11 263) rfl rfl rfl rfl (two_of HT_.out (by kernel_rfl)) (by decide) (by decide) (fun K hK => ?_) (fun K hK => ?_)
      rotate_left
      ·skip
       refine box_step ?hg (N := 14) ?hd (cs := #[.slice none 0 0, .slice none 0 0, .slice none 0 0]) (t := 47) ?hr ?_; (case hd => rfl); (case hg => rfl); (case hr => first | (go_simp; done) | (go_simp; rfl))
       intro gb710 hg w150 hbox hb
       have BK710 := Aside0.mk (hbox)
       have GW710 := gw_ hg HB
       have GE710 := gw_ hg HB
       have NB620_710 := nl_ hg BK620
       have NB710_620 := ng_ hg BK620
       have NB621_710 := nl_ hg BK621
       have NB710_621 := ng_ hg BK621
       have NB644_710 := nl_ hg BK644
       have NB710_644 := ng_ hg BK644
       have NB654_710 := nl_ hg BK654
       have NB710_654 := ng_ hg BK654
       have NB667_710 := nl_ hg BK667
       have NB710_667 := ng_ hg BK667
       replace HO_645000 := rb_ HO_645000 hb
       replace HO_645001 := rb_ HO_645001 hb
       replace HO_645002 := rb_ HO_645002 hb
       replace HO_655000 := rb_ HO_655000 hb
       replace HO_655001 := rb_ HO_655001 hb
       replace HO_655002 := rb_ HO_655002 hb
       replace HO_668000 := rb_ HO_668000 hb
       replace HO_668001 := rb_ HO_668001 hb
       replace HO_668002 := rb_ HO_668002 hb
       replace HO691 := rb_ HO691 hb
       replace HO694 := rb_ HO694 hb
       replace HO697 := rb_ HO697 hb
       replace BK620 := bb_ BK620 hb
       replace BK621 := bb_ BK621 hb
       replace BK644 := bb_ BK644 hb
       replace BK654 := bb_ BK654 hb
       replace BK667 := bb_ BK667 hb
       replace HB := bst_ HB hb
       clear hb hbox hg
       refine hK.out _ _ ⟨bc_ BK620 0, bc_ BK620 1, bc_ BK620 2, bc_ BK621 0, bc_ BK621 1⟩ (fun hHeld => ?_)
       clear hK K
       refine nm_ 14 ?_
       refine one_ (i := 3) (N := some 83) (bs 11 271) rfl rfl (one_of HT_.out (by kernel_rfl)) (by decide) (fun K hK => ?_)
       refine goes_ Try.func32 (by kernel_rfl) rfl #[.agg #[.int .i64 a1_0, .int .i64 a1_1]] (by rfl) rfl rfl tm_ ?_
       with_reducible refine (laws_toPairStep.calls a1_0 a1_1 t698 t699 _ A137.out).mono ?_
       rintro e w151 ⟨rfl, hb⟩
       refine ⟨_, rfl, ?_⟩
       replace HO_645000 := rb_ HO_645000 hb
       replace HO_645001 := rb_ HO_645001 hb
       replace HO_645002 := rb_ HO_645002 hb
       replace HO_655000 := rb_ HO_655000 hb
       replace HO_655001 := rb_ HO_655001 hb
       replace HO_655002 := rb_ HO_655002 hb
       replace HO_668000 := rb_ HO_668000 hb
       replace HO_668001 := rb_ HO_668001 hb
       replace HO_668002 := rb_ HO_668002 hb
       replace HO691 := rb_ HO691 hb
       replace HO694 := rb_ HO694 hb
       replace HO697 := rb_ HO697 hb
       replace BK620 := bb_ BK620 hb
       replace BK621 := bb_ BK621 hb
       replace BK644 := bb_ BK644 hb
       replace BK654 := bb_ BK654 hb
       replace BK667 := bb_ BK667 hb
       replace BK710 := bb_ BK710 hb
       replace HB := bst_ HB hb
       clear hb
       obtain ⟨Ao152, co152, eo152⟩ := Kd.R_slice HO691.out
       (first | subst eo152 | (injection eo152 with f1_ f2_ f3_; have f4_ := f1_.symm; have f5_ := f3_.symm; clear f1_ f2_ f3_; subst f4_; subst f5_))
       obtain ⟨Ao153, co153, eo153⟩ := Kd.R_slice HO694.out
       (first | subst eo153 | (injection eo153 with f1_ f2_ f3_; have f4_ := f1_.symm; have f5_ := f3_.symm; clear f1_ f2_ f3_; subst f4_; subst f5_))
       obtain ⟨Ao154, co154, eo154⟩ := Kd.R_slice HO697.out
       (first | subst eo154 | (injection eo154 with f1_ f2_ f3_; have f4_ := f1_.symm; have f5_ := f3_.symm; clear f1_ f2_ f3_; subst f4_; subst f5_))
       refine hK.out _ _ ⟨bc_ BK620 0, bc_ BK620 1, bc_ BK620 2, bc_ BK621 0, bc_ BK621 1⟩ (fun hHeld => ?_)
       clear hK K
       refine nm_ 83 ?_
       refine one_ (i := 4) (N := some 84) (bs 11 287) rfl rfl (one_of HT_.out (by kernel_rfl)) (by decide) (fun K hK => ?_)
       refine goes_ Try.func33 (by kernel_rfl) rfl #[.agg #[.slice Ao152 t689.length co152, .slice Ao153 t692.length co153, .slice Ao154 t695.length co154], .agg #[.int .i64 t698, .int .i64 t699]] (by rfl) rfl rfl tm_ ?_
       with_reducible refine (impl_StepPair.calls kj86 _ _ t689 _ _ t692 _ _ t695 t698 t699 t700 t703 t706 t709 _ ?side1 ?side2 ?side3 ?side4 ?side5 ?side6 A138.out).mono ?_
       (case side1 => exact ca (Kd.R_reads' HO691.out).2.2)
       (case side2 => exact (Kd.R_reads' HO691.out).2.1)
       (case side3 => exact ca (Kd.R_reads' HO694.out).2.2)
       (case side4 => exact (Kd.R_reads' HO694.out).2.1)
       (case side5 => exact ca (Kd.R_reads' HO697.out).2.2)
       (case side6 => exact (Kd.R_reads' HO697.out).2.1)
       rintro e w155 ⟨v701, v704, v707, rfl, ho0, ho1, ho2, hb⟩
       refine ⟨_, rfl, ?_⟩
       have HO702 := Aside0.mk (Kd.R_lower (Kd.R_new' (Kd.R_new' (Kd.R_new' (Kd.R_new' (Kd.R_new' (Kd.R_new' (Kd.R_new' (Kd.R_new' ho0 (rl_ HO_645000)) (rl_ HO_645001)) (rl_ HO_655000)) (rl_ HO_655001)) (rl_ HO_668000)) (rl_ HO_668001)) (rl_ HO691)) (rl_ HO694)) (below_size (hB HB)))
       have HO705 := Aside0.mk (Kd.R_lower (Kd.R_new' (Kd.R_new' (Kd.R_new' (Kd.R_new' (Kd.R_new' (Kd.R_new' (Kd.R_new' (Kd.R_new' ho1 (rl_ HO_645000)) (rl_ HO_645001)) (rl_ HO_655000)) (rl_ HO_655001)) (rl_ HO_668000)) (rl_ HO_668001)) (rl_ HO691)) (rl_ HO694)) (below_size (hB HB)))
       have HO708 := Aside0.mk (Kd.R_lower (Kd.R_new' (Kd.R_new' (Kd.R_new' (Kd.R_new' ho2 (rl_ HO_645002)) (rl_ HO_655002)) (rl_ HO_668002)) (rl_ HO697)) (below_size (hB HB)))
       replace HO_645000 := rt2_ HO_645000 hb ho0 ho1
       replace HO_645001 := rt2_ HO_645001 hb ho0 ho1
       replace HO_645002 := re_ HO_645002 ho2 hb
       replace HO_655000 := rt2_ HO_655000 hb ho0 ho1
       replace HO_655001 := rt2_ HO_655001 hb ho0 ho1
       replace HO_655002 := re_ HO_655002 ho2 hb
       replace HO_668000 := rt2_ HO_668000 hb ho0 ho1
       replace HO_668001 := rt2_ HO_668001 hb ho0 ho1
       replace HO_668002 := re_ HO_668002 ho2 hb
       replace HO691 := rt2_ HO691 hb ho0 ho1
       replace HO694 := rt2_ HO694 hb ho0 ho1
       replace HO697 := re_ HO697 ho2 hb
       replace BK620 := bb_ BK620 hb
       replace BK621 := bb_ BK621 hb
       replace BK644 := bb_ BK644 hb
       replace BK654 := bb_ BK654 hb
       replace BK667 := bb_ BK667 hb
       replace BK710 := bb_ BK710 hb
       replace HB := bst_ HB hb
       clear hb ho0 ho1 ho2
       refine hK.out _ _ ⟨bc_ BK620 0, bc_ BK620 1, bc_ BK620 2, bc_ BK621 0, bc_ BK621 1⟩ (fun hHeld => ?_)
       clear hK K
       refine nm_ 84 ?_
       refine pu_ 5 79 (bs 11 319) HT_ ?_
       refine pu_ 6 85 (bs 11 383) HT_ ?_
       refine pu_ 7 86 (bs 11 511) HT_ ?_
       exact norm_ (by simp only [putAll, Act.put, List.setIfInBounds_toArray, List.set_cons_zero, List.set_cons_succ]) (hCont (.slice Ao152 t689.length co152, .slice Ao153 t692.length co153, .slice Ao154 t695.length co154, v701, v704, v707, gb710) _ ⟨hHeld, (rm_ HO691 (fun _ hk => ⟨hk.1.1.1.1.1.1.1.1, ⟨hk.1.2, ⟨hk.2, ⟨hk.1.1.1.1.1.1.1.2, ⟨hk.1.1.1.1.1.1.2, ⟨hk.1.1.1.1.1.2, ⟨hk.1.1.1.1.2, ⟨hk.1.1.1.2, hk.1.1.2⟩⟩⟩⟩⟩⟩⟩⟩)).out, (rm_ HO694 (fun _ hk => ⟨hk.1.1.1.1.1.1.1.1, ⟨hk.1.2, ⟨hk.2, ⟨hk.1.1.1.1.1.1.1.2, ⟨hk.1.1.1.1.1.1.2, ⟨hk.1.1.1.1.1.2, ⟨hk.1.1.1.1.2, ⟨hk.1.1.1.2, hk.1.1.2⟩⟩⟩⟩⟩⟩⟩⟩)).out, (rm_ HO697 (fun _ hk => ⟨hk.2, ⟨hk.1.1.1.2, ⟨hk.1.1.2, hk.1.2⟩⟩⟩)).out, (rm_ HO702 (fun _ hk => ⟨hk.1.2, ⟨hk.2, ⟨hk.1.1.1.1.1.1.1.1, ⟨hk.1.1.1.1.1.1.1.2, ⟨hk.1.1.1.1.1.1.2, ⟨hk.1.1.1.1.1.2, ⟨hk.1.1.1.1.2, ⟨hk.1.1.1.2, hk.1.1.2⟩⟩⟩⟩⟩⟩⟩⟩)).out, (rm_ HO705 (fun _ hk => ⟨hk.1.2, ⟨hk.2, ⟨hk.1.1.1.1.1.1.1.1, ⟨hk.1.1.1.1.1.1.1.2, ⟨hk.1.1.1.1.1.1.2, ⟨hk.1.1.1.1.1.2, ⟨hk.1.1.1.1.2, ⟨hk.1.1.1.2, hk.1.1.2⟩⟩⟩⟩⟩⟩⟩⟩)).out, (rm_ HO708 (fun _ hk => ⟨hk.2, ⟨hk.1.1.1.2, ⟨hk.1.1.2, hk.1.2⟩⟩⟩)).out, (rm_ HO_645000 (fun _ hk => ⟨hk.1.1.1.2, ⟨hk.1.1.2, ⟨hk.1.2, ⟨hk.2, hk.1.1.1.1⟩⟩⟩⟩)).out, (rm_ HO_645001 (fun _ hk => ⟨hk.1.1.1.2, ⟨hk.1.1.2, ⟨hk.1.2, ⟨hk.2, hk.1.1.1.1⟩⟩⟩⟩)).out, (rm_ HO_645002 (fun _ hk => ⟨hk.1.2, ⟨hk.2, hk.1.1⟩⟩)).out, (rm_ HO_655000 (fun _ hk => ⟨hk.1.1.1.2, ⟨hk.1.1.2, ⟨hk.1.2, ⟨hk.2, hk.1.1.1.1⟩⟩⟩⟩)).out, (rm_ HO_655001 (fun _ hk => ⟨hk.1.1.1.2, ⟨hk.1.1.2, ⟨hk.1.2, ⟨hk.2, hk.1.1.1.1⟩⟩⟩⟩)).out, (rm_ HO_655002 (fun _ hk => ⟨hk.1.2, ⟨hk.2, hk.1.1⟩⟩)).out, (rm_ HO_668000 (fun _ hk => ⟨hk.1.1.1.2, ⟨hk.1.1.2, ⟨hk.1.2, ⟨hk.2, hk.1.1.1.1⟩⟩⟩⟩)).out, (rm_ HO_668001 (fun _ hk => ⟨hk.1.1.1.2, ⟨hk.1.1.2, ⟨hk.1.2, ⟨hk.2, hk.1.1.1.1⟩⟩⟩⟩)).out, (rm_ HO_668002 (fun _ hk => ⟨hk.1.2, ⟨hk.2, hk.1.1⟩⟩)).out, (ba BK620.out), (ba BK621.out), (ba BK644.out), (ba BK654.out), (ba BK667.out), (ba BK710.out), GW710.out, GE710.out, NB620_710.out, NB710_620.out, NB621_710.out, NB710_621.out, NB644_710.out, NB710_644.out, NB654_710.out, NB710_654.out, NB667_710.out, NB710_667.out, (hB HB)⟩)
      skip
      refine goes_ Try.func32 (by kernel_rfl) rfl #[.agg #[.int .i64 a1_0, .int .i64 a1_1]] (by rfl) rfl rfl tm_ ?_
      with_reducible refine (laws_toPairStep.calls a1_0 a1_1 t698 t699 _ A137.out).mono ?_
      rintro e w150 ⟨rfl, hb⟩
      refine ⟨_, rfl, ?_⟩
      replace HO_645000 := rb_ HO_645000 hb
      replace HO_645001 := rb_ HO_645001 hb
      replace HO_645002 := rb_ HO_645002 hb
      replace HO_655000 := rb_ HO_655000 hb
      replace HO_655001 := rb_ HO_655001 hb
      replace HO_655002 := rb_ HO_655002 hb
      replace HO_668000 := rb_ HO_668000 hb
      replace HO_668001 := rb_ HO_668001 hb
      replace HO_668002 := rb_ HO_668002 hb
      replace HO691 := rb_ HO691 hb
      replace HO694 := rb_ HO694 hb
      replace HO697 := rb_ HO697 hb
      replace BK620 := bb_ BK620 hb
      replace BK621 := bb_ BK621 hb
      replace BK644 := bb_ BK644 hb
      replace BK654 := bb_ BK654 hb
      replace BK667 := bb_ BK667 hb
      replace HB := bst_ HB hb
      clear hb
      obtain ⟨Ao151, co151, eo151⟩ := Kd.R_slice HO691.out
      (first | subst eo151 | (injection eo151 with f1_ f2_ f3_; have f4_ := f1_.symm; have f5_ := f3_.symm; clear f1_ f2_ f3_; subst f4_; subst f5_))
      obtain ⟨Ao152, co152, eo152⟩ := Kd.R_slice HO694.out
      (first | subst eo152 | (injection eo152 with f1_ f2_ f3_; have f4_ := f1_.symm; have f5_ := f3_.symm; clear f1_ f2_ f3_; subst f4_; subst f5_))
      obtain ⟨Ao153, co153, eo153⟩ := Kd.R_slice HO697.out
      (first | subst eo153 | (injection eo153 with f1_ f2_ f3_; have f4_ := f1_.symm; have f5_ := f3_.symm; clear f1_ f2_ f3_; subst f4_; subst f5_))
      refine hK.out _ _ ⟨bc_ BK620 0, bc_ BK620 1, bc_ BK620 2, bc_ BK621 0, bc_ BK621 1⟩ (fun hHeld => ?_)
      clear hK K
      refine nm_ 83 ?_
      refine two_ (i := 4) (j := 8) (Ni := some 84) (Nj := some 14) (bs 11 31) (bs 11 271) rfl rfl rfl rfl (two_of HT_.out (by kernel_rfl)) (by decide) (by decide) (fun K hK => ?_) (fun K hK => ?_)
      ·skip
       refine goes_ Try.func33 (by kernel_rfl) rfl #[.agg #[.slice Ao151 t689.length co151, .slice Ao152 t692.length co152, .slice Ao153 t695.length co153], .agg #[.int .i64 t698, .int .i64 t699]] (by rfl) rfl rfl tm_ ?_
       with_reducible refine (impl_StepPair.calls kj86 _ _ t689 _ _ t692 _ _ t695 t698 t699 t700 t703 t706 t709 _ ?side1 ?side2 ?side3 ?side4 ?side5 ?side6 A138.out).mono ?_
       (case side1 => exact ca (Kd.R_reads' HO691.out).2.2)
       (case side2 => exact (Kd.R_reads' HO691.out).2.1)
       (case side3 => exact ca (Kd.R_reads' HO694.out).2.2)
       (case side4 => exact (Kd.R_reads' HO694.out).2.1)
       (case side5 => exact ca (Kd.R_reads' HO697.out).2.2)
       (case side6 => exact (Kd.R_reads' HO697.out).2.1)
       rintro e w154 ⟨v701, v704, v707, rfl, ho0, ho1, ho2, hb⟩
       refine ⟨_, rfl, ?_⟩
       have HO702 := Aside0.mk (Kd.R_lower (Kd.R_new' (Kd.R_new' (Kd.R_new' (Kd.R_new' (Kd.R_new' (Kd.R_new' (Kd.R_new' (Kd.R_new' ho0 (rl_ HO_645000)) (rl_ HO_645001)) (rl_ HO_655000)) (rl_ HO_655001)) (rl_ HO_668000)) (rl_ HO_668001)) (rl_ HO691)) (rl_ HO694)) (below_size (hB HB)))
       have HO705 := Aside0.mk (Kd.R_lower (Kd.R_new' (Kd.R_new' (Kd.R_new' (Kd.R_new' (Kd.R_new' (Kd.R_new' (Kd.R_new' (Kd.R_new' ho1 (rl_ HO_645000)) (rl_ HO_645001)) (rl_ HO_655000)) (rl_ HO_655001)) (rl_ HO_668000)) (rl_ HO_668001)) (rl_ HO691)) (rl_ HO694)) (below_size (hB HB)))
       have HO708 := Aside0.mk (Kd.R_lower (Kd.R_new' (Kd.R_new' (Kd.R_new' (Kd.R_new' ho2 (rl_ HO_645002)) (rl_ HO_655002)) (rl_ HO_668002)) (rl_ HO697)) (below_size (hB HB)))
       replace HO_645000 := rt2_ HO_645000 hb ho0 ho1
       replace HO_645001 := rt2_ HO_645001 hb ho0 ho1
       replace HO_645002 := re_ HO_645002 ho2 hb
       replace HO_655000 := rt2_ HO_655000 hb ho0 ho1
       replace HO_655001 := rt2_ HO_655001 hb ho0 ho1
       replace HO_655002 := re_ HO_655002 ho2 hb
       replace HO_668000 := rt2_ HO_668000 hb ho0 ho1
       replace HO_668001 := rt2_ HO_668001 hb ho0 ho1
       replace HO_668002 := re_ HO_668002 ho2 hb
       replace HO691 := rt2_ HO691 hb ho0 ho1
       replace HO694 := rt2_ HO694 hb ho0 ho1
       replace HO697 := re_ HO697 ho2 hb
       replace BK620 := bb_ BK620 hb
       replace BK621 := bb_ BK621 hb
       replace BK644 := bb_ BK644 hb
       replace BK654 := bb_ BK654 hb
       replace BK667 := bb_ BK667 hb
       replace HB := bst_ HB hb
       clear hb ho0 ho1 ho2
       refine hK.out _ _ ⟨bc_ BK620 0, bc_ BK620 1, bc_ BK620 2, bc_ BK621 0, bc_ BK621 1⟩ (fun hHeld => ?_)
       clear hK K
       refine nm_ 84 ?_
       refine pu_ 5 79 (bs 11 63) HT_ ?_
       refine pu_ 6 85 (bs 11 127) HT_ ?_
       refine pu_ 7 86 (bs 11 255) HT_ ?_
       refine one_ (i := 8) (N := some 14) (bs 11 511) rfl rfl (one_of HT_.out (by kernel_rfl)) (by decide) (fun K hK => ?_)
       refine box_step ?hg (N := 14) ?hd (cs := #[.slice none 0 0, .slice none 0 0, .slice none 0 0]) (t := 47) ?hr ?_; (case hd => rfl); (case hg => rfl); (case hr => first | (go_simp; done) | (go_simp; rfl))
       intro gb710 hg w155 hbox hb
       have BK710 := Aside0.mk (hbox)
       have GW710 := gw_ hg HB
       have GE710 := gw_ hg HB
       have NB620_710 := nl_ hg BK620
       have NB710_620 := ng_ hg BK620
       have NB621_710 := nl_ hg BK621
       have NB710_621 := ng_ hg BK621
       have NB644_710 := nl_ hg BK644
       have NB710_644 := ng_ hg BK644
       have NB654_710 := nl_ hg BK654
       have NB710_654 := ng_ hg BK654
       have NB667_710 := nl_ hg BK667
       have NB710_667 := ng_ hg BK667
       replace HO_645000 := rb_ HO_645000 hb
       replace HO_645001 := rb_ HO_645001 hb
       replace HO_645002 := rb_ HO_645002 hb
       replace HO_655000 := rb_ HO_655000 hb
       replace HO_655001 := rb_ HO_655001 hb
       replace HO_655002 := rb_ HO_655002 hb
       replace HO_668000 := rb_ HO_668000 hb
       replace HO_668001 := rb_ HO_668001 hb
       replace HO_668002 := rb_ HO_668002 hb
       replace HO691 := rb_ HO691 hb
       replace HO694 := rb_ HO694 hb
       replace HO697 := rb_ HO697 hb
       replace HO702 := rb_ HO702 hb
       replace HO705 := rb_ HO705 hb
       replace HO708 := rb_ HO708 hb
       replace BK620 := bb_ BK620 hb
       replace BK621 := bb_ BK621 hb
       replace BK644 := bb_ BK644 hb
       replace BK654 := bb_ BK654 hb
       replace BK667 := bb_ BK667 hb
       replace HB := bst_ HB hb
       clear hb hbox hg
       refine hK.out _ _ ⟨bc_ BK620 0, bc_ BK620 1, bc_ BK620 2, bc_ BK621 0, bc_ BK621 1⟩ (fun hHeld => ?_)
       clear hK K
       refine nm_ 14 ?_
       exact norm_ (by simp only [putAll, Act.put, List.setIfInBounds_toArray, List.set_cons_zero, List.set_cons_succ]) (hCont (.slice Ao151 t689.length co151, .slice Ao152 t692.length co152, .slice Ao153 t695.length co153, v701, v704, v707, gb710) _ ⟨hHeld, (rm_ HO691 (fun _ hk => ⟨hk.1.1.1.1.1.1.1.1, ⟨hk.1.2, ⟨hk.2, ⟨hk.1.1.1.1.1.1.1.2, ⟨hk.1.1.1.1.1.1.2, ⟨hk.1.1.1.1.1.2, ⟨hk.1.1.1.1.2, ⟨hk.1.1.1.2, hk.1.1.2⟩⟩⟩⟩⟩⟩⟩⟩)).out, (rm_ HO694 (fun _ hk => ⟨hk.1.1.1.1.1.1.1.1, ⟨hk.1.2, ⟨hk.2, ⟨hk.1.1.1.1.1.1.1.2, ⟨hk.1.1.1.1.1.1.2, ⟨hk.1.1.1.1.1.2, ⟨hk.1.1.1.1.2, ⟨hk.1.1.1.2, hk.1.1.2⟩⟩⟩⟩⟩⟩⟩⟩)).out, (rm_ HO697 (fun _ hk => ⟨hk.2, ⟨hk.1.1.1.2, ⟨hk.1.1.2, hk.1.2⟩⟩⟩)).out, (rm_ HO702 (fun _ hk => ⟨hk.1.2, ⟨hk.2, ⟨hk.1.1.1.1.1.1.1.1, ⟨hk.1.1.1.1.1.1.1.2, ⟨hk.1.1.1.1.1.1.2, ⟨hk.1.1.1.1.1.2, ⟨hk.1.1.1.1.2, ⟨hk.1.1.1.2, hk.1.1.2⟩⟩⟩⟩⟩⟩⟩⟩)).out, (rm_ HO705 (fun _ hk => ⟨hk.1.2, ⟨hk.2, ⟨hk.1.1.1.1.1.1.1.1, ⟨hk.1.1.1.1.1.1.1.2, ⟨hk.1.1.1.1.1.1.2, ⟨hk.1.1.1.1.1.2, ⟨hk.1.1.1.1.2, ⟨hk.1.1.1.2, hk.1.1.2⟩⟩⟩⟩⟩⟩⟩⟩)).out, (rm_ HO708 (fun _ hk => ⟨hk.2, ⟨hk.1.1.1.2, ⟨hk.1.1.2, hk.1.2⟩⟩⟩)).out, (rm_ HO_645000 (fun _ hk => ⟨hk.1.1.1.2, ⟨hk.1.1.2, ⟨hk.1.2, ⟨hk.2, hk.1.1.1.1⟩⟩⟩⟩)).out, (rm_ HO_645001 (fun _ hk => ⟨hk.1.1.1.2, ⟨hk.1.1.2, ⟨hk.1.2, ⟨hk.2, hk.1.1.1.1⟩⟩⟩⟩)).out, (rm_ HO_645002 (fun _ hk => ⟨hk.1.2, ⟨hk.2, hk.1.1⟩⟩)).out, (rm_ HO_655000 (fun _ hk => ⟨hk.1.1.1.2, ⟨hk.1.1.2, ⟨hk.1.2, ⟨hk.2, hk.1.1.1.1⟩⟩⟩⟩)).out, (rm_ HO_655001 (fun _ hk => ⟨hk.1.1.1.2, ⟨hk.1.1.2, ⟨hk.1.2, ⟨hk.2, hk.1.1.1.1⟩⟩⟩⟩)).out, (rm_ HO_655002 (fun _ hk => ⟨hk.1.2, ⟨hk.2, hk.1.1⟩⟩)).out, (rm_ HO_668000 (fun _ hk => ⟨hk.1.1.1.2, ⟨hk.1.1.2, ⟨hk.1.2, ⟨hk.2, hk.1.1.1.1⟩⟩⟩⟩)).out, (rm_ HO_668001 (fun _ hk => ⟨hk.1.1.1.2, ⟨hk.1.1.2, ⟨hk.1.2, ⟨hk.2, hk.1.1.1.1⟩⟩⟩⟩)).out, (rm_ HO_668002 (fun _ hk => ⟨hk.1.2, ⟨hk.2, hk.1.1⟩⟩)).out, (ba BK620.out), (ba BK621.out), (ba BK644.out), (ba BK654.out), (ba BK667.out), (ba BK710.out), GW710.out, GE710.out, NB620_710.out, NB710_620.out, NB621_710.out, NB710_621.out, NB644_710.out, NB710_644.out, NB654_710.out, NB710_654.out, NB667_710.out, NB710_667.out, (hB HB)⟩)
      skip
      refine box_step ?hg (N := 14) ?hd (cs := #[.slice none 0 0, .slice none 0 0, .slice none 0 0]) (t := 47) ?hr ?_; (case hd => rfl); (case hg => rfl); (case hr => first | (go_simp; done) | (go_simp; rfl))
      intro gb710 hg w151 hbox hb
      have BK710 := Aside0.mk (hbox)
      have GW710 := gw_ hg HB
      have GE710 := gw_ hg HB
      have NB620_710 := nl_ hg BK620
      have NB710_620 := ng_ hg BK620
      have NB621_710 := nl_ hg BK621
      have NB710_621 := ng_ hg BK621
      have NB644_710 := nl_ hg BK644
      have NB710_644 := ng_ hg BK644
      have NB654_710 := nl_ hg BK654
      have NB710_654 := ng_ hg BK654
      have NB667_710 := nl_ hg BK667
      have NB710_667 := ng_ hg BK667
      replace HO_645000 := rb_ HO_645000 hb
      replace HO_645001 := rb_ HO_645001 hb
      replace HO_645002 := rb_ HO_645002 hb
      replace HO_655000 := rb_ HO_655000 hb
      replace HO_655001 := rb_ HO_655001 hb
      replace HO_655002 := rb_ HO_655002 hb
      replace HO_668000 := rb_ HO_668000 hb
      replace HO_668001 := rb_ HO_668001 hb
      replace HO_668002 := rb_ HO_668002 hb
      replace HO691 := rb_ HO691 hb
      replace HO694 := rb_ HO694 hb
      replace HO697 := rb_ HO697 hb
      replace BK620 := bb_ BK620 hb
      replace BK621 := bb_ BK621 hb
      replace BK644 := bb_ BK644 hb
      replace BK654 := bb_ BK654 hb
      replace BK667 := bb_ BK667 hb
      replace HB := bst_ HB hb
      clear hb hbox hg
      obtain ⟨Ao152, co152, eo152⟩ := Kd.R_slice HO691.out
      (first | subst eo152 | (injection eo152 with f1_ f2_ f3_; have f4_ := f1_.symm; have f5_ := f3_.symm; clear f1_ f2_ f3_; subst f4_; subst f5_))
      obtain ⟨Ao153, co153, eo153⟩ := Kd.R_slice HO694.out
      (first | subst eo153 | (injection eo153 with f1_ f2_ f3_; have f4_ := f1_.symm; have f5_ := f3_.symm; clear f1_ f2_ f3_; subst f4_; subst f5_))
      obtain ⟨Ao154, co154, eo154⟩ := Kd.R_slice HO697.out
      (first | subst eo154 | (injection eo154 with f1_ f2_ f3_; have f4_ := f1_.symm; have f5_ := f3_.symm; clear f1_ f2_ f3_; subst f4_; subst f5_))
      refine hK.out _ _ ⟨bc_ BK620 0, bc_ BK620 1, bc_ BK620 2, bc_ BK621 0, bc_ BK621 1⟩ (fun hHeld => ?_)
      clear hK K
      refine nm_ 14 ?_
      refine one_ (i := 4) (N := some 84) (bs 11 287) rfl rfl (one_of HT_.out (by kernel_rfl)) (by decide) (fun K hK => ?_)
      refine goes_ Try.func33 (by kernel_rfl) rfl #[.agg #[.slice Ao152 t689.length co152, .slice Ao153 t692.length co153, .slice Ao154 t695.length co154], .agg #[.int .i64 t698, .int .i64 t699]] (by rfl) rfl rfl tm_ ?_
      with_reducible refine (impl_StepPair.calls kj86 _ _ t689 _ _ t692 _ _ t695 t698 t699 t700 t703 t706 t709 _ ?side1 ?side2 ?side3 ?side4 ?side5 ?side6 A138.out).mono ?_
      (case side1 => exact ca (Kd.R_reads' HO691.out).2.2)
      (case side2 => exact (Kd.R_reads' HO691.out).2.1)
      (case side3 => exact ca (Kd.R_reads' HO694.out).2.2)
      (case side4 => exact (Kd.R_reads' HO694.out).2.1)
      (case side5 => exact ca (Kd.R_reads' HO697.out).2.2)
      (case side6 => exact (Kd.R_reads' HO697.out).2.1)
      rintro e w155 ⟨v701, v704, v707, rfl, ho0, ho1, ho2, hb⟩
      refine ⟨_, rfl, ?_⟩
      have HO702 := Aside0.mk (Kd.R_lower (Kd.R_new' (Kd.R_new' (Kd.R_new' (Kd.R_new' (Kd.R_new' (Kd.R_new' (Kd.R_new' (Kd.R_new' ho0 (rl_ HO_645000)) (rl_ HO_645001)) (rl_ HO_655000)) (rl_ HO_655001)) (rl_ HO_668000)) (rl_ HO_668001)) (rl_ HO691)) (rl_ HO694)) (below_size (hB HB)))
      have HO705 := Aside0.mk (Kd.R_lower (Kd.R_new' (Kd.R_new' (Kd.R_new' (Kd.R_new' (Kd.R_new' (Kd.R_new' (Kd.R_new' (Kd.R_new' ho1 (rl_ HO_645000)) (rl_ HO_645001)) (rl_ HO_655000)) (rl_ HO_655001)) (rl_ HO_668000)) (rl_ HO_668001)) (rl_ HO691)) (rl_ HO694)) (below_size (hB HB)))
      have HO708 := Aside0.mk (Kd.R_lower (Kd.R_new' (Kd.R_new' (Kd.R_new' (Kd.R_new' ho2 (rl_ HO_645002)) (rl_ HO_655002)) (rl_ HO_668002)) (rl_ HO697)) (below_size (hB HB)))
      replace HO_645000 := rt2_ HO_645000 hb ho0 ho1
      replace HO_645001 := rt2_ HO_645001 hb ho0 ho1
      replace HO_645002 := re_ HO_645002 ho2 hb
      replace HO_655000 := rt2_ HO_655000 hb ho0 ho1
      replace HO_655001 := rt2_ HO_655001 hb ho0 ho1
      replace HO_655002 := re_ HO_655002 ho2 hb
      replace HO_668000 := rt2_ HO_668000 hb ho0 ho1
      replace HO_668001 := rt2_ HO_668001 hb ho0 ho1
      replace HO_668002 := re_ HO_668002 ho2 hb
      replace HO691 := rt2_ HO691 hb ho0 ho1
      replace HO694 := rt2_ HO694 hb ho0 ho1
      replace HO697 := re_ HO697 ho2 hb
      replace BK620 := bb_ BK620 hb
      replace BK621 := bb_ BK621 hb
      replace BK644 := bb_ BK644 hb
      replace BK654 := bb_ BK654 hb
      replace BK667 := bb_ BK667 hb
      replace BK710 := bb_ BK710 hb
      replace HB := bst_ HB hb
      clear hb ho0 ho1 ho2
      refine hK.out _ _ ⟨bc_ BK620 0, bc_ BK620 1, bc_ BK620 2, bc_ BK621 0, bc_ BK621 1⟩ (fun hHeld => ?_)
      clear hK K
      refine nm_ 84 ?_
      refine pu_ 5 79 (bs 11 319) HT_ ?_
      refine pu_ 6 85 (bs 11 383) HT_ ?_
      refine pu_ 7 86 (bs 11 511) HT_ ?_
      exact norm_ (by simp only [putAll, Act.put, List.setIfInBounds_toArray, List.set_cons_zero, List.set_cons_succ]) (hCont (.slice Ao152 t689.length co152, .slice Ao153 t692.length co153, .slice Ao154 t695.length co154, v701, v704, v707, gb710) _ ⟨hHeld, (rm_ HO691 (fun _ hk => ⟨hk.1.1.1.1.1.1.1.1, ⟨hk.1.2, ⟨hk.2, ⟨hk.1.1.1.1.1.1.1.2, ⟨hk.1.1.1.1.1.1.2, ⟨hk.1.1.1.1.1.2, ⟨hk.1.1.1.1.2, ⟨hk.1.1.1.2, hk.1.1.2⟩⟩⟩⟩⟩⟩⟩⟩)).out, (rm_ HO694 (fun _ hk => ⟨hk.1.1.1.1.1.1.1.1, ⟨hk.1.2, ⟨hk.2, ⟨hk.1.1.1.1.1.1.1.2, ⟨hk.1.1.1.1.1.1.2, ⟨hk.1.1.1.1.1.2, ⟨hk.1.1.1.1.2, ⟨hk.1.1.1.2, hk.1.1.2⟩⟩⟩⟩⟩⟩⟩⟩)).out, (rm_ HO697 (fun _ hk => ⟨hk.2, ⟨hk.1.1.1.2, ⟨hk.1.1.2, hk.1.2⟩⟩⟩)).out, (rm_ HO702 (fun _ hk => ⟨hk.1.2, ⟨hk.2, ⟨hk.1.1.1.1.1.1.1.1, ⟨hk.1.1.1.1.1.1.1.2, ⟨hk.1.1.1.1.1.1.2, ⟨hk.1.1.1.1.1.2, ⟨hk.1.1.1.1.2, ⟨hk.1.1.1.2, hk.1.1.2⟩⟩⟩⟩⟩⟩⟩⟩)).out, (rm_ HO705 (fun _ hk => ⟨hk.1.2, ⟨hk.2, ⟨hk.1.1.1.1.1.1.1.1, ⟨hk.1.1.1.1.1.1.1.2, ⟨hk.1.1.1.1.1.1.2, ⟨hk.1.1.1.1.1.2, ⟨hk.1.1.1.1.2, ⟨hk.1.1.1.2, hk.1.1.2⟩⟩⟩⟩⟩⟩⟩⟩)).out, (rm_ HO708 (fun _ hk => ⟨hk.2, ⟨hk.1.1.1.2, ⟨hk.1.1.2, hk.1.2⟩⟩⟩)).out, (rm_ HO_645000 (fun _ hk => ⟨hk.1.1.1.2, ⟨hk.1.1.2, ⟨hk.1.2, ⟨hk.2, hk.1.1.1.1⟩⟩⟩⟩)).out, (rm_ HO_645001 (fun _ hk => ⟨hk.1.1.1.2, ⟨hk.1.1.2, ⟨hk.1.2, ⟨hk.2, hk.1.1.1.1⟩⟩⟩⟩)).out, (rm_ HO_645002 (fun _ hk => ⟨hk.1.2, ⟨hk.2, hk.1.1⟩⟩)).out, (rm_ HO_655000 (fun _ hk => ⟨hk.1.1.1.2, ⟨hk.1.1.2, ⟨hk.1.2, ⟨hk.2, hk.1.1.1.1⟩⟩⟩⟩)).out, (rm_ HO_655001 (fun _ hk => ⟨hk.1.1.1.2, ⟨hk.1.1.2, ⟨hk.1.2, ⟨hk.2, hk.1.1.1.1⟩⟩⟩⟩)).out, (rm_ HO_655002 (fun _ hk => ⟨hk.1.2, ⟨hk.2, hk.1.1⟩⟩)).out, (rm_ HO_668000 (fun _ hk => ⟨hk.1.1.1.2, ⟨hk.1.1.2, ⟨hk.1.2, ⟨hk.2, hk.1.1.1.1⟩⟩⟩⟩)).out, (rm_ HO_668001 (fun _ hk => ⟨hk.1.1.1.2, ⟨hk.1.1.2, ⟨hk.1.2, ⟨hk.2, hk.1.1.1.1⟩⟩⟩⟩)).out, (rm_ HO_668002 (fun _ hk => ⟨hk.1.2, ⟨hk.2, hk.1.1⟩⟩)).out, (ba BK620.out), (ba BK621.out), (ba BK644.out), (ba BK654.out), (ba BK667.out), (ba BK710.out), GW710.out, GE710.out, NB620_710.out, NB710_620.out, NB621_710.out, NB710_621.out, NB644_710.out, NB710_644.out, NB654_710.out, NB710_654.out, NB667_710.out, NB710_667.out, (hB HB)⟩)
     rintro ⟨v690, v693, v696, v701, v704, v707, gb710⟩ w156 ⟨hS_, h0_, h1_, h2_, h3_, h4_, h5_, h6_, h7_, h8_, h9_, h10_, h11_, h12_, h13_, h14_, h15_, h16_, h17_, h18_, h19_, h20_, h21_, h22_, h23_, h24_, h25_, h26_, h27_, h28_, h29_, h30_, h31_, h32_, h33_⟩
     try dsimp only at h0_ h1_ h2_ h3_ h4_ h5_ h6_ h7_ h8_ h9_ h10_ h11_ h12_ h13_ h14_ h15_ h16_ h17_ h18_ h19_ h20_ h21_ h22_ h23_ h24_ h25_ h26_ h27_ h28_ h29_ h30_ h31_ h32_ h33_
     have HO691 := Aside0.mk h0_
     have HO694 := Aside0.mk h1_
     have HO697 := Aside0.mk h2_
     have HO702 := Aside0.mk h3_
     have HO705 := Aside0.mk h4_
     have HO708 := Aside0.mk h5_
     have BK710 := Aside0.mk h20_
     have GW710 := Aside0.mk h21_
     have GE710 := Aside0.mk h22_
     have NB620_710 := Aside0.mk h23_
     have NB710_620 := Aside0.mk h24_
     have NB621_710 := Aside0.mk h25_
     have NB710_621 := Aside0.mk h26_
     have NB644_710 := Aside0.mk h27_
     have NB710_644 := Aside0.mk h28_
     have NB654_710 := Aside0.mk h29_
     have NB710_654 := Aside0.mk h30_
     have NB667_710 := Aside0.mk h31_
     have NB710_667 := Aside0.mk h32_
     replace HO_645000 := Aside0.mk h6_
     replace HO_645001 := Aside0.mk h7_
     replace HO_645002 := Aside0.mk h8_
     replace HO_655000 := Aside0.mk h9_
     replace HO_655001 := Aside0.mk h10_
     replace HO_655002 := Aside0.mk h11_
     replace HO_668000 := Aside0.mk h12_
     replace HO_668001 := Aside0.mk h13_
     replace HO_668002 := Aside0.mk h14_
     replace BK620 := Aside0.mk h15_
     replace BK621 := Aside0.mk h16_
     replace BK644 := Aside0.mk h17_
     replace BK654 := Aside0.mk h18_
     replace BK667 := Aside0.mk h19_
     replace HB := Aside0.mk h33_
     clear h0_ h1_ h2_ h3_ h4_ h5_ h6_ h7_ h8_ h9_ h10_ h11_ h12_ h13_ h14_ h15_ h16_ h17_ h18_ h19_ h20_ h21_ h22_ h23_ h24_ h25_ h26_ h27_ h28_ h29_ h30_ h31_ h32_ h33_
     have hHeld : w156.cell? ⟨gb620, 0, none⟩ = some (.slice A0_0 l0_0.length c0_0) ∧ w156.cell? ⟨gb620, 1, none⟩ = some (.slice A0_1 l0_1.length c0_1) ∧ w156.cell? ⟨gb620, 2, none⟩ = some (.slice A0_2 l0_2.length c0_2) ∧ w156.cell? ⟨gb621, 0, none⟩ = some (.int .i64 a1_0) ∧ w156.cell? ⟨gb621, 1, none⟩ = some (.int .i64 a1_1) := hS_
     obtain ⟨Ao157, co157, eo157⟩ := Kd.R_slice HO702.out
     (first | subst eo157 | (injection eo157 with f1_ f2_ f3_; have f4_ := f1_.symm; have f5_ := f3_.symm; clear f1_ f2_ f3_; subst f4_; subst f5_))
     obtain ⟨Ao159, co159, eo159⟩ := Kd.R_slice HO705.out
     (first | subst eo159 | (injection eo159 with f1_ f2_ f3_; have f4_ := f1_.symm; have f5_ := f3_.symm; clear f1_ f2_ f3_; subst f4_; subst f5_))
     obtain ⟨Ao161, co161, eo161⟩ := Kd.R_slice HO708.out
     (first | subst eo161 | (injection eo161 with f1_ f2_ f3_; have f4_ := f1_.symm; have f5_ := f3_.symm; clear f1_ f2_ f3_; subst f4_; subst f5_))
     refine norm_ (a' := ?_) ?_ ?_
     rotate_left
     ·simp only [putAll, Act.put, List.setIfInBounds_toArray, List.set_cons_zero, List.set_cons_succ]
      rfl
     refine one_ (i := 9) (N := none) (bs 11 1023) rfl rfl (one_of HT_.out (by kernel_rfl)) (by decide) (fun K hK => ?_)
     have hs158 : w156.cell? ⟨gb710, 0, none⟩ = some (.slice none 0 0) := bc_ BK710 0
     have hfs158 := blk_frozen BK710.out 0
     have hns158_0 := NB620_710.out
     have hns158_1 := NB621_710.out
     have hns158_2 := NB644_710.out
     have hns158_3 := NB654_710.out
     have hns158_4 := NB667_710.out
     have hms158_0 := NB710_620.out
     have hms158_1 := NB710_621.out
     have hms158_2 := NB710_644.out
     have hms158_3 := NB710_654.out
     have hms158_4 := NB710_667.out
     have hs160 : w156.cell? ⟨gb710, 1, none⟩ = some (.slice none 0 0) := bc_ BK710 1
     have hfs160 := blk_frozen BK710.out 1
     have hns160_0 := NB620_710.out
     have hns160_1 := NB621_710.out
     have hns160_2 := NB644_710.out
     have hns160_3 := NB654_710.out
     have hns160_4 := NB667_710.out
     have hms160_0 := NB710_620.out
     have hms160_1 := NB710_621.out
     have hms160_2 := NB710_644.out
     have hms160_3 := NB710_654.out
     have hms160_4 := NB710_667.out
     have hs162 : w156.cell? ⟨gb710, 2, none⟩ = some (.slice none 0 0) := bc_ BK710 2
     have hfs162 := blk_frozen BK710.out 2
     have hns162_0 := NB620_710.out
     have hns162_1 := NB621_710.out
     have hns162_2 := NB644_710.out
     have hns162_3 := NB654_710.out
     have hns162_4 := NB667_710.out
     have hms162_0 := NB710_620.out
     have hms162_1 := NB710_621.out
     have hms162_2 := NB710_644.out
     have hms162_3 := NB710_654.out
     have hms162_4 := NB710_667.out
     refine skip_ (w1 := ?_) (by rfl) rfl ?_ ?_
     rotate_left
     ·go_simp
      rfl
     refine hK.out _ _ ⟨((cell_far (p := ⟨gb710, _, none⟩) NB620_710.out _).trans (((cell_far (p := ⟨gb710, _, none⟩) NB620_710.out _).trans (((cell_far (p := ⟨gb710, _, none⟩) NB620_710.out _).trans (hHeld.1)))))), ((cell_far (p := ⟨gb710, _, none⟩) NB620_710.out _).trans (((cell_far (p := ⟨gb710, _, none⟩) NB620_710.out _).trans (((cell_far (p := ⟨gb710, _, none⟩) NB620_710.out _).trans (hHeld.2.1)))))), ((cell_far (p := ⟨gb710, _, none⟩) NB620_710.out _).trans (((cell_far (p := ⟨gb710, _, none⟩) NB620_710.out _).trans (((cell_far (p := ⟨gb710, _, none⟩) NB620_710.out _).trans (hHeld.2.2.1)))))), ((cell_far (p := ⟨gb710, _, none⟩) NB621_710.out _).trans (((cell_far (p := ⟨gb710, _, none⟩) NB621_710.out _).trans (((cell_far (p := ⟨gb710, _, none⟩) NB621_710.out _).trans (hHeld.2.2.2.1)))))), ((cell_far (p := ⟨gb710, _, none⟩) NB621_710.out _).trans (((cell_far (p := ⟨gb710, _, none⟩) NB621_710.out _).trans (((cell_far (p := ⟨gb710, _, none⟩) NB621_710.out _).trans (hHeld.2.2.2.2))))))⟩ (fun hHeld => ?_)
     clear hK K
     refine pu_ 10 15 (bs 11 2047) HT_ ?_
     refine done_ (done_of HT_.out (by kernel_rfl)) ?_
     go_upto_region 25 with (fail)
     go_cut [95] (fun v95 wc => ∃ (kq : Nat) (x95_138 : Bool), v95 = .bool x95_138 ∧ Aside0 (laws_FnExactStepPair.j2 kq t684 x95_138 t685 t686 t687 = some r) ∧ Aside0 (kq ≤ kj86) ∧ Aside0 (Kd.R (Kd.int .i64) 3 wc w.heap.size (fun k_ => no_ (.slice Ao33 t637.length co33) k_ ∧ no_ (.slice Ao41 t680.length co41) k_ ∧ no_ (.slice Ao46 t681.length co46) k_ ∧ no_ (.slice Ao54 t657.length co54) k_ ∧ no_ (.slice Ao56 t660.length co56) k_ ∧ no_ (.slice Ao157 t700.length co157) k_ ∧ no_ (.slice Ao159 t703.length co159) k_) (.slice Ao31 t634.length co31) t634) ∧ Aside0 (Kd.R (Kd.int .i64) 3 wc w.heap.size (fun k_ => no_ (.slice Ao31 t634.length co31) k_ ∧ no_ (.slice Ao41 t680.length co41) k_ ∧ no_ (.slice Ao46 t681.length co46) k_ ∧ no_ (.slice Ao54 t657.length co54) k_ ∧ no_ (.slice Ao56 t660.length co56) k_ ∧ no_ (.slice Ao157 t700.length co157) k_ ∧ no_ (.slice Ao159 t703.length co159) k_) (.slice Ao33 t637.length co33) t637) ∧ Aside0 (Kd.R k127 127 wc w.heap.size (fun k_ => no_ (.slice Ao47 t682.length co47) k_ ∧ no_ (.slice Ao58 t663.length co58) k_ ∧ no_ (.slice Ao161 t706.length co161) k_) (.slice Ao35 t640.length co35) t640) ∧ Aside0 (Kd.R (Kd.int .i64) 3 wc w.heap.size (fun k_ => no_ (.slice Ao31 t634.length co31) k_ ∧ no_ (.slice Ao33 t637.length co33) k_ ∧ no_ (.slice Ao46 t681.length co46) k_ ∧ no_ (.slice Ao54 t657.length co54) k_ ∧ no_ (.slice Ao56 t660.length co56) k_ ∧ no_ (.slice Ao157 t700.length co157) k_ ∧ no_ (.slice Ao159 t703.length co159) k_) (.slice Ao41 t680.length co41) t680) ∧ Aside0 (Kd.R (Kd.int .i64) 3 wc w.heap.size (fun k_ => no_ (.slice Ao31 t634.length co31) k_ ∧ no_ (.slice Ao33 t637.length co33) k_ ∧ no_ (.slice Ao41 t680.length co41) k_ ∧ no_ (.slice Ao54 t657.length co54) k_ ∧ no_ (.slice Ao56 t660.length co56) k_ ∧ no_ (.slice Ao157 t700.length co157) k_ ∧ no_ (.slice Ao159 t703.length co159) k_) (.slice Ao46 t681.length co46) t681) ∧ Aside0 (Kd.R k127 127 wc w.heap.size (fun k_ => no_ (.slice Ao35 t640.length co35) k_ ∧ no_ (.slice Ao58 t663.length co58) k_ ∧ no_ (.slice Ao161 t706.length co161) k_) (.slice Ao47 t682.length co47) t682) ∧ Aside0 (Kd.R (Kd.int .i64) 3 wc w.heap.size (fun k_ => no_ (.slice Ao31 t634.length co31) k_ ∧ no_ (.slice Ao33 t637.length co33) k_ ∧ no_ (.slice Ao41 t680.length co41) k_ ∧ no_ (.slice Ao46 t681.length co46) k_ ∧ no_ (.slice Ao56 t660.length co56) k_ ∧ no_ (.slice Ao157 t700.length co157) k_ ∧ no_ (.slice Ao159 t703.length co159) k_) (.slice Ao54 t657.length co54) t685) ∧ Aside0 (Kd.R (Kd.int .i64) 3 wc w.heap.size (fun k_ => no_ (.slice Ao31 t634.length co31) k_ ∧ no_ (.slice Ao33 t637.length co33) k_ ∧ no_ (.slice Ao41 t680.length co41) k_ ∧ no_ (.slice Ao46 t681.length co46) k_ ∧ no_ (.slice Ao54 t657.length co54) k_ ∧ no_ (.slice Ao157 t700.length co157) k_ ∧ no_ (.slice Ao159 t703.length co159) k_) (.slice Ao56 t660.length co56) t686) ∧ Aside0 (Kd.R k127 127 wc w.heap.size (fun k_ => no_ (.slice Ao35 t640.length co35) k_ ∧ no_ (.slice Ao47 t682.length co47) k_ ∧ no_ (.slice Ao161 t706.length co161) k_) (.slice Ao58 t663.length co58) t687) ∧ Aside0 (Kd.R (Kd.int .i64) 3 wc w.heap.size (fun k_ => no_ (.slice Ao31 t634.length co31) k_ ∧ no_ (.slice Ao33 t637.length co33) k_ ∧ no_ (.slice Ao41 t680.length co41) k_ ∧ no_ (.slice Ao46 t681.length co46) k_ ∧ no_ (.slice Ao54 t657.length co54) k_ ∧ no_ (.slice Ao56 t660.length co56) k_ ∧ no_ (.slice Ao159 t703.length co159) k_) (.slice Ao157 t700.length co157) t700) ∧ Aside0 (Kd.R (Kd.int .i64) 3 wc w.heap.size (fun k_ => no_ (.slice Ao31 t634.length co31) k_ ∧ no_ (.slice Ao33 t637.length co33) k_ ∧ no_ (.slice Ao41 t680.length co41) k_ ∧ no_ (.slice Ao46 t681.length co46) k_ ∧ no_ (.slice Ao54 t657.length co54) k_ ∧ no_ (.slice Ao56 t660.length co56) k_ ∧ no_ (.slice Ao157 t700.length co157) k_) (.slice Ao159 t703.length co159) t703) ∧ Aside0 (Kd.R k127 127 wc w.heap.size (fun k_ => no_ (.slice Ao35 t640.length co35) k_ ∧ no_ (.slice Ao47 t682.length co47) k_ ∧ no_ (.slice Ao58 t663.length co58) k_) (.slice Ao161 t706.length co161) t706) ∧ Aside0 (wc.heap[gb620]? = some (.cells #[(.slice A0_0 l0_0.length c0_0), (.slice A0_1 l0_1.length c0_1), (.slice A0_2 l0_2.length c0_2)] 41 (0, 0))) ∧ Aside0 (wc.heap[gb621]? = some (.cells #[.int .i64 a1_0, .int .i64 a1_1] 43 (0, 0))) ∧ Aside0 (wc.heap[gb644]? = some (.cells #[(.slice Ao31 t634.length co31), (.slice Ao33 t637.length co33), (.slice Ao35 t640.length co35)] 47 (0, 0))) ∧ Aside0 (wc.heap[gb654]? = some (.cells #[(.slice Ao41 t680.length co41), (.slice Ao46 t681.length co46), (.slice Ao47 t682.length co47)] 47 (0, 0))) ∧ Aside0 (wc.heap[gb667]? = some (.cells #[(.slice Ao54 t657.length co54), (.slice Ao56 t660.length co56), (.slice Ao58 t663.length co58)] 47 (0, 0))) ∧ Aside0 (wc.heap[gb710]? = some (.cells #[(.slice Ao157 t700.length co157), (.slice Ao159 t703.length co159), (.slice Ao161 t706.length co161)] 47 (0, 0))) ∧ Aside0 (Below w.heap.size w wc))
     case first =>
      have H := HC139.out
      clear HC139
      replace H := Option.bind_eq_some_iff.mp H
      obtain ⟨t711, A1630, H⟩ := H
      replace H : (if t711 = true then (laws_FnExactStepPair.j2 kj86 t684 (t709 != t643) t685 t686 t687) else (laws_FnExactStepPair.j2 kj86 t684 true t685 t686 t687)) = some r := H
      have A163 := Aside0.mk A1630
      clear A1630
      by_cases c164 : t711 = true
      ·subst c164
       rw [if_pos rfl] at H
       have H' := Aside0.mk H
       clear H
       have hnb165 := NB710_620.out
       have hnc165 := NB620_710.out
       have hnb166 := NB710_621.out
       have hnc166 := NB621_710.out
       have hnb167 := NB710_644.out
       have hnc167 := NB644_710.out
       have hnb168 := NB710_654.out
       have hnc168 := NB654_710.out
       have hnb169 := NB710_667.out
       have hnc169 := NB667_710.out
       have hcz170_0 : w156.cell? ⟨gb710, 0, none⟩ = some (.slice none 0 0) := bc_ BK710 0
       have hcz170_1 : w156.cell? ⟨gb710, 1, none⟩ = some (.slice none 0 0) := bc_ BK710 1
       have hcz170_2 : w156.cell? ⟨gb710, 2, none⟩ = some (.slice none 0 0) := bc_ BK710 2
       have hfz170_0 := blk_frozen BK710.out 0
       have hfz170_1 := blk_frozen BK710.out 1
       have hfz170_2 := blk_frozen BK710.out 2
       have hnb171 := NB644_620.out
       have hnc171 := NB620_644.out
       have hnb172 := NB644_621.out
       have hnc172 := NB621_644.out
       have hnb173 := NB644_654.out
       have hnc173 := NB654_644.out
       have hnb174 := NB644_667.out
       have hnc174 := NB667_644.out
       have hcz175_0 : w156.cell? ⟨gb644, 0, none⟩ = some (.slice Ao31 t634.length co31) := bc_ BK644 0
       have hcz175_1 : w156.cell? ⟨gb644, 1, none⟩ = some (.slice Ao33 t637.length co33) := bc_ BK644 1
       have hcz175_2 : w156.cell? ⟨gb644, 2, none⟩ = some (.slice Ao35 t640.length co35) := bc_ BK644 2
       have hfz175_0 := blk_frozen BK644.out 0
       have hfz175_1 := blk_frozen BK644.out 1
       have hfz175_2 := blk_frozen BK644.out 2
       go_wp2_with (first | ((with_reducible refine gate_callee (f := 34) rfl ?_); refine goesL_ (some 89) rfl rfl Try.func34 (by kernel_rfl) rfl #[.agg #[.slice Ao157 t700.length co157, .slice Ao159 t703.length co159, .slice Ao161 t706.length co161], .agg #[.slice Ao31 t634.length co31, .slice Ao33 t637.length co33, .slice Ao35 t640.length co35]] rfl tm_ ?_; (with_reducible refine (laws_eqPair.calls kj86 _ _ t700 _ _ t703 _ _ t706 _ _ t634 _ _ t637 _ _ t640 true _ ?side1 ?side2 ?side3 ?side4 ?side5 ?side6 ?side7 ?side8 ?side9 ?side10 ?side11 ?side12 A163.out).mono ?_); (case side1 => exact rr_ (fm3_ HO702 BK710)); (case side2 => exact (Kd.R_reads' HO702.out).2.1); (case side3 => exact rr_ (fm3_ HO705 BK710)); (case side4 => exact (Kd.R_reads' HO705.out).2.1); (case side5 => exact rr_ (fm3_ HO708 BK710)); (case side6 => exact (Kd.R_reads' HO708.out).2.1); (case side7 => exact rr_ (fm3_ HO_645000 BK710)); (case side8 => exact (Kd.R_reads' HO_645000.out).2.1); (case side9 => exact rr_ (fm3_ HO_645001 BK710)); (case side10 => exact (Kd.R_reads' HO_645001.out).2.1); (case side11 => exact rr_ (fm3_ HO_645002 BK710)); (case side12 => exact (Kd.R_reads' HO_645002.out).2.1); rintro e w176 ⟨rfl, hb⟩; refine ⟨_, rfl, ?_⟩; replace HO_645000 := rb3_ HO_645000 BK710 hb; replace HO_645001 := rb3_ HO_645001 BK710 hb; replace HO_645002 := rb3_ HO_645002 BK710 hb; replace HO_655000 := rb3_ HO_655000 BK710 hb; replace HO_655001 := rb3_ HO_655001 BK710 hb; replace HO_655002 := rb3_ HO_655002 BK710 hb; replace HO_668000 := rb3_ HO_668000 BK710 hb; replace HO_668001 := rb3_ HO_668001 BK710 hb; replace HO_668002 := rb3_ HO_668002 BK710 hb; replace HO691 := rb3_ HO691 BK710 hb; replace HO694 := rb3_ HO694 BK710 hb; replace HO697 := rb3_ HO697 BK710 hb; replace HO702 := rb3_ HO702 BK710 hb; replace HO705 := rb3_ HO705 BK710 hb; replace HO708 := rb3_ HO708 BK710 hb; replace BK620 := Aside0.mk (blk_below (bx BK620) hb); replace BK621 := Aside0.mk (blk_below (bx BK621) hb); replace BK644 := Aside0.mk (blk_below (bx BK644) hb); replace BK654 := Aside0.mk (blk_below (bx BK654) hb); replace BK667 := Aside0.mk (blk_below (bx BK667) hb); replace BK710 := Aside0.mk (blk_below (g := gb710) (o := .cells #[.slice Ao157 t700.length co157, .slice Ao159 t703.length co159, .slice Ao161 t706.length co161] 47 (0, 0)) (by (with_reducible repeat (first | refine blk_drewN ?_ _ | refine blk_drew ?_ | refine blk_alloc ?_ _)); refine blk_put (cs := #[.slice Ao157 t700.length co157, .slice Ao159 t703.length co159, .slice none 0 0]) ?_ 2 _ rfl; (with_reducible repeat (first | refine blk_drewN ?_ _ | refine blk_drew ?_ | refine blk_alloc ?_ _)); refine blk_put (cs := #[.slice Ao157 t700.length co157, .slice none 0 0, .slice none 0 0]) ?_ 1 _ rfl; (with_reducible repeat (first | refine blk_drewN ?_ _ | refine blk_drew ?_ | refine blk_alloc ?_ _)); refine blk_put (cs := #[.slice none 0 0, .slice none 0 0, .slice none 0 0]) ?_ 0 _ rfl; (with_reducible repeat (first | refine blk_drewN ?_ _ | refine blk_drew ?_ | refine blk_alloc ?_ _)); exact BK710.out) hb); replace HB := bst_ HB hb; clear hb))
       go_meet
       case rel => exact ⟨_, ((t709 != t643)), (by first | rfl | (simp; done) | (simp [*]; done)), H', ⟨by have := HJ15.out; have := HJ86.out; first | omega | exact Nat.le_refl _⟩, ⟨by (try simp only [hl655000_86]); (try simp only [hl655001_86]); (try simp only [hl655002_86]); (with_reducible repeat (first | apply Kd.R_alloc | apply Kd.R_drewN | apply Kd.R_drew)); exact Kd.R_mono HO_645000.out (fun _ hk => ⟨hk.2.2.2.2.1, ⟨hk.2.2.2.2.2.1, ⟨hk.2.2.2.2.2.2.1, ⟨hk.2.2.2.2.2.2.2.1, ⟨hk.2.2.2.2.2.2.2.2, ⟨hk.2.2.1, hk.2.2.2.1⟩⟩⟩⟩⟩⟩)⟩, ⟨by (try simp only [hl655000_86]); (try simp only [hl655001_86]); (try simp only [hl655002_86]); (with_reducible repeat (first | apply Kd.R_alloc | apply Kd.R_drewN | apply Kd.R_drew)); exact Kd.R_mono HO_645001.out (fun _ hk => ⟨hk.2.2.2.2.1, ⟨hk.2.2.2.2.2.1, ⟨hk.2.2.2.2.2.2.1, ⟨hk.2.2.2.2.2.2.2.1, ⟨hk.2.2.2.2.2.2.2.2, ⟨hk.2.2.1, hk.2.2.2.1⟩⟩⟩⟩⟩⟩)⟩, ⟨by (try simp only [hl655000_86]); (try simp only [hl655001_86]); (try simp only [hl655002_86]); (with_reducible repeat (first | apply Kd.R_alloc | apply Kd.R_drewN | apply Kd.R_drew)); exact Kd.R_mono HO_645002.out (fun _ hk => ⟨hk.2.2.1, ⟨hk.2.2.2, hk.2.1⟩⟩)⟩, ⟨by (try simp only [hl655000_86]); (try simp only [hl655001_86]); (try simp only [hl655002_86]); (with_reducible repeat (first | apply Kd.R_alloc | apply Kd.R_drewN | apply Kd.R_drew)); exact Kd.R_mono HO_655000.out (fun _ hk => ⟨hk.2.2.2.2.1, ⟨hk.2.2.2.2.2.1, ⟨hk.2.2.2.2.2.2.1, ⟨hk.2.2.2.2.2.2.2.1, ⟨hk.2.2.2.2.2.2.2.2, ⟨hk.2.2.1, hk.2.2.2.1⟩⟩⟩⟩⟩⟩)⟩, ⟨by (try simp only [hl655000_86]); (try simp only [hl655001_86]); (try simp only [hl655002_86]); (with_reducible repeat (first | apply Kd.R_alloc | apply Kd.R_drewN | apply Kd.R_drew)); exact Kd.R_mono HO_655001.out (fun _ hk => ⟨hk.2.2.2.2.1, ⟨hk.2.2.2.2.2.1, ⟨hk.2.2.2.2.2.2.1, ⟨hk.2.2.2.2.2.2.2.1, ⟨hk.2.2.2.2.2.2.2.2, ⟨hk.2.2.1, hk.2.2.2.1⟩⟩⟩⟩⟩⟩)⟩, ⟨by (try simp only [hl655000_86]); (try simp only [hl655001_86]); (try simp only [hl655002_86]); (with_reducible repeat (first | apply Kd.R_alloc | apply Kd.R_drewN | apply Kd.R_drew)); exact Kd.R_mono HO_655002.out (fun _ hk => ⟨hk.2.2.1, ⟨hk.2.2.2, hk.2.1⟩⟩)⟩, ⟨by (try simp only [hl655000_86]); (try simp only [hl655001_86]); (try simp only [hl655002_86]); (with_reducible repeat (first | apply Kd.R_alloc | apply Kd.R_drewN | apply Kd.R_drew)); exact Kd.R_mono HO_668000.out (fun _ hk => ⟨hk.2.2.2.2.1, ⟨hk.2.2.2.2.2.1, ⟨hk.2.2.2.2.2.2.1, ⟨hk.2.2.2.2.2.2.2.1, ⟨hk.2.2.2.2.2.2.2.2, ⟨hk.2.2.1, hk.2.2.2.1⟩⟩⟩⟩⟩⟩)⟩, ⟨by (try simp only [hl655000_86]); (try simp only [hl655001_86]); (try simp only [hl655002_86]); (with_reducible repeat (first | apply Kd.R_alloc | apply Kd.R_drewN | apply Kd.R_drew)); exact Kd.R_mono HO_668001.out (fun _ hk => ⟨hk.2.2.2.2.1, ⟨hk.2.2.2.2.2.1, ⟨hk.2.2.2.2.2.2.1, ⟨hk.2.2.2.2.2.2.2.1, ⟨hk.2.2.2.2.2.2.2.2, ⟨hk.2.2.1, hk.2.2.2.1⟩⟩⟩⟩⟩⟩)⟩, ⟨by (try simp only [hl655000_86]); (try simp only [hl655001_86]); (try simp only [hl655002_86]); (with_reducible repeat (first | apply Kd.R_alloc | apply Kd.R_drewN | apply Kd.R_drew)); exact Kd.R_mono HO_668002.out (fun _ hk => ⟨hk.2.2.1, ⟨hk.2.2.2, hk.2.1⟩⟩)⟩, ⟨by (try simp only [hl655000_86]); (try simp only [hl655001_86]); (try simp only [hl655002_86]); (with_reducible repeat (first | apply Kd.R_alloc | apply Kd.R_drewN | apply Kd.R_drew)); exact Kd.R_mono HO702.out (fun _ hk => ⟨hk.2.2.2.1, ⟨hk.2.2.2.2.1, ⟨hk.2.2.2.2.2.1, ⟨hk.2.2.2.2.2.2.1, ⟨hk.2.2.2.2.2.2.2.1, ⟨hk.2.2.2.2.2.2.2.2, hk.2.2.1⟩⟩⟩⟩⟩⟩)⟩, ⟨by (try simp only [hl655000_86]); (try simp only [hl655001_86]); (try simp only [hl655002_86]); (with_reducible repeat (first | apply Kd.R_alloc | apply Kd.R_drewN | apply Kd.R_drew)); exact Kd.R_mono HO705.out (fun _ hk => ⟨hk.2.2.2.1, ⟨hk.2.2.2.2.1, ⟨hk.2.2.2.2.2.1, ⟨hk.2.2.2.2.2.2.1, ⟨hk.2.2.2.2.2.2.2.1, ⟨hk.2.2.2.2.2.2.2.2, hk.2.2.1⟩⟩⟩⟩⟩⟩)⟩, ⟨by (try simp only [hl655000_86]); (try simp only [hl655001_86]); (try simp only [hl655002_86]); (with_reducible repeat (first | apply Kd.R_alloc | apply Kd.R_drewN | apply Kd.R_drew)); exact Kd.R_mono HO708.out (fun _ hk => hk.2)⟩, ⟨by (try simp only [hl655000_86]); (try simp only [hl655001_86]); (try simp only [hl655002_86]); (with_reducible repeat (first | refine blk_drewN ?_ _ | refine blk_drew ?_ | refine blk_alloc ?_ _)); exact BK620.out⟩, ⟨by (try simp only [hl655000_86]); (try simp only [hl655001_86]); (try simp only [hl655002_86]); (with_reducible repeat (first | refine blk_drewN ?_ _ | refine blk_drew ?_ | refine blk_alloc ?_ _)); exact BK621.out⟩, ⟨by (try simp only [hl655000_86]); (try simp only [hl655001_86]); (try simp only [hl655002_86]); (with_reducible repeat (first | refine blk_drewN ?_ _ | refine blk_drew ?_ | refine blk_alloc ?_ _)); exact BK644.out⟩, ⟨by (try simp only [hl655000_86]); (try simp only [hl655001_86]); (try simp only [hl655002_86]); (with_reducible repeat (first | refine blk_drewN ?_ _ | refine blk_drew ?_ | refine blk_alloc ?_ _)); exact BK654.out⟩, ⟨by (try simp only [hl655000_86]); (try simp only [hl655001_86]); (try simp only [hl655002_86]); (with_reducible repeat (first | refine blk_drewN ?_ _ | refine blk_drew ?_ | refine blk_alloc ?_ _)); exact BK667.out⟩, ⟨by (try simp only [hl655000_86]); (try simp only [hl655001_86]); (try simp only [hl655002_86]); (with_reducible repeat (first | refine blk_drewN ?_ _ | refine blk_drew ?_ | refine blk_alloc ?_ _)); exact BK710.out⟩, ⟨hB HB⟩⟩
      replace c164 := Bool.eq_false_iff.mpr c164
      subst c164
      rw [if_neg (show ¬ (false = true) by decide)] at H
      have H' := Aside0.mk H
      clear H
      have hnb177 := NB710_620.out
      have hnc177 := NB620_710.out
      have hnb178 := NB710_621.out
      have hnc178 := NB621_710.out
      have hnb179 := NB710_644.out
      have hnc179 := NB644_710.out
      have hnb180 := NB710_654.out
      have hnc180 := NB654_710.out
      have hnb181 := NB710_667.out
      have hnc181 := NB667_710.out
      have hcz182_0 : w156.cell? ⟨gb710, 0, none⟩ = some (.slice none 0 0) := bc_ BK710 0
      have hcz182_1 : w156.cell? ⟨gb710, 1, none⟩ = some (.slice none 0 0) := bc_ BK710 1
      have hcz182_2 : w156.cell? ⟨gb710, 2, none⟩ = some (.slice none 0 0) := bc_ BK710 2
      have hfz182_0 := blk_frozen BK710.out 0
      have hfz182_1 := blk_frozen BK710.out 1
      have hfz182_2 := blk_frozen BK710.out 2
      have hnb183 := NB644_620.out
      have hnc183 := NB620_644.out
      have hnb184 := NB644_621.out
      have hnc184 := NB621_644.out
      have hnb185 := NB644_654.out
      have hnc185 := NB654_644.out
      have hnb186 := NB644_667.out
      have hnc186 := NB667_644.out
      have hcz187_0 : w156.cell? ⟨gb644, 0, none⟩ = some (.slice Ao31 t634.length co31) := bc_ BK644 0
      have hcz187_1 : w156.cell? ⟨gb644, 1, none⟩ = some (.slice Ao33 t637.length co33) := bc_ BK644 1
      have hcz187_2 : w156.cell? ⟨gb644, 2, none⟩ = some (.slice Ao35 t640.length co35) := bc_ BK644 2
      have hfz187_0 := blk_frozen BK644.out 0
      have hfz187_1 := blk_frozen BK644.out 1
      have hfz187_2 := blk_frozen BK644.out 2
      go_wp2_with (first | ((with_reducible refine gate_callee (f := 34) rfl ?_); refine goesL_ (some 89) rfl rfl Try.func34 (by kernel_rfl) rfl #[.agg #[.slice Ao157 t700.length co157, .slice Ao159 t703.length co159, .slice Ao161 t706.length co161], .agg #[.slice Ao31 t634.length co31, .slice Ao33 t637.length co33, .slice Ao35 t640.length co35]] rfl tm_ ?_; (with_reducible refine (laws_eqPair.calls kj86 _ _ t700 _ _ t703 _ _ t706 _ _ t634 _ _ t637 _ _ t640 false _ ?side1 ?side2 ?side3 ?side4 ?side5 ?side6 ?side7 ?side8 ?side9 ?side10 ?side11 ?side12 A163.out).mono ?_); (case side1 => exact rr_ (fm3_ HO702 BK710)); (case side2 => exact (Kd.R_reads' HO702.out).2.1); (case side3 => exact rr_ (fm3_ HO705 BK710)); (case side4 => exact (Kd.R_reads' HO705.out).2.1); (case side5 => exact rr_ (fm3_ HO708 BK710)); (case side6 => exact (Kd.R_reads' HO708.out).2.1); (case side7 => exact rr_ (fm3_ HO_645000 BK710)); (case side8 => exact (Kd.R_reads' HO_645000.out).2.1); (case side9 => exact rr_ (fm3_ HO_645001 BK710)); (case side10 => exact (Kd.R_reads' HO_645001.out).2.1); (case side11 => exact rr_ (fm3_ HO_645002 BK710)); (case side12 => exact (Kd.R_reads' HO_645002.out).2.1); rintro e w188 ⟨rfl, hb⟩; refine ⟨_, rfl, ?_⟩; replace HO_645000 := rb3_ HO_645000 BK710 hb; replace HO_645001 := rb3_ HO_645001 BK710 hb; replace HO_645002 := rb3_ HO_645002 BK710 hb; replace HO_655000 := rb3_ HO_655000 BK710 hb; replace HO_655001 := rb3_ HO_655001 BK710 hb; replace HO_655002 := rb3_ HO_655002 BK710 hb; replace HO_668000 := rb3_ HO_668000 BK710 hb; replace HO_668001 := rb3_ HO_668001 BK710 hb; replace HO_668002 := rb3_ HO_668002 BK710 hb; replace HO691 := rb3_ HO691 BK710 hb; replace HO694 := rb3_ HO694 BK710 hb; replace HO697 := rb3_ HO697 BK710 hb; replace HO702 := rb3_ HO702 BK710 hb; replace HO705 := rb3_ HO705 BK710 hb; replace HO708 := rb3_ HO708 BK710 hb; replace BK620 := Aside0.mk (blk_below (bx BK620) hb); replace BK621 := Aside0.mk (blk_below (bx BK621) hb); replace BK644 := Aside0.mk (blk_below (bx BK644) hb); replace BK654 := Aside0.mk (blk_below (bx BK654) hb); replace BK667 := Aside0.mk (blk_below (bx BK667) hb); replace BK710 := Aside0.mk (blk_below (g := gb710) (o := .cells #[.slice Ao157 t700.length co157, .slice Ao159 t703.length co159, .slice Ao161 t706.length co161] 47 (0, 0)) (by (with_reducible repeat (first | refine blk_drewN ?_ _ | refine blk_drew ?_ | refine blk_alloc ?_ _)); refine blk_put (cs := #[.slice Ao157 t700.length co157, .slice Ao159 t703.length co159, .slice none 0 0]) ?_ 2 _ rfl; (with_reducible repeat (first | refine blk_drewN ?_ _ | refine blk_drew ?_ | refine blk_alloc ?_ _)); refine blk_put (cs := #[.slice Ao157 t700.length co157, .slice none 0 0, .slice none 0 0]) ?_ 1 _ rfl; (with_reducible repeat (first | refine blk_drewN ?_ _ | refine blk_drew ?_ | refine blk_alloc ?_ _)); refine blk_put (cs := #[.slice none 0 0, .slice none 0 0, .slice none 0 0]) ?_ 0 _ rfl; (with_reducible repeat (first | refine blk_drewN ?_ _ | refine blk_drew ?_ | refine blk_alloc ?_ _)); exact BK710.out) hb); replace HB := bst_ HB hb; clear hb))
      go_meet
      case rel => exact ⟨_, (true), (by first | rfl | (simp; done) | (simp [*]; done)), H', ⟨by have := HJ15.out; have := HJ86.out; first | omega | exact Nat.le_refl _⟩, ⟨by (try simp only [hl655000_86]); (try simp only [hl655001_86]); (try simp only [hl655002_86]); (with_reducible repeat (first | apply Kd.R_alloc | apply Kd.R_drewN | apply Kd.R_drew)); exact Kd.R_mono HO_645000.out (fun _ hk => ⟨hk.2.2.2.2.1, ⟨hk.2.2.2.2.2.1, ⟨hk.2.2.2.2.2.2.1, ⟨hk.2.2.2.2.2.2.2.1, ⟨hk.2.2.2.2.2.2.2.2, ⟨hk.2.2.1, hk.2.2.2.1⟩⟩⟩⟩⟩⟩)⟩, ⟨by (try simp only [hl655000_86]); (try simp only [hl655001_86]); (try simp only [hl655002_86]); (with_reducible repeat (first | apply Kd.R_alloc | apply Kd.R_drewN | apply Kd.R_drew)); exact Kd.R_mono HO_645001.out (fun _ hk => ⟨hk.2.2.2.2.1, ⟨hk.2.2.2.2.2.1, ⟨hk.2.2.2.2.2.2.1, ⟨hk.2.2.2.2.2.2.2.1, ⟨hk.2.2.2.2.2.2.2.2, ⟨hk.2.2.1, hk.2.2.2.1⟩⟩⟩⟩⟩⟩)⟩, ⟨by (try simp only [hl655000_86]); (try simp only [hl655001_86]); (try simp only [hl655002_86]); (with_reducible repeat (first | apply Kd.R_alloc | apply Kd.R_drewN | apply Kd.R_drew)); exact Kd.R_mono HO_645002.out (fun _ hk => ⟨hk.2.2.1, ⟨hk.2.2.2, hk.2.1⟩⟩)⟩, ⟨by (try simp only [hl655000_86]); (try simp only [hl655001_86]); (try simp only [hl655002_86]); (with_reducible repeat (first | apply Kd.R_alloc | apply Kd.R_drewN | apply Kd.R_drew)); exact Kd.R_mono HO_655000.out (fun _ hk => ⟨hk.2.2.2.2.1, ⟨hk.2.2.2.2.2.1, ⟨hk.2.2.2.2.2.2.1, ⟨hk.2.2.2.2.2.2.2.1, ⟨hk.2.2.2.2.2.2.2.2, ⟨hk.2.2.1, hk.2.2.2.1⟩⟩⟩⟩⟩⟩)⟩, ⟨by (try simp only [hl655000_86]); (try simp only [hl655001_86]); (try simp only [hl655002_86]); (with_reducible repeat (first | apply Kd.R_alloc | apply Kd.R_drewN | apply Kd.R_drew)); exact Kd.R_mono HO_655001.out (fun _ hk => ⟨hk.2.2.2.2.1, ⟨hk.2.2.2.2.2.1, ⟨hk.2.2.2.2.2.2.1, ⟨hk.2.2.2.2.2.2.2.1, ⟨hk.2.2.2.2.2.2.2.2, ⟨hk.2.2.1, hk.2.2.2.1⟩⟩⟩⟩⟩⟩)⟩, ⟨by (try simp only [hl655000_86]); (try simp only [hl655001_86]); (try simp only [hl655002_86]); (with_reducible repeat (first | apply Kd.R_alloc | apply Kd.R_drewN | apply Kd.R_drew)); exact Kd.R_mono HO_655002.out (fun _ hk => ⟨hk.2.2.1, ⟨hk.2.2.2, hk.2.1⟩⟩)⟩, ⟨by (try simp only [hl655000_86]); (try simp only [hl655001_86]); (try simp only [hl655002_86]); (with_reducible repeat (first | apply Kd.R_alloc | apply Kd.R_drewN | apply Kd.R_drew)); exact Kd.R_mono HO_668000.out (fun _ hk => ⟨hk.2.2.2.2.1, ⟨hk.2.2.2.2.2.1, ⟨hk.2.2.2.2.2.2.1, ⟨hk.2.2.2.2.2.2.2.1, ⟨hk.2.2.2.2.2.2.2.2, ⟨hk.2.2.1, hk.2.2.2.1⟩⟩⟩⟩⟩⟩)⟩, ⟨by (try simp only [hl655000_86]); (try simp only [hl655001_86]); (try simp only [hl655002_86]); (with_reducible repeat (first | apply Kd.R_alloc | apply Kd.R_drewN | apply Kd.R_drew)); exact Kd.R_mono HO_668001.out (fun _ hk => ⟨hk.2.2.2.2.1, ⟨hk.2.2.2.2.2.1, ⟨hk.2.2.2.2.2.2.1, ⟨hk.2.2.2.2.2.2.2.1, ⟨hk.2.2.2.2.2.2.2.2, ⟨hk.2.2.1, hk.2.2.2.1⟩⟩⟩⟩⟩⟩)⟩, ⟨by (try simp only [hl655000_86]); (try simp only [hl655001_86]); (try simp only [hl655002_86]); (with_reducible repeat (first | apply Kd.R_alloc | apply Kd.R_drewN | apply Kd.R_drew)); exact Kd.R_mono HO_668002.out (fun _ hk => ⟨hk.2.2.1, ⟨hk.2.2.2, hk.2.1⟩⟩)⟩, ⟨by (try simp only [hl655000_86]); (try simp only [hl655001_86]); (try simp only [hl655002_86]); (with_reducible repeat (first | apply Kd.R_alloc | apply Kd.R_drewN | apply Kd.R_drew)); exact Kd.R_mono HO702.out (fun _ hk => ⟨hk.2.2.2.1, ⟨hk.2.2.2.2.1, ⟨hk.2.2.2.2.2.1, ⟨hk.2.2.2.2.2.2.1, ⟨hk.2.2.2.2.2.2.2.1, ⟨hk.2.2.2.2.2.2.2.2, hk.2.2.1⟩⟩⟩⟩⟩⟩)⟩, ⟨by (try simp only [hl655000_86]); (try simp only [hl655001_86]); (try simp only [hl655002_86]); (with_reducible repeat (first | apply Kd.R_alloc | apply Kd.R_drewN | apply Kd.R_drew)); exact Kd.R_mono HO705.out (fun _ hk => ⟨hk.2.2.2.1, ⟨hk.2.2.2.2.1, ⟨hk.2.2.2.2.2.1, ⟨hk.2.2.2.2.2.2.1, ⟨hk.2.2.2.2.2.2.2.1, ⟨hk.2.2.2.2.2.2.2.2, hk.2.2.1⟩⟩⟩⟩⟩⟩)⟩, ⟨by (try simp only [hl655000_86]); (try simp only [hl655001_86]); (try simp only [hl655002_86]); (with_reducible repeat (first | apply Kd.R_alloc | apply Kd.R_drewN | apply Kd.R_drew)); exact Kd.R_mono HO708.out (fun _ hk => hk.2)⟩, ⟨by (try simp only [hl655000_86]); (try simp only [hl655001_86]); (try simp only [hl655002_86]); (with_reducible repeat (first | refine blk_drewN ?_ _ | refine blk_drew ?_ | refine blk_alloc ?_ _)); exact BK620.out⟩, ⟨by (try simp only [hl655000_86]); (try simp only [hl655001_86]); (try simp only [hl655002_86]); (with_reducible repeat (first | refine blk_drewN ?_ _ | refine blk_drew ?_ | refine blk_alloc ?_ _)); exact BK621.out⟩, ⟨by (try simp only [hl655000_86]); (try simp only [hl655001_86]); (try simp only [hl655002_86]); (with_reducible repeat (first | refine blk_drewN ?_ _ | refine blk_drew ?_ | refine blk_alloc ?_ _)); exact BK644.out⟩, ⟨by (try simp only [hl655000_86]); (try simp only [hl655001_86]); (try simp only [hl655002_86]); (with_reducible repeat (first | refine blk_drewN ?_ _ | refine blk_drew ?_ | refine blk_alloc ?_ _)); exact BK654.out⟩, ⟨by (try simp only [hl655000_86]); (try simp only [hl655001_86]); (try simp only [hl655002_86]); (with_reducible repeat (first | refine blk_drewN ?_ _ | refine blk_drew ?_ | refine blk_alloc ?_ _)); exact BK667.out⟩, ⟨by (try simp only [hl655000_86]); (try simp only [hl655001_86]); (try simp only [hl655002_86]); (with_reducible repeat (first | refine blk_drewN ?_ _ | refine blk_drew ?_ | refine blk_alloc ?_ _)); exact BK710.out⟩, ⟨hB HB⟩⟩
     case rest =>
      clear HC139
      obtain ⟨kq, x95_138, rfl, HA, HJ138, HO_645000, HO_645001, HO_645002, HO_655000, HO_655001, HO_655002, HO_668000, HO_668001, HO_668002, HO_711000, HO_711001, HO_711002, BK620, BK621, BK644, BK654, BK667, BK710, HB⟩ := hcut
      have hl668000_138 := (Kd.R_reads' HO_668000.out).1
      rw [hl668000_138] at HO_668000
      (try simp only [hl668000_138])
      (try simp only [hl668000_138] at BK620)
      (try simp only [hl668000_138] at BK621)
      (try simp only [hl668000_138] at BK644)
      (try simp only [hl668000_138] at BK654)
      (try simp only [hl668000_138] at BK667)
      (try simp only [hl668000_138] at BK710)
      (try simp only [hl668000_138] at HO_645000)
      (try simp only [hl668000_138] at HO_645001)
      (try simp only [hl668000_138] at HO_645002)
      (try simp only [hl668000_138] at HO_655000)
      (try simp only [hl668000_138] at HO_655001)
      (try simp only [hl668000_138] at HO_655002)
      (try simp only [hl668000_138] at HO_668001)
      (try simp only [hl668000_138] at HO_668002)
      (try simp only [hl668000_138] at HO_711000)
      (try simp only [hl668000_138] at HO_711001)
      (try simp only [hl668000_138] at HO_711002)
      have hl668001_138 := (Kd.R_reads' HO_668001.out).1
      rw [hl668001_138] at HO_668001
      (try simp only [hl668001_138])
      (try simp only [hl668001_138] at BK620)
      (try simp only [hl668001_138] at BK621)
      (try simp only [hl668001_138] at BK644)
      (try simp only [hl668001_138] at BK654)
      (try simp only [hl668001_138] at BK667)
      (try simp only [hl668001_138] at BK710)
      (try simp only [hl668001_138] at HO_645000)
      (try simp only [hl668001_138] at HO_645001)
      (try simp only [hl668001_138] at HO_645002)
      (try simp only [hl668001_138] at HO_655000)
      (try simp only [hl668001_138] at HO_655001)
      (try simp only [hl668001_138] at HO_655002)
      (try simp only [hl668001_138] at HO_668000)
      (try simp only [hl668001_138] at HO_668002)
      (try simp only [hl668001_138] at HO_711000)
      (try simp only [hl668001_138] at HO_711001)
      (try simp only [hl668001_138] at HO_711002)
      have hl668002_138 := (Kd.R_reads' HO_668002.out).1
      rw [hl668002_138] at HO_668002
      (try simp only [hl668002_138])
      (try simp only [hl668002_138] at BK620)
      (try simp only [hl668002_138] at BK621)
      (try simp only [hl668002_138] at BK644)
      (try simp only [hl668002_138] at BK654)
      (try simp only [hl668002_138] at BK667)
      (try simp only [hl668002_138] at BK710)
      (try simp only [hl668002_138] at HO_645000)
      (try simp only [hl668002_138] at HO_645001)
      (try simp only [hl668002_138] at HO_645002)
      (try simp only [hl668002_138] at HO_655000)
      (try simp only [hl668002_138] at HO_655001)
      (try simp only [hl668002_138] at HO_655002)
      (try simp only [hl668002_138] at HO_668000)
      (try simp only [hl668002_138] at HO_668001)
      (try simp only [hl668002_138] at HO_711000)
      (try simp only [hl668002_138] at HO_711001)
      (try simp only [hl668002_138] at HO_711002)
      cases kq with
      | zero => exact absurd HA.out (by simp [laws_FnExactStepPair.j2])
      | succ kj138 =>
       have H := HA.out
       clear HA
       simp only [laws_FnExactStepPair.j2] at H
       by_cases c189 : x95_138 = true
       ·subst c189
        rw [if_pos rfl] at H
        obtain rfl := Option.some.inj H
        go_wp2
        go_ret
        exact ⟨by first | rfl | (simp [errW_none, errW_some] <;> rfl) | (simp [*, errW_none, errW_some] <;> rfl), by repeat (first | (with_reducible first | exact HB.out | apply below_alloc | apply pw_below_drewN | apply below_drew1 | refine below_set ?_ GE620.out | refine below_set ?_ GE621.out | refine below_set ?_ GE644.out | refine below_set ?_ GE654.out | refine below_set ?_ GE667.out | refine below_set ?_ GE710.out) | exact HB.out)⟩
       replace c189 := Bool.eq_false_iff.mpr c189
       subst c189
       rw [if_neg (show ¬ (false = true) by decide)] at H
       replace H := Option.bind_eq_some_iff.mp H
       obtain ⟨t712, A1900, H⟩ := H
       replace H : (if t712 < 0 then (some false) else (if t712 = t684 then (some true) else (some false))) = some r := H
       have A190 := Aside0.mk A1900
       clear A1900
       by_cases c191 : t712 < 0
       ·rw [if_pos c191] at H
        have c191b0 : decide (t712 < 0) = true := decide_eq_true c191
        clear c191
        obtain rfl := Option.some.inj H
        have hnb192 := NB667_620.out
        have hnc192 := NB620_667.out
        have hnb193 := NB667_621.out
        have hnc193 := NB621_667.out
        have hnb194 := NB667_644.out
        have hnc194 := NB644_667.out
        have hnb195 := NB667_654.out
        have hnc195 := NB654_667.out
        have hnb196 := NB667_710.out
        have hnc196 := NB710_667.out
        have hcz197_0 : wc.cell? ⟨gb667, 0, none⟩ = some (.slice Ao54 t685.length co54) := bc_ BK667 0
        have hcz197_1 : wc.cell? ⟨gb667, 1, none⟩ = some (.slice Ao56 t686.length co56) := bc_ BK667 1
        have hcz197_2 : wc.cell? ⟨gb667, 2, none⟩ = some (.slice Ao58 t687.length co58) := bc_ BK667 2
        have hfz197_0 := blk_frozen BK667.out 0
        have hfz197_1 := blk_frozen BK667.out 1
        have hfz197_2 := blk_frozen BK667.out 2
        go_wp2_with (first | ((with_reducible refine gate_callee (f := 36) rfl ?_); refine goesL_ (some 98) rfl rfl Try.func36 (by kernel_rfl) rfl #[.agg #[.slice Ao54 t685.length co54, .slice Ao56 t686.length co56, .slice Ao58 t687.length co58], .int .i64 1] rfl tm_ ?_; (with_reducible refine (laws_heldPair.calls kj138 _ _ t685 _ _ t686 _ _ t687 1 t712 _ ?side1 ?side2 ?side3 ?side4 ?side5 ?side6 A190.out).mono ?_); (case side1 => exact ca (Kd.R_reads' HO_668000.out).2.2); (case side2 => exact (Kd.R_reads' HO_668000.out).2.1); (case side3 => exact ca (Kd.R_reads' HO_668001.out).2.2); (case side4 => exact (Kd.R_reads' HO_668001.out).2.1); (case side5 => exact ca (Kd.R_reads' HO_668002.out).2.2); (case side6 => exact (Kd.R_reads' HO_668002.out).2.1); rintro e w198 ⟨rfl, hb⟩; refine ⟨_, rfl, ?_⟩; replace HO_645000 := rb_ HO_645000 hb; replace HO_645001 := rb_ HO_645001 hb; replace HO_645002 := rb_ HO_645002 hb; replace HO_655000 := rb_ HO_655000 hb; replace HO_655001 := rb_ HO_655001 hb; replace HO_655002 := rb_ HO_655002 hb; replace HO_668000 := rb_ HO_668000 hb; replace HO_668001 := rb_ HO_668001 hb; replace HO_668002 := rb_ HO_668002 hb; replace HO_711000 := rb_ HO_711000 hb; replace HO_711001 := rb_ HO_711001 hb; replace HO_711002 := rb_ HO_711002 hb; replace BK620 := bb_ BK620 hb; replace BK621 := bb_ BK621 hb; replace BK644 := bb_ BK644 hb; replace BK654 := bb_ BK654 hb; replace BK667 := bb_ BK667 hb; replace BK710 := bb_ BK710 hb; replace HB := bst_ HB hb; clear hb))
        go_ret
        exact ⟨by first | rfl | (simp [errW_none, errW_some] <;> rfl) | (simp [*, errW_none, errW_some] <;> rfl), by repeat (first | (with_reducible first | exact HB.out | apply below_alloc | apply pw_below_drewN | apply below_drew1 | refine below_set ?_ GE620.out | refine below_set ?_ GE621.out | refine below_set ?_ GE644.out | refine below_set ?_ GE654.out | refine below_set ?_ GE667.out | refine below_set ?_ GE710.out) | exact HB.out)⟩
       rw [if_neg c191] at H
       have c191b0 : decide (t712 < 0) = false := decide_eq_false c191
       clear c191
       by_cases c199 : t712 = t684
       rotate_left
       ·rw [if_neg c199] at H
        have c199b0 : (t712 == t684) = false := beq_eq_false_iff_ne.mpr c199
        have c199b1 : (t712 != t684) = true := bne_iff_ne.mpr c199
        obtain rfl := Option.some.inj H
        have hnb207 := NB667_620.out
        have hnc207 := NB620_667.out
        have hnb208 := NB667_621.out
        have hnc208 := NB621_667.out
        have hnb209 := NB667_644.out
        have hnc209 := NB644_667.out
        have hnb210 := NB667_654.out
        have hnc210 := NB654_667.out
        have hnb211 := NB667_710.out
        have hnc211 := NB710_667.out
        have hcz212_0 : wc.cell? ⟨gb667, 0, none⟩ = some (.slice Ao54 t685.length co54) := bc_ BK667 0
        have hcz212_1 : wc.cell? ⟨gb667, 1, none⟩ = some (.slice Ao56 t686.length co56) := bc_ BK667 1
        have hcz212_2 : wc.cell? ⟨gb667, 2, none⟩ = some (.slice Ao58 t687.length co58) := bc_ BK667 2
        have hfz212_0 := blk_frozen BK667.out 0
        have hfz212_1 := blk_frozen BK667.out 1
        have hfz212_2 := blk_frozen BK667.out 2
        go_wp2_with (first | ((with_reducible refine gate_callee (f := 36) rfl ?_); refine goesL_ (some 98) rfl rfl Try.func36 (by kernel_rfl) rfl #[.agg #[.slice Ao54 t685.length co54, .slice Ao56 t686.length co56, .slice Ao58 t687.length co58], .int .i64 1] rfl tm_ ?_; (with_reducible refine (laws_heldPair.calls kj138 _ _ t685 _ _ t686 _ _ t687 1 t712 _ ?side1 ?side2 ?side3 ?side4 ?side5 ?side6 A190.out).mono ?_); (case side1 => exact ca (Kd.R_reads' HO_668000.out).2.2); (case side2 => exact (Kd.R_reads' HO_668000.out).2.1); (case side3 => exact ca (Kd.R_reads' HO_668001.out).2.2); (case side4 => exact (Kd.R_reads' HO_668001.out).2.1); (case side5 => exact ca (Kd.R_reads' HO_668002.out).2.2); (case side6 => exact (Kd.R_reads' HO_668002.out).2.1); rintro e w213 ⟨rfl, hb⟩; refine ⟨_, rfl, ?_⟩; replace HO_645000 := rb_ HO_645000 hb; replace HO_645001 := rb_ HO_645001 hb; replace HO_645002 := rb_ HO_645002 hb; replace HO_655000 := rb_ HO_655000 hb; replace HO_655001 := rb_ HO_655001 hb; replace HO_655002 := rb_ HO_655002 hb; replace HO_668000 := rb_ HO_668000 hb; replace HO_668001 := rb_ HO_668001 hb; replace HO_668002 := rb_ HO_668002 hb; replace HO_711000 := rb_ HO_711000 hb; replace HO_711001 := rb_ HO_711001 hb; replace HO_711002 := rb_ HO_711002 hb; replace BK620 := bb_ BK620 hb; replace BK621 := bb_ BK621 hb; replace BK644 := bb_ BK644 hb; replace BK654 := bb_ BK654 hb; replace BK667 := bb_ BK667 hb; replace BK710 := bb_ BK710 hb; replace HB := bst_ HB hb; clear hb))
        go_ret
        exact ⟨by first | rfl | (simp [errW_none, errW_some] <;> rfl) | (simp [*, errW_none, errW_some] <;> rfl), by repeat (first | (with_reducible first | exact HB.out | apply below_alloc | apply pw_below_drewN | apply below_drew1 | refine below_set ?_ GE620.out | refine below_set ?_ GE621.out | refine below_set ?_ GE644.out | refine below_set ?_ GE654.out | refine below_set ?_ GE667.out | refine below_set ?_ GE710.out) | exact HB.out)⟩
       rw [if_pos c199] at H
       have c199b0 : (t712 == t684) = true := beq_iff_eq.mpr c199
       have c199b1 : (t712 != t684) = false := bne_eq_false_iff_eq.mpr c199
       clear c199
       obtain rfl := Option.some.inj H
       have hnb200 := NB667_620.out
       have hnc200 := NB620_667.out
       have hnb201 := NB667_621.out
       have hnc201 := NB621_667.out
       have hnb202 := NB667_644.out
       have hnc202 := NB644_667.out
       have hnb203 := NB667_654.out
       have hnc203 := NB654_667.out
       have hnb204 := NB667_710.out
       have hnc204 := NB710_667.out
       have hcz205_0 : wc.cell? ⟨gb667, 0, none⟩ = some (.slice Ao54 t685.length co54) := bc_ BK667 0
       have hcz205_1 : wc.cell? ⟨gb667, 1, none⟩ = some (.slice Ao56 t686.length co56) := bc_ BK667 1
       have hcz205_2 : wc.cell? ⟨gb667, 2, none⟩ = some (.slice Ao58 t687.length co58) := bc_ BK667 2
       have hfz205_0 := blk_frozen BK667.out 0
       have hfz205_1 := blk_frozen BK667.out 1
       have hfz205_2 := blk_frozen BK667.out 2
       go_wp2_with (first | ((with_reducible refine gate_callee (f := 36) rfl ?_); refine goesL_ (some 98) rfl rfl Try.func36 (by kernel_rfl) rfl #[.agg #[.slice Ao54 t685.length co54, .slice Ao56 t686.length co56, .slice Ao58 t687.length co58], .int .i64 1] rfl tm_ ?_; (with_reducible refine (laws_heldPair.calls kj138 _ _ t685 _ _ t686 _ _ t687 1 t712 _ ?side1 ?side2 ?side3 ?side4 ?side5 ?side6 A190.out).mono ?_); (case side1 => exact ca (Kd.R_reads' HO_668000.out).2.2); (case side2 => exact (Kd.R_reads' HO_668000.out).2.1); (case side3 => exact ca (Kd.R_reads' HO_668001.out).2.2); (case side4 => exact (Kd.R_reads' HO_668001.out).2.1); (case side5 => exact ca (Kd.R_reads' HO_668002.out).2.2); (case side6 => exact (Kd.R_reads' HO_668002.out).2.1); rintro e w206 ⟨rfl, hb⟩; refine ⟨_, rfl, ?_⟩; replace HO_645000 := rb_ HO_645000 hb; replace HO_645001 := rb_ HO_645001 hb; replace HO_645002 := rb_ HO_645002 hb; replace HO_655000 := rb_ HO_655000 hb; replace HO_655001 := rb_ HO_655001 hb; replace HO_655002 := rb_ HO_655002 hb; replace HO_668000 := rb_ HO_668000 hb; replace HO_668001 := rb_ HO_668001 hb; replace HO_668002 := rb_ HO_668002 hb; replace HO_711000 := rb_ HO_711000 hb; replace HO_711001 := rb_ HO_711001 hb; replace HO_711002 := rb_ HO_711002 hb; replace BK620 := bb_ BK620 hb; replace BK621 := bb_ BK621 hb; replace BK644 := bb_ BK644 hb; replace BK654 := bb_ BK654 hb; replace BK667 := bb_ BK667 hb; replace BK710 := bb_ BK710 hb; replace HB := bst_ HB hb; clear hb))
       go_ret
       exact ⟨by first | rfl | (simp [errW_none, errW_some] <;> rfl) | (simp [*, errW_none, errW_some] <;> rfl), by repeat (first | (with_reducible first | exact HB.out | apply below_alloc | apply pw_below_drewN | apply below_drew1 | refine below_set ?_ GE620.out | refine below_set ?_ GE621.out | refine below_set ?_ GE644.out | refine below_set ?_ GE654.out | refine below_set ?_ GE667.out | refine below_set ?_ GE710.out) | exact HB.out)⟩

end Go.Proofs.Ytolncjkfcmbieaa.P
