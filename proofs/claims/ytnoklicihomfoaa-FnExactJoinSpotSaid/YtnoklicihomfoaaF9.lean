import Derived.Test.YtnoklicihomfoaaF0
import Derived.Test.YtnoklicihomfoaaF7
import Derived.Test.YtnoklicihomfoaaF8
namespace Go.Proofs.Ytnoklicihomfoaa.P
open Go.RowKit Go.Proofs.YtnoklicihomfoaaW.PrintWords Go.Proofs.YtnoklicihomfoaaW.PrintLast Go.Proofs.YtnoklicihomfoaaW.PrintMore
attribute [local go_sem] max2_int min2_int max_two min_two max_three min_three max_four min_four   -- for this text's walks alone
set_option linter.unusedVariables false
set_option linter.unusedSimpArgs false

mutual
def laws_FnExactJoinSpot.j0 : Nat → List Int → Int → List Int → Bool → List Int → List Int → Bool → Bool → Option (Bool)
 | 0, _, _, _, _, _, _, _, _ => none
 | k + 1, x0, x1, x5, x6, x7, x8, x9, x41 => if x41 = true then (some false) else ((laws_toIntS.f k x0).bind fun t330 => ((laws_eqIntS.f k x7 t330).bind fun t333 => (if t333 = true then ((laws_markIntS.f k x7 1).bind fun bt334 => (if bt334.1 < 0 then (laws_FnExactJoinSpot.j1 k x0 x1 x5 x6 x8 true) else ((laws_eqIntS.f k x8 x5).bind fun t336 => (if t336 = true then (laws_FnExactJoinSpot.j1 k x0 x1 x5 x6 x8 (x9 != x6)) else (laws_FnExactJoinSpot.j1 k x0 x1 x5 x6 x8 true))))) else (some false))))
def laws_FnExactJoinSpot.j1 : Nat → List Int → Int → List Int → Bool → List Int → Bool → Option (Bool)
 | 0, _, _, _, _, _, _ => none
 | k + 1, x0, x1, x5, x6, x8, x62 => if x62 = true then (some false) else ((laws_markIntS.f k x8 1).bind fun bt337 => ((laws_heldIntS.f k bt337.2 1).bind fun t339 => (if t339 < 0 then (some false) else (if t339 = bt337.1 then ((laws_toIntS.f k x0).bind fun t340 => ((impl_JoinSpot.f k t340 x1).bind fun bt343 => ((laws_eqIntS.f k bt343.1 x5).bind fun t347 => (if t347 = true then (laws_FnExactJoinSpot.j2 k bt337.2 bt337.1 (bt343.2 != x6)) else (laws_FnExactJoinSpot.j2 k bt337.2 bt337.1 true))))) else (some false)))))
def laws_FnExactJoinSpot.j2 : Nat → List Int → Int → Bool → Option (Bool)
 | 0, _, _, _ => none
 | k + 1, x8, x11, x89 => if x89 = true then (some false) else ((laws_heldIntS.f k x8 1).bind fun t348 => (if t348 < 0 then (some false) else (if t348 = x11 then (some true) else (some false))))
end
def laws_FnExactJoinSpot.f (k : Nat) (l0 : List Int) (a1 : Int) : Option (Bool) := if (l0.length : Int) > 1048576 then (some true) else ((laws_toIntS.f k l0).bind fun t315 => ((spec_JoinSpot.f k t315 a1).bind fun bt318 => ((laws_toIntS.f k l0).bind fun t322 => ((impl_JoinSpot.f k t322 a1).bind fun bt325 => ((laws_eqIntS.f k bt325.1 bt318.1).bind fun t329 => (if t329 = true then (laws_FnExactJoinSpot.j0 k l0 a1 bt318.1 bt318.2 t322 bt325.1 bt325.2 (bt325.2 != bt318.2)) else (laws_FnExactJoinSpot.j0 k l0 a1 bt318.1 bt318.2 t322 bt325.1 bt325.2 true)))))))
theorem laws_FnExactJoinSpot.mono_l : ∀ k, (∀ y0 y1 y2 y3 y4 y5 y6 y7, LeO (laws_FnExactJoinSpot.j0 k y0 y1 y2 y3 y4 y5 y6 y7) (laws_FnExactJoinSpot.j0 (k + 1) y0 y1 y2 y3 y4 y5 y6 y7)) ∧ (∀ y0 y1 y2 y3 y4 y5, LeO (laws_FnExactJoinSpot.j1 k y0 y1 y2 y3 y4 y5) (laws_FnExactJoinSpot.j1 (k + 1) y0 y1 y2 y3 y4 y5)) ∧ (∀ y0 y1 y2, LeO (laws_FnExactJoinSpot.j2 k y0 y1 y2) (laws_FnExactJoinSpot.j2 (k + 1) y0 y1 y2))
 | 0 => ⟨fun _ _ _ _ _ _ _ _ r h => by simp [laws_FnExactJoinSpot.j0] at h, fun _ _ _ _ _ _ r h => by simp [laws_FnExactJoinSpot.j1] at h, fun _ _ _ r h => by simp [laws_FnExactJoinSpot.j2] at h⟩
 | k + 1 => by
  obtain ⟨ih0, ih1, ih2⟩ := laws_FnExactJoinSpot.mono_l k
  refine ⟨?_, ?_, ?_⟩
  ·intro y0 y1 y2 y3 y4 y5 y6 y7
   unfold laws_FnExactJoinSpot.j0
   repeat' first
   | (with_reducible exact ih0 _ _ _ _ _ _ _ _)
   | (with_reducible exact ih1 _ _ _ _ _ _)
   | (with_reducible exact ih2 _ _ _)
   | (with_reducible exact impl_JoinSpot.mono _ _ _)
   | (with_reducible exact laws_eqIntS.mono _ _ _)
   | (with_reducible exact laws_heldIntS.mono _ _ _)
   | (with_reducible exact laws_markIntS.mono _ _ _)
   | (with_reducible exact laws_toIntS.mono _ _)
   | (with_reducible exact spec_JoinSpot.mono _ _ _)
   | (with_reducible exact LeO.refl _)
   | (with_reducible exact LeO.none _)
   | (with_reducible refine LeO.ite ?_ ?_)
   | (with_reducible refine LeO.bind ?_ (fun _ => ?_))
  ·intro y0 y1 y2 y3 y4 y5
   unfold laws_FnExactJoinSpot.j1
   repeat' first
   | (with_reducible exact ih0 _ _ _ _ _ _ _ _)
   | (with_reducible exact ih1 _ _ _ _ _ _)
   | (with_reducible exact ih2 _ _ _)
   | (with_reducible exact impl_JoinSpot.mono _ _ _)
   | (with_reducible exact laws_eqIntS.mono _ _ _)
   | (with_reducible exact laws_heldIntS.mono _ _ _)
   | (with_reducible exact laws_markIntS.mono _ _ _)
   | (with_reducible exact laws_toIntS.mono _ _)
   | (with_reducible exact spec_JoinSpot.mono _ _ _)
   | (with_reducible exact LeO.refl _)
   | (with_reducible exact LeO.none _)
   | (with_reducible refine LeO.ite ?_ ?_)
   | (with_reducible refine LeO.bind ?_ (fun _ => ?_))
  ·intro y0 y1 y2
   unfold laws_FnExactJoinSpot.j2
   repeat' first
   | (with_reducible exact ih0 _ _ _ _ _ _ _ _)
   | (with_reducible exact ih1 _ _ _ _ _ _)
   | (with_reducible exact ih2 _ _ _)
   | (with_reducible exact impl_JoinSpot.mono _ _ _)
   | (with_reducible exact laws_eqIntS.mono _ _ _)
   | (with_reducible exact laws_heldIntS.mono _ _ _)
   | (with_reducible exact laws_markIntS.mono _ _ _)
   | (with_reducible exact laws_toIntS.mono _ _)
   | (with_reducible exact spec_JoinSpot.mono _ _ _)
   | (with_reducible exact LeO.refl _)
   | (with_reducible exact LeO.none _)
   | (with_reducible refine LeO.ite ?_ ?_)
   | (with_reducible refine LeO.bind ?_ (fun _ => ?_))
theorem laws_FnExactJoinSpot.mono : ∀ a0 a1 k, LeO (laws_FnExactJoinSpot.f k a0 a1) (laws_FnExactJoinSpot.f (k + 1) a0 a1) := by
 intro a0 a1 k
 obtain ⟨ih0, ih1, ih2⟩ := laws_FnExactJoinSpot.mono_l k
 unfold laws_FnExactJoinSpot.f
 repeat' first
   | (with_reducible exact ih0 _ _ _ _ _ _ _ _)
   | (with_reducible exact ih1 _ _ _ _ _ _)
   | (with_reducible exact ih2 _ _ _)
   | (with_reducible exact impl_JoinSpot.mono _ _ _)
   | (with_reducible exact laws_eqIntS.mono _ _ _)
   | (with_reducible exact laws_heldIntS.mono _ _ _)
   | (with_reducible exact laws_markIntS.mono _ _ _)
   | (with_reducible exact laws_toIntS.mono _ _)
   | (with_reducible exact spec_JoinSpot.mono _ _ _)
   | (with_reducible exact LeO.refl _)
   | (with_reducible exact LeO.none _)
   | (with_reducible refine LeO.ite ?_ ?_)
   | (with_reducible refine LeO.bind ?_ (fun _ => ?_))
set_option maxHeartbeats 8000000 in
set_option maxRecDepth 100000 in
theorem laws_FnExactJoinSpot.calls (k : Nat) (A0 : Option Addr) (c0 : Nat) (l0 : List Int) (a1 : Int) (r : Bool) (w : World) (hr0 : Kd.C (Kd.int .i64) w A0 l0.length l0) (hc0 : l0.length ≤ c0) (h : laws_FnExactJoinSpot.f k l0 a1 = some r) :
  Calls Try.prog 8 #[.slice A0 l0.length c0, .int .i64 a1] w fun e w' => e = .returned (.bool r) ∧ Below w.heap.size w w' := by
 have HR0 := Aside0.mk hr0
 have HC0 := Aside0.mk hc0
 clear hr0 hc0
 have HB := Aside0.mk (Below.refl w.heap.size w)
 have H : (if (l0.length : Int) > 1048576 then (some true) else ((laws_toIntS.f k l0).bind fun t315 => ((spec_JoinSpot.f k t315 a1).bind fun bt318 => ((laws_toIntS.f k l0).bind fun t322 => ((impl_JoinSpot.f k t322 a1).bind fun bt325 => ((laws_eqIntS.f k bt325.1 bt318.1).bind fun t329 => (if t329 = true then (laws_FnExactJoinSpot.j0 k l0 a1 bt318.1 bt318.2 t322 bt325.1 bt325.2 (bt325.2 != bt318.2)) else (laws_FnExactJoinSpot.j0 k l0 a1 bt318.1 bt318.2 t322 bt325.1 bt325.2 true)))))))) = some r := h
 clear h
 by_cases c3 : (l0.length : Int) > 1048576
 ·rw [if_pos c3] at H
  have c3b0 : decide (1048576 < (l0.length : Int)) = true := decide_eq_true c3
  have c3b1 : decide (1048576 < l0.length) = true := decide_eq_true (by omega)
  clear c3
  obtain rfl := Option.some.inj H
  go_enter Try.func8, Try.ntmps8
  go_wp2
  go_ret
  exact ⟨by first | rfl | (simp [errW_none, errW_some] <;> rfl) | (simp [*, errW_none, errW_some] <;> rfl), by repeat (first | (with_reducible first | exact HB.out | apply below_alloc | apply pw_below_drewN | apply below_drew1) | exact HB.out)⟩
 rw [if_neg c3] at H
 have c3b0 : decide (1048576 < (l0.length : Int)) = false := decide_eq_false c3
 have c3b1 : decide (1048576 < l0.length) = false := decide_eq_false (by omega)
 clear c3
 replace H := Option.bind_eq_some_iff.mp H
 obtain ⟨t315, A40, H⟩ := H
 replace H : ((spec_JoinSpot.f k t315 a1).bind fun bt318 => ((laws_toIntS.f k l0).bind fun t322 => ((impl_JoinSpot.f k t322 a1).bind fun bt325 => ((laws_eqIntS.f k bt325.1 bt318.1).bind fun t329 => (if t329 = true then (laws_FnExactJoinSpot.j0 k l0 a1 bt318.1 bt318.2 t322 bt325.1 bt325.2 (bt325.2 != bt318.2)) else (laws_FnExactJoinSpot.j0 k l0 a1 bt318.1 bt318.2 t322 bt325.1 bt325.2 true)))))) = some r := H
 have A4 := Aside0.mk A40
 clear A40
 replace H := Option.bind_eq_some_iff.mp H
 obtain ⟨⟨t318, t321⟩, A50, H⟩ := H
 replace H : ((laws_toIntS.f k l0).bind fun t322 => ((impl_JoinSpot.f k t322 a1).bind fun bt325 => ((laws_eqIntS.f k bt325.1 t318).bind fun t329 => (if t329 = true then (laws_FnExactJoinSpot.j0 k l0 a1 t318 t321 t322 bt325.1 bt325.2 (bt325.2 != t321)) else (laws_FnExactJoinSpot.j0 k l0 a1 t318 t321 t322 bt325.1 bt325.2 true))))) = some r := H
 have A5 := Aside0.mk A50
 clear A50
 replace H := Option.bind_eq_some_iff.mp H
 obtain ⟨t322, A60, H⟩ := H
 replace H : ((impl_JoinSpot.f k t322 a1).bind fun bt325 => ((laws_eqIntS.f k bt325.1 t318).bind fun t329 => (if t329 = true then (laws_FnExactJoinSpot.j0 k l0 a1 t318 t321 t322 bt325.1 bt325.2 (bt325.2 != t321)) else (laws_FnExactJoinSpot.j0 k l0 a1 t318 t321 t322 bt325.1 bt325.2 true)))) = some r := H
 have A6 := Aside0.mk A60
 clear A60
 replace H := Option.bind_eq_some_iff.mp H
 obtain ⟨⟨t325, t326⟩, A70, H⟩ := H
 replace H : ((laws_eqIntS.f k t325 t318).bind fun t329 => (if t329 = true then (laws_FnExactJoinSpot.j0 k l0 a1 t318 t321 t322 t325 t326 (t326 != t321)) else (laws_FnExactJoinSpot.j0 k l0 a1 t318 t321 t322 t325 t326 true))) = some r := H
 have A7 := Aside0.mk A70
 clear A70
 have HC8 := Aside0.mk H
 clear H
 go_enter Try.func8, Try.ntmps8
 go_upto_region 6 with (first | ((with_reducible refine gate_callee (f := 18) rfl ?_); refine goesL_ (some 20) rfl rfl Try.func18 (by kernel_rfl) rfl #[.slice A0 l0.length c0] rfl tm_ ?_; (with_reducible refine (laws_toIntS.calls k _ _ l0 t315 _ ?side1 ?side2 A4.out).mono ?_); (case side1 => exact ca HR0.out); (case side2 => exact HC0.out); rintro e w9 ⟨v316, rfl, ho0, hb⟩; refine ⟨_, rfl, ?_⟩; have HO317 := Aside0.mk (Kd.R_lower ho0 (below_size (hB HB))); replace HB := bst_ HB hb; clear hb ho0; obtain ⟨Ao10, co10, eo10⟩ := Kd.R_slice HO317.out; subst eo10) | ((with_reducible refine gate_callee (f := 43) rfl ?_); refine goesL_ (some 22) rfl rfl Try.func43 (by kernel_rfl) rfl #[.slice Ao10 t315.length co10, .int .i64 a1] rfl tm_ ?_; (with_reducible refine (spec_JoinSpot.calls k (fun k_ => some k_ = (.slice Ao10 t315.length co10 : Value).ownBlock) (.slice Ao10 t315.length co10) t315 a1 t318 t321 w _ ?side1 ?side2 A5.out).mono ?_); (case side1 => repeat (first | (with_reducible first | exact HB.out | apply below_alloc | apply pw_below_drewN | apply below_drew1) | exact HB.out)); (case side2 => exact Kd.R_tight rfl HO317.out); rintro e w11 ⟨v319, rfl, ho0, hb, hkp⟩; refine ⟨_, rfl, ?_⟩; have HO320 := Aside0.mk (Kd.R_mono (ok' := fun k_ => True) ho0 (fun k_ hk_ => trivial)); replace HB := Aside0.mk (hb); clear HO317; clear hb ho0) | ((with_reducible refine gate_callee (f := 18) rfl ?_); refine goesL_ (some 26) rfl rfl Try.func18 (by kernel_rfl) rfl #[.slice A0 l0.length c0] rfl tm_ ?_; (with_reducible refine (laws_toIntS.calls k _ _ l0 t322 _ ?side1 ?side2 A6.out).mono ?_); (case side1 => exact ca (Kd.C_below HR0.out HB.out)); (case side2 => exact HC0.out); rintro e w12 ⟨v323, rfl, ho0, hb⟩; refine ⟨_, rfl, ?_⟩; have HO324 := Aside0.mk (Kd.R_lower (Kd.R_new' ho0 (rl_ HO320)) (below_size (hB HB))); replace HO320 := re_ HO320 ho0 hb; replace HB := bst_ HB hb; clear hb ho0; obtain ⟨Ao13, co13, eo13⟩ := Kd.R_slice HO324.out; subst eo13) | ((with_reducible refine gate_callee (f := 44) rfl ?_); refine goesL_ (some 30) rfl rfl Try.func44 (by kernel_rfl) rfl #[.slice Ao13 t322.length co13, .int .i64 a1] rfl tm_ ?_; (with_reducible refine (impl_JoinSpot.calls k _ _ t322 a1 t325 t326 _ ?side1 ?side2 A7.out).mono ?_); (case side1 => exact ca (Kd.R_reads' HO324.out).2.2); (case side2 => exact (Kd.R_reads' HO324.out).2.1); rintro e w14 ⟨v327, rfl, ho0, hb⟩; refine ⟨_, rfl, ?_⟩; have HO328 := Aside0.mk (Kd.R_lower (Kd.R_new' (Kd.R_new' ho0 (rl_ HO320)) (rl_ HO324)) (below_size (hB HB))); replace HO320 := re_ HO320 ho0 hb; replace HO324 := re_ HO324 ho0 hb; replace HB := bst_ HB hb; clear hb ho0))
 (try simp only [Act.put, List.setIfInBounds_toArray, List.set_cons_zero, List.set_cons_succ])
 go_cut [41] (fun v41 wc => ∃ (kq : Nat) (x41_7 : Bool), v41 = .bool x41_7 ∧ Aside0 (laws_FnExactJoinSpot.j0 kq l0 a1 t318 t321 t322 t325 t326 x41_7 = some r) ∧ Aside0 (kq ≤ k) ∧ Aside0 (Kd.R (Kd.int .i64) 3 wc w.heap.size (fun k_ => no_ (.slice Ao13 t322.length co13) k_ ∧ no_ v327 k_) v319 t318) ∧ Aside0 (Kd.R (Kd.int .i64) 3 wc w.heap.size (fun k_ => no_ v319 k_ ∧ no_ v327 k_) (.slice Ao13 t322.length co13) t322) ∧ Aside0 (Kd.R (Kd.int .i64) 3 wc w.heap.size (fun k_ => no_ v319 k_ ∧ no_ (.slice Ao13 t322.length co13) k_) v327 t325) ∧ Aside0 (Below w.heap.size w wc))
 case first =>
  have H := HC8.out
  clear HC8
  replace H := Option.bind_eq_some_iff.mp H
  obtain ⟨t329, A150, H⟩ := H
  replace H : (if t329 = true then (laws_FnExactJoinSpot.j0 k l0 a1 t318 t321 t322 t325 t326 (t326 != t321)) else (laws_FnExactJoinSpot.j0 k l0 a1 t318 t321 t322 t325 t326 true)) = some r := H
  have A15 := Aside0.mk A150
  clear A150
  by_cases c16 : t329 = true
  ·subst c16
   rw [if_pos rfl] at H
   have H' := Aside0.mk H
   clear H
   obtain ⟨Ao17, co17, eo17⟩ := Kd.R_slice HO328.out
   subst eo17
   obtain ⟨Ao18, co18, eo18⟩ := Kd.R_slice HO320.out
   subst eo18
   go_wp2_with (first | ((with_reducible refine gate_callee (f := 21) rfl ?_); refine goesL_ (some 35) rfl rfl Try.func21 (by kernel_rfl) rfl #[.slice Ao17 t325.length co17, .slice Ao18 t318.length co18] rfl tm_ ?_; (with_reducible refine (laws_eqIntS.calls k _ _ t325 _ _ t318 true _ ?side1 ?side2 ?side3 ?side4 A15.out).mono ?_); (case side1 => exact ca (Kd.R_reads' HO328.out).2.2); (case side2 => exact (Kd.R_reads' HO328.out).2.1); (case side3 => exact ca (Kd.R_reads' HO320.out).2.2); (case side4 => exact (Kd.R_reads' HO320.out).2.1); rintro e w' ⟨rfl, ⟨nd, rfl⟩⟩; refine ⟨_, rfl, ?_⟩))
   go_meet
   case rel => exact ⟨_, ((t326 != t321)), (by first | rfl | (simp; done) | (simp [*]; done)), H', ⟨by first | omega | exact Nat.le_refl _⟩, rm_ HO320 (fun _ hk => ⟨hk.1.2, hk.2⟩), rm_ HO324 (fun _ hk => ⟨hk.1.2, hk.2⟩), rm_ HO328 (fun _ hk => ⟨hk.1.2, hk.2⟩), ⟨hB HB⟩⟩
  replace c16 := Bool.eq_false_iff.mpr c16
  subst c16
  rw [if_neg (show ¬ (false = true) by decide)] at H
  have H' := Aside0.mk H
  clear H
  obtain ⟨Ao19, co19, eo19⟩ := Kd.R_slice HO328.out
  subst eo19
  obtain ⟨Ao20, co20, eo20⟩ := Kd.R_slice HO320.out
  subst eo20
  go_wp2_with (first | ((with_reducible refine gate_callee (f := 21) rfl ?_); refine goesL_ (some 35) rfl rfl Try.func21 (by kernel_rfl) rfl #[.slice Ao19 t325.length co19, .slice Ao20 t318.length co20] rfl tm_ ?_; (with_reducible refine (laws_eqIntS.calls k _ _ t325 _ _ t318 false _ ?side1 ?side2 ?side3 ?side4 A15.out).mono ?_); (case side1 => exact ca (Kd.R_reads' HO328.out).2.2); (case side2 => exact (Kd.R_reads' HO328.out).2.1); (case side3 => exact ca (Kd.R_reads' HO320.out).2.2); (case side4 => exact (Kd.R_reads' HO320.out).2.1); rintro e w' ⟨rfl, ⟨nd, rfl⟩⟩; refine ⟨_, rfl, ?_⟩))
  go_meet
  case rel => exact ⟨_, (true), (by first | rfl | (simp; done) | (simp [*]; done)), H', ⟨by first | omega | exact Nat.le_refl _⟩, rm_ HO320 (fun _ hk => ⟨hk.1.2, hk.2⟩), rm_ HO324 (fun _ hk => ⟨hk.1.2, hk.2⟩), rm_ HO328 (fun _ hk => ⟨hk.1.2, hk.2⟩), ⟨hB HB⟩⟩
 case rest =>
  clear HC8
  try clear c3
  try clear c3b0
  try clear c3b1
  obtain ⟨kq, x41_7, rfl, HA, HJ7, HO_5, HO_7, HO_8, HB⟩ := hcut
  cases kq with
  | zero => exact absurd HA.out (by simp [laws_FnExactJoinSpot.j0])
  | succ kj7 =>
   have H := HA.out
   clear HA
   simp only [laws_FnExactJoinSpot.j0] at H
   by_cases c21 : x41_7 = true
   ·subst c21
    rw [if_pos rfl] at H
    obtain rfl := Option.some.inj H
    go_wp2
    go_ret
    exact ⟨by first | rfl | (simp [errW_none, errW_some] <;> rfl) | (simp [*, errW_none, errW_some] <;> rfl), by repeat (first | (with_reducible first | exact HB.out | apply below_alloc | apply pw_below_drewN | apply below_drew1) | exact HB.out)⟩
   replace c21 := Bool.eq_false_iff.mpr c21
   subst c21
   rw [if_neg (show ¬ (false = true) by decide)] at H
   replace H := Option.bind_eq_some_iff.mp H
   obtain ⟨t330, A220, H⟩ := H
   replace H : ((laws_eqIntS.f kj7 t322 t330).bind fun t333 => (if t333 = true then ((laws_markIntS.f kj7 t322 1).bind fun bt334 => (if bt334.1 < 0 then (laws_FnExactJoinSpot.j1 kj7 l0 a1 t318 t321 t325 true) else ((laws_eqIntS.f kj7 t325 t318).bind fun t336 => (if t336 = true then (laws_FnExactJoinSpot.j1 kj7 l0 a1 t318 t321 t325 (t326 != t321)) else (laws_FnExactJoinSpot.j1 kj7 l0 a1 t318 t321 t325 true))))) else (some false))) = some r := H
   have A22 := Aside0.mk A220
   clear A220
   replace H := Option.bind_eq_some_iff.mp H
   obtain ⟨t333, A230, H⟩ := H
   replace H : (if t333 = true then ((laws_markIntS.f kj7 t322 1).bind fun bt334 => (if bt334.1 < 0 then (laws_FnExactJoinSpot.j1 kj7 l0 a1 t318 t321 t325 true) else ((laws_eqIntS.f kj7 t325 t318).bind fun t336 => (if t336 = true then (laws_FnExactJoinSpot.j1 kj7 l0 a1 t318 t321 t325 (t326 != t321)) else (laws_FnExactJoinSpot.j1 kj7 l0 a1 t318 t321 t325 true))))) else (some false)) = some r := H
   have A23 := Aside0.mk A230
   clear A230
   by_cases c24 : t333 = true
   rotate_left
   ·replace c24 := Bool.eq_false_iff.mpr c24
    subst c24
    rw [if_neg (show ¬ (false = true) by decide)] at H
    obtain rfl := Option.some.inj H
    go_wp2_with (first | ((with_reducible refine gate_callee (f := 18) rfl ?_); refine goesL_ (some 44) rfl rfl Try.func18 (by kernel_rfl) rfl #[.slice A0 l0.length c0] rfl tm_ ?_; (with_reducible refine (laws_toIntS.calls kj7 _ _ l0 t330 _ ?side1 ?side2 A22.out).mono ?_); (case side1 => exact ca (Kd.C_below HR0.out HB.out)); (case side2 => exact HC0.out); rintro e w64 ⟨v331, rfl, ho0, hb⟩; refine ⟨_, rfl, ?_⟩; have HO332 := Aside0.mk (Kd.R_lower (Kd.R_new' (Kd.R_new' (Kd.R_new' ho0 (rl_ HO_5)) (rl_ HO_7)) (rl_ HO_8)) (below_size (hB HB))); replace HO_5 := re_ HO_5 ho0 hb; replace HO_7 := re_ HO_7 ho0 hb; replace HO_8 := re_ HO_8 ho0 hb; replace HB := bst_ HB hb; clear hb ho0; obtain ⟨Ao65, co65, eo65⟩ := Kd.R_slice HO332.out; subst eo65) | ((with_reducible refine gate_callee (f := 21) rfl ?_); refine goesL_ (some 45) rfl rfl Try.func21 (by kernel_rfl) rfl #[.slice Ao13 t322.length co13, .slice Ao65 t330.length co65] rfl tm_ ?_; (with_reducible refine (laws_eqIntS.calls kj7 _ _ t322 _ _ t330 false _ ?side1 ?side2 ?side3 ?side4 A23.out).mono ?_); (case side1 => exact ca (Kd.R_reads' HO_7.out).2.2); (case side2 => exact (Kd.R_reads' HO_7.out).2.1); (case side3 => exact ca (Kd.R_reads' HO332.out).2.2); (case side4 => exact (Kd.R_reads' HO332.out).2.1); rintro e w' ⟨rfl, ⟨nd, rfl⟩⟩; refine ⟨_, rfl, ?_⟩))
    go_ret
    exact ⟨by first | rfl | (simp [errW_none, errW_some] <;> rfl) | (simp [*, errW_none, errW_some] <;> rfl), by repeat (first | (with_reducible first | exact HB.out | apply below_alloc | apply pw_below_drewN | apply below_drew1) | exact HB.out)⟩
   subst c24
   rw [if_pos rfl] at H
   replace H := Option.bind_eq_some_iff.mp H
   obtain ⟨⟨t334, t335⟩, A250, H⟩ := H
   replace H : (if t334 < 0 then (laws_FnExactJoinSpot.j1 kj7 l0 a1 t318 t321 t325 true) else ((laws_eqIntS.f kj7 t325 t318).bind fun t336 => (if t336 = true then (laws_FnExactJoinSpot.j1 kj7 l0 a1 t318 t321 t325 (t326 != t321)) else (laws_FnExactJoinSpot.j1 kj7 l0 a1 t318 t321 t325 true)))) = some r := H
   have A25 := Aside0.mk A250
   clear A250
   have HC26 := Aside0.mk H
   clear H
   go_upto_region 12 with (first | ((with_reducible refine gate_callee (f := 18) rfl ?_); refine goesL_ (some 44) rfl rfl Try.func18 (by kernel_rfl) rfl #[.slice A0 l0.length c0] rfl tm_ ?_; (with_reducible refine (laws_toIntS.calls kj7 _ _ l0 t330 _ ?side1 ?side2 A22.out).mono ?_); (case side1 => exact ca (Kd.C_below HR0.out HB.out)); (case side2 => exact HC0.out); rintro e w27 ⟨v331, rfl, ho0, hb⟩; refine ⟨_, rfl, ?_⟩; have HO332 := Aside0.mk (Kd.R_lower (Kd.R_new' (Kd.R_new' (Kd.R_new' ho0 (rl_ HO_5)) (rl_ HO_7)) (rl_ HO_8)) (below_size (hB HB))); replace HO_5 := re_ HO_5 ho0 hb; replace HO_7 := re_ HO_7 ho0 hb; replace HO_8 := re_ HO_8 ho0 hb; replace HB := bst_ HB hb; clear hb ho0; obtain ⟨Ao28, co28, eo28⟩ := Kd.R_slice HO332.out; subst eo28) | ((with_reducible refine gate_callee (f := 21) rfl ?_); refine goesL_ (some 45) rfl rfl Try.func21 (by kernel_rfl) rfl #[.slice Ao13 t322.length co13, .slice Ao28 t330.length co28] rfl tm_ ?_; (with_reducible refine (laws_eqIntS.calls kj7 _ _ t322 _ _ t330 true _ ?side1 ?side2 ?side3 ?side4 A23.out).mono ?_); (case side1 => exact ca (Kd.R_reads' HO_7.out).2.2); (case side2 => exact (Kd.R_reads' HO_7.out).2.1); (case side3 => exact ca (Kd.R_reads' HO332.out).2.2); (case side4 => exact (Kd.R_reads' HO332.out).2.1); rintro e w' ⟨rfl, ⟨nd, rfl⟩⟩; refine ⟨_, rfl, ?_⟩) | ((with_reducible refine gate_callee (f := 23) rfl ?_); refine goesL_ (some 49) rfl rfl Try.func23 (by kernel_rfl) rfl #[.slice Ao13 t322.length co13, .int .i64 1] rfl tm_ ?_; (with_reducible refine (laws_markIntS.calls kj7 (fun k_ => some k_ = (.slice Ao13 t322.length co13 : Value).ownBlock) (.slice Ao13 t322.length co13) t322 1 t334 t335 w _ ?side1 ?side2 A25.out).mono ?_); (case side1 => repeat (first | (with_reducible first | exact HB.out | apply below_alloc | apply pw_below_drewN | apply below_drew1) | exact HB.out)); (case side2 => exact Kd.R_tight rfl HO_7.out); rintro e w29 ⟨rfl, hy0, hb, hkp⟩; refine ⟨_, rfl, ?_⟩; replace HO_5 := Aside0.mk (Kd.R_mono (ok' := fun k_ => no_ (.slice Ao13 t322.length co13) k_ ∧ no_ v327 k_ ∧ no_ (.slice Ao28 t330.length co28) k_) (Kd.R_keptB (HO_5.out) hkp (fun k_ hk_ hs_ => (hk_.1.1) hs_)) (fun k_ hk_ => ⟨hk_.1.1.1, hk_.1.1.2, hk_.1.2⟩)); replace HO_7 := Aside0.mk (Kd.R_reok rfl hy0 (fun k_ e_ => HO_7.out.1 k_ e_)); replace HO_8 := Aside0.mk (Kd.R_mono (ok' := fun k_ => no_ v319 k_ ∧ no_ (.slice Ao13 t322.length co13) k_ ∧ no_ (.slice Ao28 t330.length co28) k_) (Kd.R_keptB (HO_8.out) hkp (fun k_ hk_ hs_ => (hk_.1.2) hs_)) (fun k_ hk_ => ⟨hk_.1.1.1, hk_.1.1.2, hk_.1.2⟩)); replace HO332 := Aside0.mk (Kd.R_mono (ok' := fun k_ => no_ v319 k_ ∧ no_ (.slice Ao13 t322.length co13) k_ ∧ no_ v327 k_) (Kd.R_keptB (HO332.out) hkp (fun k_ hk_ hs_ => (hk_.1.2) hs_)) (fun k_ hk_ => ⟨hk_.1.1.1.2, hk_.1.1.2, hk_.1.2⟩)); replace HB := Aside0.mk (hb); clear hb))
   (try simp only [Act.put, List.setIfInBounds_toArray, List.set_cons_zero, List.set_cons_succ])
   go_cut [62] (fun v62 wc => ∃ (kq : Nat) (x62_25 : Bool), v62 = .bool x62_25 ∧ Aside0 (laws_FnExactJoinSpot.j1 kq l0 a1 t318 t321 t325 x62_25 = some r) ∧ Aside0 (kq ≤ kj7) ∧ Aside0 (Kd.R (Kd.int .i64) 3 wc w.heap.size (fun k_ => no_ v327 k_) v319 t318) ∧ Aside0 (Kd.R (Kd.int .i64) 3 wc w.heap.size (fun k_ => no_ v319 k_) v327 t325) ∧ Aside0 (Below w.heap.size w wc))
   case first =>
    have H := HC26.out
    clear HC26
    by_cases c30 : t334 < 0
    ·rw [if_pos c30] at H
     have c30b0 : decide (t334 < 0) = true := decide_eq_true c30
     clear c30
     (first | rw [c30b0] | (simp only [i64_w, i32_w]; rw [c30b0]) | skip)
     have H' := Aside0.mk H
     clear H
     go_wp2
     go_meet
     case rel => exact ⟨_, (true), (by first | rfl | (simp; done) | (simp [*]; done)), H', ⟨by have := HJ7.out; first | omega | exact Nat.le_refl _⟩, rm_ HO_5 (fun _ hk => hk.2.1), rm_ HO_8 (fun _ hk => hk.1), ⟨hB HB⟩⟩
    rw [if_neg c30] at H
    have c30b0 : decide (t334 < 0) = false := decide_eq_false c30
    clear c30
    (first | rw [c30b0] | (simp only [i64_w, i32_w]; rw [c30b0]) | skip)
    replace H := Option.bind_eq_some_iff.mp H
    obtain ⟨t336, A310, H⟩ := H
    replace H : (if t336 = true then (laws_FnExactJoinSpot.j1 kj7 l0 a1 t318 t321 t325 (t326 != t321)) else (laws_FnExactJoinSpot.j1 kj7 l0 a1 t318 t321 t325 true)) = some r := H
    have A31 := Aside0.mk A310
    clear A310
    by_cases c32 : t336 = true
    ·subst c32
     rw [if_pos rfl] at H
     have H' := Aside0.mk H
     clear H
     obtain ⟨Ao33, co33, eo33⟩ := Kd.R_slice HO_8.out
     subst eo33
     obtain ⟨Ao34, co34, eo34⟩ := Kd.R_slice HO_5.out
     subst eo34
     go_wp2_with (first | (go_at_call 21; (with_reducible refine (laws_eqIntS.calls kj7 _ _ t325 _ _ t318 true _ ?side1 ?side2 ?side3 ?side4 A31.out).mono ?_); (case side1 => exact ca (Kd.R_reads' HO_8.out).2.2); (case side2 => exact (Kd.R_reads' HO_8.out).2.1); (case side3 => exact ca (Kd.R_reads' HO_5.out).2.2); (case side4 => exact (Kd.R_reads' HO_5.out).2.1); rintro e w' ⟨rfl, ⟨nd, rfl⟩⟩))
     go_meet
     case rel => exact ⟨_, ((t326 != t321)), (by first | rfl | (simp; done) | (simp [*]; done)), H', ⟨by have := HJ7.out; first | omega | exact Nat.le_refl _⟩, rm_ HO_5 (fun _ hk => hk.2.1), rm_ HO_8 (fun _ hk => hk.1), ⟨hB HB⟩⟩
    replace c32 := Bool.eq_false_iff.mpr c32
    subst c32
    rw [if_neg (show ¬ (false = true) by decide)] at H
    have H' := Aside0.mk H
    clear H
    obtain ⟨Ao35, co35, eo35⟩ := Kd.R_slice HO_8.out
    subst eo35
    obtain ⟨Ao36, co36, eo36⟩ := Kd.R_slice HO_5.out
    subst eo36
    go_wp2_with (first | (go_at_call 21; (with_reducible refine (laws_eqIntS.calls kj7 _ _ t325 _ _ t318 false _ ?side1 ?side2 ?side3 ?side4 A31.out).mono ?_); (case side1 => exact ca (Kd.R_reads' HO_8.out).2.2); (case side2 => exact (Kd.R_reads' HO_8.out).2.1); (case side3 => exact ca (Kd.R_reads' HO_5.out).2.2); (case side4 => exact (Kd.R_reads' HO_5.out).2.1); rintro e w' ⟨rfl, ⟨nd, rfl⟩⟩))
    go_meet
    case rel => exact ⟨_, (true), (by first | rfl | (simp; done) | (simp [*]; done)), H', ⟨by have := HJ7.out; first | omega | exact Nat.le_refl _⟩, rm_ HO_5 (fun _ hk => hk.2.1), rm_ HO_8 (fun _ hk => hk.1), ⟨hB HB⟩⟩
   case rest =>
    clear HC26
    try clear c3
    try clear c3b0
    try clear c3b1
    try clear c21
    try clear c24
    obtain ⟨kq, x62_25, rfl, HA, HJ25, HO_5, HO_8, HB⟩ := hcut
    cases kq with
    | zero => exact absurd HA.out (by simp [laws_FnExactJoinSpot.j1])
    | succ kj25 =>
     have H := HA.out
     clear HA
     simp only [laws_FnExactJoinSpot.j1] at H
     by_cases c37 : x62_25 = true
     ·subst c37
      rw [if_pos rfl] at H
      obtain rfl := Option.some.inj H
      go_wp2
      go_ret
      exact ⟨by first | rfl | (simp [errW_none, errW_some] <;> rfl) | (simp [*, errW_none, errW_some] <;> rfl), by repeat (first | (with_reducible first | exact HB.out | apply below_alloc | apply pw_below_drewN | apply below_drew1) | exact HB.out)⟩
     replace c37 := Bool.eq_false_iff.mpr c37
     subst c37
     rw [if_neg (show ¬ (false = true) by decide)] at H
     replace H := Option.bind_eq_some_iff.mp H
     obtain ⟨⟨t337, t338⟩, A380, H⟩ := H
     replace H : ((laws_heldIntS.f kj25 t338 1).bind fun t339 => (if t339 < 0 then (some false) else (if t339 = t337 then ((laws_toIntS.f kj25 l0).bind fun t340 => ((impl_JoinSpot.f kj25 t340 a1).bind fun bt343 => ((laws_eqIntS.f kj25 bt343.1 t318).bind fun t347 => (if t347 = true then (laws_FnExactJoinSpot.j2 kj25 t338 t337 (bt343.2 != t321)) else (laws_FnExactJoinSpot.j2 kj25 t338 t337 true))))) else (some false)))) = some r := H
     have A38 := Aside0.mk A380
     clear A380
     replace H := Option.bind_eq_some_iff.mp H
     obtain ⟨t339, A390, H⟩ := H
     replace H : (if t339 < 0 then (some false) else (if t339 = t337 then ((laws_toIntS.f kj25 l0).bind fun t340 => ((impl_JoinSpot.f kj25 t340 a1).bind fun bt343 => ((laws_eqIntS.f kj25 bt343.1 t318).bind fun t347 => (if t347 = true then (laws_FnExactJoinSpot.j2 kj25 t338 t337 (bt343.2 != t321)) else (laws_FnExactJoinSpot.j2 kj25 t338 t337 true))))) else (some false))) = some r := H
     have A39 := Aside0.mk A390
     clear A390
     by_cases c40 : t339 < 0
     ·rw [if_pos c40] at H
      have c40b0 : decide (t339 < 0) = true := decide_eq_true c40
      clear c40
      obtain rfl := Option.some.inj H
      obtain ⟨Ao41, co41, eo41⟩ := Kd.R_slice HO_8.out
      subst eo41
      go_wp2_with (first | ((with_reducible refine gate_callee (f := 23) rfl ?_); refine goesL_ (some 65) rfl rfl Try.func23 (by kernel_rfl) rfl #[.slice Ao41 t325.length co41, .int .i64 1] rfl tm_ ?_; (with_reducible refine (laws_markIntS.calls kj25 (fun k_ => some k_ = (.slice Ao41 t325.length co41 : Value).ownBlock) (.slice Ao41 t325.length co41) t325 1 t337 t338 w _ ?side1 ?side2 A38.out).mono ?_); (case side1 => repeat (first | (with_reducible first | exact HB.out | apply below_alloc | apply pw_below_drewN | apply below_drew1) | exact HB.out)); (case side2 => exact Kd.R_tight rfl HO_8.out); rintro e w42 ⟨rfl, hy0, hb, hkp⟩; refine ⟨_, rfl, ?_⟩; replace HO_5 := Aside0.mk (Kd.R_mono (ok' := fun k_ => no_ (.slice Ao41 t325.length co41) k_) (Kd.R_keptB (HO_5.out) hkp (fun k_ hk_ hs_ => (hk_) hs_)) (fun k_ hk_ => hk_.1)); replace HO_8 := Aside0.mk (Kd.R_reok rfl hy0 (fun k_ e_ => HO_8.out.1 k_ e_)); replace HB := Aside0.mk (hb); clear hb) | ((with_reducible refine gate_callee (f := 27) rfl ?_); refine goesL_ (some 68) rfl rfl Try.func27 (by kernel_rfl) rfl #[.slice Ao41 t338.length co41, .int .i64 1] rfl (by (try simp only [List.map_toArray, List.map_cons, List.map_nil]); first | done | (rw [show t338.length = t325.length from (Kd.R_reads' HO_8.out).1.symm] <;> rfl) | rfl | (simp only [List.length_drop, List.length_take]; rfl)) ?_; (with_reducible refine (laws_heldIntS.calls kj25 _ _ t338 1 t339 _ ?side1 ?side2 A39.out).mono ?_); (case side1 => exact ca (Kd.R_reads' HO_8.out).2.2); (case side2 => rw [show t338.length = t325.length from (Kd.R_reads' HO_8.out).1.symm]; exact (Kd.R_reads' HO_8.out).2.1); rintro e w' ⟨rfl, ⟨nd, rfl⟩⟩; refine ⟨_, rfl, ?_⟩))
      go_ret
      exact ⟨by first | rfl | (simp [errW_none, errW_some] <;> rfl) | (simp [*, errW_none, errW_some] <;> rfl), by repeat (first | (with_reducible first | exact HB.out | apply below_alloc | apply pw_below_drewN | apply below_drew1) | exact HB.out)⟩
     rw [if_neg c40] at H
     have c40b0 : decide (t339 < 0) = false := decide_eq_false c40
     clear c40
     by_cases c43 : t339 = t337
     rotate_left
     ·rw [if_neg c43] at H
      have c43b0 : (t339 == t337) = false := beq_eq_false_iff_ne.mpr c43
      have c43b1 : (t339 != t337) = true := bne_iff_ne.mpr c43
      obtain rfl := Option.some.inj H
      obtain ⟨Ao62, co62, eo62⟩ := Kd.R_slice HO_8.out
      subst eo62
      go_wp2_with (first | ((with_reducible refine gate_callee (f := 23) rfl ?_); refine goesL_ (some 65) rfl rfl Try.func23 (by kernel_rfl) rfl #[.slice Ao62 t325.length co62, .int .i64 1] rfl tm_ ?_; (with_reducible refine (laws_markIntS.calls kj25 (fun k_ => some k_ = (.slice Ao62 t325.length co62 : Value).ownBlock) (.slice Ao62 t325.length co62) t325 1 t337 t338 w _ ?side1 ?side2 A38.out).mono ?_); (case side1 => repeat (first | (with_reducible first | exact HB.out | apply below_alloc | apply pw_below_drewN | apply below_drew1) | exact HB.out)); (case side2 => exact Kd.R_tight rfl HO_8.out); rintro e w63 ⟨rfl, hy0, hb, hkp⟩; refine ⟨_, rfl, ?_⟩; replace HO_5 := Aside0.mk (Kd.R_mono (ok' := fun k_ => no_ (.slice Ao62 t325.length co62) k_) (Kd.R_keptB (HO_5.out) hkp (fun k_ hk_ hs_ => (hk_) hs_)) (fun k_ hk_ => hk_.1)); replace HO_8 := Aside0.mk (Kd.R_reok rfl hy0 (fun k_ e_ => HO_8.out.1 k_ e_)); replace HB := Aside0.mk (hb); clear hb) | ((with_reducible refine gate_callee (f := 27) rfl ?_); refine goesL_ (some 68) rfl rfl Try.func27 (by kernel_rfl) rfl #[.slice Ao62 t338.length co62, .int .i64 1] rfl (by (try simp only [List.map_toArray, List.map_cons, List.map_nil]); first | done | (rw [show t338.length = t325.length from (Kd.R_reads' HO_8.out).1.symm] <;> rfl) | rfl | (simp only [List.length_drop, List.length_take]; rfl)) ?_; (with_reducible refine (laws_heldIntS.calls kj25 _ _ t338 1 t339 _ ?side1 ?side2 A39.out).mono ?_); (case side1 => exact ca (Kd.R_reads' HO_8.out).2.2); (case side2 => rw [show t338.length = t325.length from (Kd.R_reads' HO_8.out).1.symm]; exact (Kd.R_reads' HO_8.out).2.1); rintro e w' ⟨rfl, ⟨nd, rfl⟩⟩; refine ⟨_, rfl, ?_⟩))
      go_ret
      exact ⟨by first | rfl | (simp [errW_none, errW_some] <;> rfl) | (simp [*, errW_none, errW_some] <;> rfl), by repeat (first | (with_reducible first | exact HB.out | apply below_alloc | apply pw_below_drewN | apply below_drew1) | exact HB.out)⟩
     rw [if_pos c43] at H
     have c43b0 : (t339 == t337) = true := beq_iff_eq.mpr c43
     have c43b1 : (t339 != t337) = false := bne_eq_false_iff_eq.mpr c43
     clear c43
     replace H := Option.bind_eq_some_iff.mp H
     obtain ⟨t340, A440, H⟩ := H
     replace H : ((impl_JoinSpot.f kj25 t340 a1).bind fun bt343 => ((laws_eqIntS.f kj25 bt343.1 t318).bind fun t347 => (if t347 = true then (laws_FnExactJoinSpot.j2 kj25 t338 t337 (bt343.2 != t321)) else (laws_FnExactJoinSpot.j2 kj25 t338 t337 true)))) = some r := H
     have A44 := Aside0.mk A440
     clear A440
     replace H := Option.bind_eq_some_iff.mp H
     obtain ⟨⟨t343, t344⟩, A450, H⟩ := H
     replace H : ((laws_eqIntS.f kj25 t343 t318).bind fun t347 => (if t347 = true then (laws_FnExactJoinSpot.j2 kj25 t338 t337 (t344 != t321)) else (laws_FnExactJoinSpot.j2 kj25 t338 t337 true))) = some r := H
     have A45 := Aside0.mk A450
     clear A450
     have HC46 := Aside0.mk H
     clear H
     obtain ⟨Ao47, co47, eo47⟩ := Kd.R_slice HO_8.out
     subst eo47
     go_upto_region 23 with (first | ((with_reducible refine gate_callee (f := 23) rfl ?_); refine goesL_ (some 65) rfl rfl Try.func23 (by kernel_rfl) rfl #[.slice Ao47 t325.length co47, .int .i64 1] rfl tm_ ?_; (with_reducible refine (laws_markIntS.calls kj25 (fun k_ => some k_ = (.slice Ao47 t325.length co47 : Value).ownBlock) (.slice Ao47 t325.length co47) t325 1 t337 t338 w _ ?side1 ?side2 A38.out).mono ?_); (case side1 => repeat (first | (with_reducible first | exact HB.out | apply below_alloc | apply pw_below_drewN | apply below_drew1) | exact HB.out)); (case side2 => exact Kd.R_tight rfl HO_8.out); rintro e w48 ⟨rfl, hy0, hb, hkp⟩; refine ⟨_, rfl, ?_⟩; replace HO_5 := Aside0.mk (Kd.R_mono (ok' := fun k_ => no_ (.slice Ao47 t325.length co47) k_) (Kd.R_keptB (HO_5.out) hkp (fun k_ hk_ hs_ => (hk_) hs_)) (fun k_ hk_ => hk_.1)); replace HO_8 := Aside0.mk (Kd.R_reok rfl hy0 (fun k_ e_ => HO_8.out.1 k_ e_)); replace HB := Aside0.mk (hb); clear hb) | ((with_reducible refine gate_callee (f := 27) rfl ?_); refine goesL_ (some 68) rfl rfl Try.func27 (by kernel_rfl) rfl #[.slice Ao47 t338.length co47, .int .i64 1] rfl (by (try simp only [List.map_toArray, List.map_cons, List.map_nil]); first | done | (rw [show t338.length = t325.length from (Kd.R_reads' HO_8.out).1.symm] <;> rfl) | rfl | (simp only [List.length_drop, List.length_take]; rfl)) ?_; (with_reducible refine (laws_heldIntS.calls kj25 _ _ t338 1 t339 _ ?side1 ?side2 A39.out).mono ?_); (case side1 => exact ca (Kd.R_reads' HO_8.out).2.2); (case side2 => rw [show t338.length = t325.length from (Kd.R_reads' HO_8.out).1.symm]; exact (Kd.R_reads' HO_8.out).2.1); rintro e w' ⟨rfl, ⟨nd, rfl⟩⟩; refine ⟨_, rfl, ?_⟩) | ((with_reducible refine gate_callee (f := 18) rfl ?_); refine goesL_ (some 76) rfl rfl Try.func18 (by kernel_rfl) rfl #[.slice A0 l0.length c0] rfl tm_ ?_; (with_reducible refine (laws_toIntS.calls kj25 _ _ l0 t340 _ ?side1 ?side2 A44.out).mono ?_); (case side1 => exact ca (Kd.C_below HR0.out (hB HB))); (case side2 => exact HC0.out); rintro e w49 ⟨v341, rfl, ho0, hb⟩; refine ⟨_, rfl, ?_⟩; have HO342 := Aside0.mk (Kd.R_lower (Kd.R_new' (Kd.R_new' ho0 (rl_ HO_5)) (rl_ HO_8)) (below_size (hB HB))); replace HO_5 := re_ HO_5 ho0 hb; replace HO_8 := re_ HO_8 ho0 hb; replace HB := bst_ HB hb; clear hb ho0; obtain ⟨Ao50, co50, eo50⟩ := Kd.R_slice HO342.out; subst eo50) | ((with_reducible refine gate_callee (f := 44) rfl ?_); refine goesL_ (some 78) rfl rfl Try.func44 (by kernel_rfl) rfl #[.slice Ao50 t340.length co50, .int .i64 a1] rfl tm_ ?_; (with_reducible refine (impl_JoinSpot.calls kj25 _ _ t340 a1 t343 t344 _ ?side1 ?side2 A45.out).mono ?_); (case side1 => exact ca (Kd.R_reads' HO342.out).2.2); (case side2 => exact (Kd.R_reads' HO342.out).2.1); rintro e w51 ⟨v345, rfl, ho0, hb⟩; refine ⟨_, rfl, ?_⟩; have HO346 := Aside0.mk (Kd.R_lower (Kd.R_new' (Kd.R_new' (Kd.R_new' ho0 (rl_ HO_5)) (rl_ HO_8)) (rl_ HO342)) (below_size (hB HB))); replace HO_5 := re_ HO_5 ho0 hb; replace HO_8 := re_ HO_8 ho0 hb; replace HO342 := re_ HO342 ho0 hb; replace HB := bst_ HB hb; clear hb ho0))
     (try simp only [Act.put, List.setIfInBounds_toArray, List.set_cons_zero, List.set_cons_succ])
     go_cut [89] (fun v89 wc => ∃ (kq : Nat) (x89_45 : Bool), v89 = .bool x89_45 ∧ Aside0 (laws_FnExactJoinSpot.j2 kq t338 t337 x89_45 = some r) ∧ Aside0 (kq ≤ kj25) ∧ Aside0 (Kd.R (Kd.int .i64) 3 wc w.heap.size (fun _ => True) (.slice Ao47 t325.length co47) t338) ∧ Aside0 (Below w.heap.size w wc))
     case first =>
      have H := HC46.out
      clear HC46
      replace H := Option.bind_eq_some_iff.mp H
      obtain ⟨t347, A520, H⟩ := H
      replace H : (if t347 = true then (laws_FnExactJoinSpot.j2 kj25 t338 t337 (t344 != t321)) else (laws_FnExactJoinSpot.j2 kj25 t338 t337 true)) = some r := H
      have A52 := Aside0.mk A520
      clear A520
      by_cases c53 : t347 = true
      ·subst c53
       rw [if_pos rfl] at H
       have H' := Aside0.mk H
       clear H
       obtain ⟨Ao54, co54, eo54⟩ := Kd.R_slice HO346.out
       subst eo54
       obtain ⟨Ao55, co55, eo55⟩ := Kd.R_slice HO_5.out
       subst eo55
       go_wp2_with (first | ((with_reducible refine gate_callee (f := 21) rfl ?_); refine goesL_ (some 83) rfl rfl Try.func21 (by kernel_rfl) rfl #[.slice Ao54 t343.length co54, .slice Ao55 t318.length co55] rfl tm_ ?_; (with_reducible refine (laws_eqIntS.calls kj25 _ _ t343 _ _ t318 true _ ?side1 ?side2 ?side3 ?side4 A52.out).mono ?_); (case side1 => exact ca (Kd.R_reads' HO346.out).2.2); (case side2 => exact (Kd.R_reads' HO346.out).2.1); (case side3 => exact ca (Kd.R_reads' HO_5.out).2.2); (case side4 => exact (Kd.R_reads' HO_5.out).2.1); rintro e w' ⟨rfl, ⟨nd, rfl⟩⟩; refine ⟨_, rfl, ?_⟩))
       go_meet
       case rel => exact ⟨_, ((t344 != t321)), (by first | rfl | (simp; done) | (simp [*]; done)), H', ⟨by have := HJ7.out; have := HJ25.out; first | omega | exact Nat.le_refl _⟩, rm_ HO_8 (fun _ hk => trivial), ⟨hB HB⟩⟩
      replace c53 := Bool.eq_false_iff.mpr c53
      subst c53
      rw [if_neg (show ¬ (false = true) by decide)] at H
      have H' := Aside0.mk H
      clear H
      obtain ⟨Ao56, co56, eo56⟩ := Kd.R_slice HO346.out
      subst eo56
      obtain ⟨Ao57, co57, eo57⟩ := Kd.R_slice HO_5.out
      subst eo57
      go_wp2_with (first | ((with_reducible refine gate_callee (f := 21) rfl ?_); refine goesL_ (some 83) rfl rfl Try.func21 (by kernel_rfl) rfl #[.slice Ao56 t343.length co56, .slice Ao57 t318.length co57] rfl tm_ ?_; (with_reducible refine (laws_eqIntS.calls kj25 _ _ t343 _ _ t318 false _ ?side1 ?side2 ?side3 ?side4 A52.out).mono ?_); (case side1 => exact ca (Kd.R_reads' HO346.out).2.2); (case side2 => exact (Kd.R_reads' HO346.out).2.1); (case side3 => exact ca (Kd.R_reads' HO_5.out).2.2); (case side4 => exact (Kd.R_reads' HO_5.out).2.1); rintro e w' ⟨rfl, ⟨nd, rfl⟩⟩; refine ⟨_, rfl, ?_⟩))
      go_meet
      case rel => exact ⟨_, (true), (by first | rfl | (simp; done) | (simp [*]; done)), H', ⟨by have := HJ7.out; have := HJ25.out; first | omega | exact Nat.le_refl _⟩, rm_ HO_8 (fun _ hk => trivial), ⟨hB HB⟩⟩
     case rest =>
      clear HC46
      try clear c3
      try clear c3b0
      try clear c3b1
      try clear c21
      try clear c24
      try clear c37
      try clear c40
      try clear c40b0
      try clear c43
      try clear c43b0
      try clear c43b1
      obtain ⟨kq, x89_45, rfl, HA, HJ45, HO_8, HB⟩ := hcut
      have hl8_45 := (Kd.R_reads' HO_8.out).1
      rw [hl8_45] at HO_8
      (try simp only [hl8_45])
      cases kq with
      | zero => exact absurd HA.out (by simp [laws_FnExactJoinSpot.j2])
      | succ kj45 =>
       have H := HA.out
       clear HA
       simp only [laws_FnExactJoinSpot.j2] at H
       by_cases c58 : x89_45 = true
       ·subst c58
        rw [if_pos rfl] at H
        obtain rfl := Option.some.inj H
        go_wp2
        go_ret
        exact ⟨by first | rfl | (simp [errW_none, errW_some] <;> rfl) | (simp [*, errW_none, errW_some] <;> rfl), by repeat (first | (with_reducible first | exact HB.out | apply below_alloc | apply pw_below_drewN | apply below_drew1) | exact HB.out)⟩
       replace c58 := Bool.eq_false_iff.mpr c58
       subst c58
       rw [if_neg (show ¬ (false = true) by decide)] at H
       replace H := Option.bind_eq_some_iff.mp H
       obtain ⟨t348, A590, H⟩ := H
       replace H : (if t348 < 0 then (some false) else (if t348 = t337 then (some true) else (some false))) = some r := H
       have A59 := Aside0.mk A590
       clear A590
       by_cases c60 : t348 < 0
       ·rw [if_pos c60] at H
        have c60b0 : decide (t348 < 0) = true := decide_eq_true c60
        clear c60
        obtain rfl := Option.some.inj H
        go_wp2_with (first | ((with_reducible refine gate_callee (f := 27) rfl ?_); refine goesL_ (some 92) rfl rfl Try.func27 (by kernel_rfl) rfl #[.slice Ao47 t338.length co47, .int .i64 1] rfl tm_ ?_; (with_reducible refine (laws_heldIntS.calls kj45 _ _ t338 1 t348 _ ?side1 ?side2 A59.out).mono ?_); (case side1 => exact ca (Kd.R_reads' HO_8.out).2.2); (case side2 => exact (Kd.R_reads' HO_8.out).2.1); rintro e w' ⟨rfl, ⟨nd, rfl⟩⟩; refine ⟨_, rfl, ?_⟩))
        go_ret
        exact ⟨by first | rfl | (simp [errW_none, errW_some] <;> rfl) | (simp [*, errW_none, errW_some] <;> rfl), by repeat (first | (with_reducible first | exact HB.out | apply below_alloc | apply pw_below_drewN | apply below_drew1) | exact HB.out)⟩
       rw [if_neg c60] at H
       have c60b0 : decide (t348 < 0) = false := decide_eq_false c60
       clear c60
       by_cases c61 : t348 = t337
       rotate_left
       ·rw [if_neg c61] at H
        have c61b0 : (t348 == t337) = false := beq_eq_false_iff_ne.mpr c61
        have c61b1 : (t348 != t337) = true := bne_iff_ne.mpr c61
        obtain rfl := Option.some.inj H
        go_wp2_with (first | ((with_reducible refine gate_callee (f := 27) rfl ?_); refine goesL_ (some 92) rfl rfl Try.func27 (by kernel_rfl) rfl #[.slice Ao47 t338.length co47, .int .i64 1] rfl tm_ ?_; (with_reducible refine (laws_heldIntS.calls kj45 _ _ t338 1 t348 _ ?side1 ?side2 A59.out).mono ?_); (case side1 => exact ca (Kd.R_reads' HO_8.out).2.2); (case side2 => exact (Kd.R_reads' HO_8.out).2.1); rintro e w' ⟨rfl, ⟨nd, rfl⟩⟩; refine ⟨_, rfl, ?_⟩))
        go_ret
        exact ⟨by first | rfl | (simp [errW_none, errW_some] <;> rfl) | (simp [*, errW_none, errW_some] <;> rfl), by repeat (first | (with_reducible first | exact HB.out | apply below_alloc | apply pw_below_drewN | apply below_drew1) | exact HB.out)⟩
       rw [if_pos c61] at H
       have c61b0 : (t348 == t337) = true := beq_iff_eq.mpr c61
       have c61b1 : (t348 != t337) = false := bne_eq_false_iff_eq.mpr c61
       clear c61
       obtain rfl := Option.some.inj H
       go_wp2_with (first | ((with_reducible refine gate_callee (f := 27) rfl ?_); refine goesL_ (some 92) rfl rfl Try.func27 (by kernel_rfl) rfl #[.slice Ao47 t338.length co47, .int .i64 1] rfl tm_ ?_; (with_reducible refine (laws_heldIntS.calls kj45 _ _ t338 1 t348 _ ?side1 ?side2 A59.out).mono ?_); (case side1 => exact ca (Kd.R_reads' HO_8.out).2.2); (case side2 => exact (Kd.R_reads' HO_8.out).2.1); rintro e w' ⟨rfl, ⟨nd, rfl⟩⟩; refine ⟨_, rfl, ?_⟩))
       go_ret
       exact ⟨by first | rfl | (simp [errW_none, errW_some] <;> rfl) | (simp [*, errW_none, errW_some] <;> rfl), by repeat (first | (with_reducible first | exact HB.out | apply below_alloc | apply pw_below_drewN | apply below_drew1) | exact HB.out)⟩

/-- THE ONE PURE STATEMENT of laws_FnExactJoinSpot: yours. -/
def laws_FnExactJoinSpot.Pure : Prop := ∀ (l0 : List Int) (a1 : Int), l0.length ≤ maxLen → l0.length * 8 ≤ 140737488351232 → (∀ x ∈ l0, (Lit.int .i64 x).wf = true) → (Lit.int .i64 a1).wf = true → ∃ k, laws_FnExactJoinSpot.f k l0 a1 = some true
theorem laws_FnExactJoinSpot.walk (P : laws_FnExactJoinSpot.Pure) (a0 : Option Addr) (len0 cap0 : Nat) (z0 : List Int) (a1 : Int) (w : World) (w0 : (a0 = none ∧ len0 = 0 ∧ cap0 = 0 ∧ z0 = []) ∨ ∃ x, a0 = some x ∧ len0 ≤ cap0 ∧ cap0 ≤ maxLen ∧ z0.length = cap0 ∧ (∀ i, i < z0.length → w.cell? (x.add i) = some (.int .i64 (z0.getD i 0))) ∧ ∀ n ∈ z0, (Lit.int .i64 n).wf = true) (y0 : len0 * 8 ≤ 140737488351232) (w1 : (Lit.int .i64 a1).wf = true) :
  Calls Try.prog 8 #[.slice a0 len0 cap0, .int .i64 a1] w fun e w' => e = .returned (.bool true) ∧ Below w.heap.size w w' := by
 obtain ⟨l0, rfl, hr0, hm0, hw0, hc0⟩ := ReadsInt.ofRowC w0
 obtain ⟨k, h⟩ := P l0 a1 hm0 y0 hw0 w1
 refine (laws_FnExactJoinSpot.calls k _ _ l0 a1 true w (Kd.C_of_reads (d := (0 : Int)) (h1 := fun _ => rfl) hr0) hc0 h).mono ?_
 rintro e w' ⟨rfl, hd⟩
 exact ⟨rfl, hd⟩

-- NOT PRINTED: function 45 (spec_NewCampus)

-- NOT PRINTED: function 113 (impl_Edge)

-- NOT PRINTED: function 92 (impl_newCampus)

-- NOT PRINTED: function 46 (impl_NewCampus)

-- NOT PRINTED: function 131 (laws_eqPlace)

-- NOT PRINTED: function 93 (laws_eqPlaceS)

-- NOT PRINTED: function 47 (laws_eqCampus)

-- NOT PRINTED: function 94 (laws_markPlaceS)

-- NOT PRINTED: function 48 (laws_markCampus)

-- NOT PRINTED: function 95 (laws_heldPlaceS)

-- NOT PRINTED: function 49 (laws_heldCampus)

-- NOT PRINTED: function 9 (laws_FnExactNewCampus)

-- NOT PRINTED: function 96 (laws_szIntS)

-- NOT PRINTED: function 132 (laws_szPlace)

-- NOT PRINTED: function 97 (laws_szPlaceS)

-- NOT PRINTED: function 50 (laws_szCampus)

-- NOT PRINTED: function 98 (spec_l17Place)

-- NOT PRINTED: function 51 (spec_GoodCampus)

-- NOT PRINTED: function 133 (laws_toPlace)

-- NOT PRINTED: function 99 (laws_toPlaceS)

-- NOT PRINTED: function 52 (laws_toCampus)

-- NOT PRINTED: function 100 (impl_isHost)

-- NOT PRINTED: function 53 (impl_GoodCampus)

-- NOT PRINTED: function 10 (laws_FnExactGoodCampus)

-- NOT PRINTED: function 54 (spec_FirmGroups)

-- NOT PRINTED: function 55 (impl_FirmGroups)

-- NOT PRINTED: function 11 (laws_FnExactFirmGroups)

-- NOT PRINTED: function 56 (spec_SideOf)

-- NOT PRINTED: function 57 (impl_SideOf)

-- NOT PRINTED: function 12 (laws_FnExactSideOf)

-- NOT PRINTED: function 107 (spec_l9Edge)

-- NOT PRINTED: function 108 (spec_l16Add)

end Go.Proofs.Ytnoklicihomfoaa.P
