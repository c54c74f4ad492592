import Derived.Lib.LazyBuf
import Derived.Test.YtfkjnpgpofcinaaF0
import Derived.Test.YtfkjnpgpofcinaaF1
import Derived.Test.YtfkjnpgpofcinaaF20
namespace Go.Proofs.Ytfkjnpgpofcinaa.P
open Go.RowKit Go.Proofs.YtfkjnpgpofcinaaW.PrintWords Go.Proofs.YtfkjnpgpofcinaaW.PrintLast Go.Proofs.YtfkjnpgpofcinaaW.PrintMore
attribute [local go_sem] max2_int min2_int max_two min_two max_three min_three max_four min_four   -- for this text's walks alone
set_option linter.unusedVariables false
set_option linter.unusedSimpArgs false
attribute [local go_sem high] eqA45 eqA76 eqA83

mutual
def spec_l1Cur_pairSteps.j0 : Nat → List (S37) → Int → List Int → Int → Int → Option ((List (S37)) × Int × Int)
 | 0, _, _, _, _, _ => none
 | k + 1, x3, x4, x1000, x1001, x1002 => spec_l1Cur_pairSteps.l0 k x3 x4 x1000 x1001 x1002
def spec_l1Cur_pairSteps.l0 : Nat → List (S37) → Int → List Int → Int → Int → Option ((List (S37)) × Int × Int)
 | 0, _, _, _, _, _ => none
 | k + 1, x3, x4, x1000, x1001, x1002 => if x4 > 0 then ((spec_l1Cur_among.f x1000 x1001 x1002 (([1, 1, 1, 2, 2, 2, 3, 4] : List Int))).bind fun bt635 => ((spec_l1Cur_pick.f x1000 bt635.2.1 bt635.2.2 2).bind fun bt638 => (if bt635.1 = 4 then (spec_l1Cur_pairSteps.j2 k x3 x4 x1000 bt638.2.1 bt638.2.2 bt635.1 0) else (spec_l1Cur_pairSteps.j2 k x3 x4 x1000 bt638.2.1 bt638.2.2 bt635.1 bt638.1)))) else (some (x3, x1001, x1002))
def spec_l1Cur_pairSteps.j2 : Nat → List (S37) → Int → List Int → Int → Int → Int → Int → Option ((List (S37)) × Int × Int)
 | 0, _, _, _, _, _, _, _ => none
 | k + 1, x3, x4, x1000, x1001, x1002, x642000, x642001 => (spec_l1Cur_one.f x1000 x1001 x1002 30).bind fun bt642 => (if bt642.1 = true then ((spec_l1Cur_pick.f x1000 bt642.2.1 bt642.2.2 6).bind fun bt645 => ((spec_l1Cur_pick.f x1000 bt645.2.1 bt645.2.2 5).bind fun bt648 => (if x3.length < 8796093022208 then (spec_l1Cur_pairSteps.l0 k (x3 ++ [(⟨bt645.1, wrap64 (bt648.1 - 1)⟩ : S37)]) (wrap64 (x4 - 1)) x1000 bt648.2.1 bt648.2.2) else (none)))) else (if x3.length < 8796093022208 then (spec_l1Cur_pairSteps.l0 k (x3 ++ [(⟨x642000, x642001⟩ : S37)]) (wrap64 (x4 - 1)) x1000 bt642.2.1 bt642.2.2) else (none)))
end
def spec_l1Cur_pairSteps.f (k : Nat) (s0_0 : List Int) (s0_1 : Int) (s0_2 : Int) : Option ((List (S37)) × Int × Int) := (spec_l1Cur_pick.f s0_0 s0_1 s0_2 24).bind fun bt623 => ((spec_l1Cur_one.f s0_0 bt623.2.1 bt623.2.2 20).bind fun bt626 => (if bt626.1 = true then ((spec_l1Cur_pick.f s0_0 bt626.2.1 bt626.2.2 3).bind fun bt629 => (spec_l1Cur_pairSteps.j0 k ([] : List (S37)) (wrap64 (59 + bt629.1)) s0_0 bt629.2.1 bt629.2.2)) else (spec_l1Cur_pairSteps.j0 k ([] : List (S37)) bt623.1 s0_0 bt626.2.1 bt626.2.2)))
theorem spec_l1Cur_pairSteps.mono_l : ∀ k, (∀ y0 y1 y2 y3 y4, LeO (spec_l1Cur_pairSteps.j0 k y0 y1 y2 y3 y4) (spec_l1Cur_pairSteps.j0 (k + 1) y0 y1 y2 y3 y4)) ∧ (∀ y0 y1 y2 y3 y4, LeO (spec_l1Cur_pairSteps.l0 k y0 y1 y2 y3 y4) (spec_l1Cur_pairSteps.l0 (k + 1) y0 y1 y2 y3 y4)) ∧ (∀ y0 y1 y2 y3 y4 y5 y6, LeO (spec_l1Cur_pairSteps.j2 k y0 y1 y2 y3 y4 y5 y6) (spec_l1Cur_pairSteps.j2 (k + 1) y0 y1 y2 y3 y4 y5 y6))
 | 0 => ⟨fun _ _ _ _ _ r h => by simp [spec_l1Cur_pairSteps.j0] at h, fun _ _ _ _ _ r h => by simp [spec_l1Cur_pairSteps.l0] at h, fun _ _ _ _ _ _ _ r h => by simp [spec_l1Cur_pairSteps.j2] at h⟩
 | k + 1 => by
  obtain ⟨ih0, ih1, ih2⟩ := spec_l1Cur_pairSteps.mono_l k
  refine ⟨?_, ?_, ?_⟩
  ·intro y0 y1 y2 y3 y4
   unfold spec_l1Cur_pairSteps.j0
   repeat' first
   | (with_reducible exact ih0 _ _ _ _ _)
   | (with_reducible exact ih1 _ _ _ _ _)
   | (with_reducible exact ih2 _ _ _ _ _ _ _)
   | (with_reducible exact LeO.refl _)
   | (with_reducible exact LeO.none _)
   | (with_reducible refine LeO.ite ?_ ?_)
   | (with_reducible refine LeO.bind ?_ (fun _ => ?_))
  ·intro y0 y1 y2 y3 y4
   unfold spec_l1Cur_pairSteps.l0
   repeat' first
   | (with_reducible exact ih0 _ _ _ _ _)
   | (with_reducible exact ih1 _ _ _ _ _)
   | (with_reducible exact ih2 _ _ _ _ _ _ _)
   | (with_reducible exact LeO.refl _)
   | (with_reducible exact LeO.none _)
   | (with_reducible refine LeO.ite ?_ ?_)
   | (with_reducible refine LeO.bind ?_ (fun _ => ?_))
  ·intro y0 y1 y2 y3 y4 y5 y6
   unfold spec_l1Cur_pairSteps.j2
   repeat' first
   | (with_reducible exact ih0 _ _ _ _ _)
   | (with_reducible exact ih1 _ _ _ _ _)
   | (with_reducible exact ih2 _ _ _ _ _ _ _)
   | (with_reducible exact LeO.refl _)
   | (with_reducible exact LeO.none _)
   | (with_reducible refine LeO.ite ?_ ?_)
   | (with_reducible refine LeO.bind ?_ (fun _ => ?_))
theorem spec_l1Cur_pairSteps.mono : ∀ a0 a1 a2 k, LeO (spec_l1Cur_pairSteps.f k a0 a1 a2) (spec_l1Cur_pairSteps.f (k + 1) a0 a1 a2) := by
 intro a0 a1 a2 k
 obtain ⟨ih0, ih1, ih2⟩ := spec_l1Cur_pairSteps.mono_l k
 unfold spec_l1Cur_pairSteps.f
 repeat' first
   | (with_reducible exact ih0 _ _ _ _ _)
   | (with_reducible exact ih1 _ _ _ _ _)
   | (with_reducible exact ih2 _ _ _ _ _ _ _)
   | (with_reducible exact LeO.refl _)
   | (with_reducible exact LeO.none _)
   | (with_reducible refine LeO.ite ?_ ?_)
   | (with_reducible refine LeO.bind ?_ (fun _ => ?_))
set_option maxHeartbeats 8000000 in
set_option maxRecDepth 100000 in
theorem spec_l1Cur_pairSteps.calls (k : Nat) (g : Nat) (s0_0 : List Int) (s0_1 : Int) (s0_2 : Int) (r1 : List (S37)) (r2 : Int) (r3 : Int) (w0 w : World) (hI : IsS105 w0 w g s0_0 s0_1 s0_2) (hB : Below w0.heap.size w0 w) (h : spec_l1Cur_pairSteps.f k s0_0 s0_1 s0_2 = some (r1, r2, r3)) :
  Calls Try.prog 82 #[.pointer (some ⟨g, 0, none⟩)] w fun e w' => ∃ v0_ : Value, e = .returned (v0_) ∧ Kd.R k37 37 w' w.heap.size (fun _ => True) v0_ r1 ∧ IsS105 w0 w' g s0_0 r2 r3 ∧ Below w0.heap.size w0 w' ∧ KeepBut w w' g none := by
 have hu37 := Try.underlying37
 have HI0 := Aside0.mk hI
 have HK := Aside0.mk (KeepBut.refl w g none)
 have HL := Aside0.mk hB.size
 clear hI
 have HW0 := Aside0.mk hB.size
 have HB := Aside0.mk hB
 clear hB
 have H : ((spec_l1Cur_pick.f s0_0 s0_1 s0_2 24).bind fun bt623 => ((spec_l1Cur_one.f s0_0 bt623.2.1 bt623.2.2 20).bind fun bt626 => (if bt626.1 = true then ((spec_l1Cur_pick.f s0_0 bt626.2.1 bt626.2.2 3).bind fun bt629 => (spec_l1Cur_pairSteps.j0 k ([] : List (S37)) (wrap64 (59 + bt629.1)) s0_0 bt629.2.1 bt629.2.2)) else (spec_l1Cur_pairSteps.j0 k ([] : List (S37)) bt623.1 s0_0 bt626.2.1 bt626.2.2)))) = some (r1, r2, r3) := h
 clear h
 replace H := Option.bind_eq_some_iff.mp H
 obtain ⟨⟨t623, t624, t625⟩, A20, H⟩ := H
 replace H : ((spec_l1Cur_one.f s0_0 t624 t625 20).bind fun bt626 => (if bt626.1 = true then ((spec_l1Cur_pick.f s0_0 bt626.2.1 bt626.2.2 3).bind fun bt629 => (spec_l1Cur_pairSteps.j0 k ([] : List (S37)) (wrap64 (59 + bt629.1)) s0_0 bt629.2.1 bt629.2.2)) else (spec_l1Cur_pairSteps.j0 k ([] : List (S37)) t623 s0_0 bt626.2.1 bt626.2.2))) = some (r1, r2, r3) := H
 have A2 := Aside0.mk A20
 clear A20
 replace H := Option.bind_eq_some_iff.mp H
 obtain ⟨⟨t626, t627, t628⟩, A30, H⟩ := H
 replace H : (if t626 = true then ((spec_l1Cur_pick.f s0_0 t627 t628 3).bind fun bt629 => (spec_l1Cur_pairSteps.j0 k ([] : List (S37)) (wrap64 (59 + bt629.1)) s0_0 bt629.2.1 bt629.2.2)) else (spec_l1Cur_pairSteps.j0 k ([] : List (S37)) t623 s0_0 t627 t628)) = some (r1, r2, r3) := H
 have A3 := Aside0.mk A30
 clear A30
 have HC4 := Aside0.mk H
 clear H
 go_enter Try.func82, Try.ntmps82
 go_upto_if 9 with (first | ((with_reducible refine gate_callee (f := 94) rfl ?_); refine goesL_ (some 7) rfl rfl Try.func94 (by kernel_rfl) rfl #[.pointer (some ⟨g, 0, none⟩), .int .i64 24] rfl tm_ ?_; (with_reducible refine (spec_l1Cur_pick.calls g s0_0 s0_1 s0_2 24 t623 t624 t625 w0 _ ?side1 ?side2 A2.out).mono ?_); (case side1 => repeat (first | (with_reducible first | exact HI0.out | apply IsS105.alloc | apply IsS105.drewN | apply IsS105.drew | apply IsS105.set_1 | apply IsS105.set_2) | exact HI0.out)); (case side2 => repeat (first | (with_reducible first | exact HB.out | apply below_alloc | apply pw_below_drewN | apply below_drew1 | refine below_set ?_ (IsS105.ge HI0.out)) | exact HB.out)); rintro e w5 ⟨rfl, hi, hb, hk⟩; refine ⟨_, rfl, ?_⟩; replace HK := Aside0.mk (KeepBut.trans (by repeat (first | (with_reducible first | exact HK.out | apply KeepBut.set_ | apply keep_drewN | apply keep_drew | apply keep_alloc) | exact HK.out)) hk (.inl rfl)); replace HB := Aside0.mk (hb); replace HI0 := Aside0.mk (hi); clear hb hk hi) | ((with_reducible refine gate_callee (f := 95) rfl ?_); refine goesL_ (some 9) rfl rfl Try.func95 (by kernel_rfl) rfl #[.pointer (some ⟨g, 0, none⟩), .int .i64 20] rfl tm_ ?_; (with_reducible refine (spec_l1Cur_one.calls g s0_0 t624 t625 20 t626 t627 t628 w0 _ ?side1 ?side2 A3.out).mono ?_); (case side1 => repeat (first | (with_reducible first | exact HI0.out | apply IsS105.alloc | apply IsS105.drewN | apply IsS105.drew | apply IsS105.set_1 | apply IsS105.set_2) | exact HI0.out)); (case side2 => repeat (first | (with_reducible first | exact HB.out | apply below_alloc | apply pw_below_drewN | apply below_drew1 | refine below_set ?_ (IsS105.ge HI0.out)) | exact HB.out)); rintro e w6 ⟨rfl, hi, hb, hk⟩; refine ⟨_, rfl, ?_⟩; replace HK := Aside0.mk (KeepBut.trans (by repeat (first | (with_reducible first | exact HK.out | apply KeepBut.set_ | apply keep_drewN | apply keep_drew | apply keep_alloc) | exact HK.out)) hk (.inl rfl)); replace HB := Aside0.mk (hb); replace HI0 := Aside0.mk (hi); clear hb hk hi))
 (try simp only [Act.put, List.setIfInBounds_toArray, List.set_cons_zero, List.set_cons_succ])
 go_cut [4] (fun v4 wc => ∃ (kq : Nat) (x4_3 : Int) (x1001_3 : Int) (x1002_3 : Int), v4 = .int .i64 x4_3 ∧ Aside0 (spec_l1Cur_pairSteps.j0 kq ([] : List (S37)) x4_3 s0_0 x1001_3 x1002_3 = some (r1, r2, r3)) ∧ Aside0 (kq ≤ k) ∧ Aside0 (Kd.R k37 37 wc w.heap.size (fun _ => True) (.slice none 0 0) ([] : List (S37))) ∧ Aside0 (IsS105 w0 wc g s0_0 x1001_3 x1002_3) ∧ Aside0 (KeepBut w wc g none) ∧ Aside0 (Below w0.heap.size w0 wc))
 case first =>
  have H := HC4.out
  clear HC4
  by_cases c7 : t626 = true
  rotate_left
  ·replace c7 := Bool.eq_false_iff.mpr c7
   subst c7
   rw [if_neg (show ¬ (false = true) by decide)] at H
   have H' := Aside0.mk H
   clear H
   go_wp2
   go_meet
   case rel => exact ⟨_, (t623), (t627), (t628), (by first | rfl | (simp; done) | (simp [*]; done)), H', ⟨by first | omega | exact Nat.le_refl _⟩, ⟨by first | exact Kd.R_nil _ _ _ _ _ | exact Kd.N_nil _ _ _ _ _ | exact Kd.V_nil _ _ _ _ _ | exact Kd.Q_nil _ _ _ _ _ | exact Kd.S_nil _ _ _ _ _⟩, ⟨by repeat (first | (with_reducible first | exact HI0.out | apply IsS105.alloc | apply IsS105.drewN | apply IsS105.drew | apply IsS105.set_1 | apply IsS105.set_2) | exact HI0.out)⟩, ⟨by repeat (first | (with_reducible first | exact HK.out | apply KeepBut.set_ | apply keep_drewN | apply keep_drew | apply keep_alloc) | exact HK.out)⟩, ⟨by repeat (first | (with_reducible first | exact HB.out | apply below_alloc | apply pw_below_drewN | apply below_drew1 | refine below_set ?_ (IsS105.ge HI0.out)) | exact HB.out)⟩⟩
  subst c7
  rw [if_pos rfl] at H
  replace H := Option.bind_eq_some_iff.mp H
  obtain ⟨⟨t629, t630, t631⟩, A80, H⟩ := H
  replace H : (spec_l1Cur_pairSteps.j0 k ([] : List (S37)) (wrap64 (59 + t629)) s0_0 t630 t631) = some (r1, r2, r3) := H
  have A8 := Aside0.mk A80
  clear A80
  have H' := Aside0.mk H
  clear H
  go_wp2_with (first | ((with_reducible refine gate_callee (f := 94) rfl ?_); refine goesL_ (some 11) rfl rfl Try.func94 (by kernel_rfl) rfl #[.pointer (some ⟨g, 0, none⟩), .int .i64 3] rfl tm_ ?_; (with_reducible refine (spec_l1Cur_pick.calls g s0_0 t627 t628 3 t629 t630 t631 w0 _ ?side1 ?side2 A8.out).mono ?_); (case side1 => repeat (first | (with_reducible first | exact HI0.out | apply IsS105.alloc | apply IsS105.drewN | apply IsS105.drew | apply IsS105.set_1 | apply IsS105.set_2) | exact HI0.out)); (case side2 => repeat (first | (with_reducible first | exact HB.out | apply below_alloc | apply pw_below_drewN | apply below_drew1 | refine below_set ?_ (IsS105.ge HI0.out)) | exact HB.out)); rintro e w9 ⟨rfl, hi, hb, hk⟩; refine ⟨_, rfl, ?_⟩; replace HK := Aside0.mk (KeepBut.trans (by repeat (first | (with_reducible first | exact HK.out | apply KeepBut.set_ | apply keep_drewN | apply keep_drew | apply keep_alloc) | exact HK.out)) hk (.inl rfl)); replace HB := Aside0.mk (hb); replace HI0 := Aside0.mk (hi); clear hb hk hi))
  go_meet
  case rel => exact ⟨_, (wrap64 (59 + t629)), (t630), (t631), (by first | rfl | (simp; done) | (simp [*]; done)), H', ⟨by first | omega | exact Nat.le_refl _⟩, ⟨by first | exact Kd.R_nil _ _ _ _ _ | exact Kd.N_nil _ _ _ _ _ | exact Kd.V_nil _ _ _ _ _ | exact Kd.Q_nil _ _ _ _ _ | exact Kd.S_nil _ _ _ _ _⟩, ⟨by repeat (first | (with_reducible first | exact HI0.out | apply IsS105.alloc | apply IsS105.drewN | apply IsS105.drew | apply IsS105.set_1 | apply IsS105.set_2) | exact HI0.out)⟩, ⟨by repeat (first | (with_reducible first | exact HK.out | apply KeepBut.set_ | apply keep_drewN | apply keep_drew | apply keep_alloc) | exact HK.out)⟩, ⟨by repeat (first | (with_reducible first | exact HB.out | apply below_alloc | apply pw_below_drewN | apply below_drew1 | refine below_set ?_ (IsS105.ge HI0.out)) | exact HB.out)⟩⟩
 case rest =>
  clear HC4
  obtain ⟨kq, x4_3, x1001_3, x1002_3, rfl, HA, HJ3, HO_3, HI0, HK, HB⟩ := hcut
  cases kq with
  | zero => exact absurd HA.out (by simp [spec_l1Cur_pairSteps.j0])
  | succ kj3 =>
   have H := HA.out
   clear HA
   simp only [spec_l1Cur_pairSteps.j0] at H
   have H' := Aside0.mk H
   clear H
   go_wp2
   go_loopg [3, 4] kj3 (fun kq v3 v4 w' => ∃ (x3_2 : List (S37)) (x4_2 : Int) (x1001_2 : Int) (x1002_2 : Int), v4 = .int .i64 x4_2 ∧ Aside0 (spec_l1Cur_pairSteps.l0 kq x3_2 x4_2 s0_0 x1001_2 x1002_2 = some (r1, r2, r3)) ∧ Aside0 (kq ≤ kj3) ∧ Aside0 (Kd.R k37 37 w' w.heap.size (fun _ => True) v3 x3_2) ∧ Aside0 (IsS105 w0 w' g s0_0 x1001_2 x1002_2) ∧ Aside0 (KeepBut w w' g none) ∧ Aside0 (Below w0.heap.size w0 w'))
   case atStart => exact ⟨(([] : List (S37))), (x4_3), (x1001_3), (x1002_3), (by first | rfl | (simp; done) | (simp [*]; done)), H', ⟨Nat.le_refl _⟩, ⟨ra HO_3.out⟩, ⟨by repeat (first | (with_reducible first | exact HI0.out | apply IsS105.alloc | apply IsS105.drewN | apply IsS105.drew | apply IsS105.set_1 | apply IsS105.set_2) | exact HI0.out)⟩, ⟨by repeat (first | (with_reducible first | exact HK.out | apply KeepBut.set_ | apply keep_drewN | apply keep_drew | apply keep_alloc) | exact HK.out)⟩, ⟨by repeat (first | (with_reducible first | exact HB.out | apply below_alloc | apply pw_below_drewN | apply below_drew1 | refine below_set ?_ (IsS105.ge HI0.out)) | exact HB.out)⟩⟩
   case round =>
    clear H'
    obtain ⟨x3_2, x4_2, x1001_2, x1002_2, rfl, HA, HK2, HO_3, HI0, HK, HB⟩ := hrel
    cases gk with
    | zero => exact absurd HA.out (by simp [spec_l1Cur_pairSteps.l0])
    | succ k2 =>
     have H := HA.out
     clear HA
     simp only [spec_l1Cur_pairSteps.l0] at H
     by_cases c10 : x4_2 > 0
     rotate_left
     ·rw [if_neg c10] at H
      have c10b0 : decide (0 < x4_2) = false := decide_eq_false c10
      clear c10
      simp only [Option.some.injEq, Prod.mk.injEq] at H
      obtain ⟨rfl, rfl, rfl⟩ := H
      go_wp2
      go_ret
      exact ⟨_, by first | rfl | (simp [errW_none, errW_some] <;> rfl) | (simp [*, errW_none, errW_some] <;> rfl), by (with_reducible repeat (first | apply Kd.R_alloc | apply Kd.R_drewN | apply Kd.R_drew)); exact HO_3.out, by repeat (first | (with_reducible first | exact HI0.out | apply IsS105.alloc | apply IsS105.drewN | apply IsS105.drew | apply IsS105.set_1 | apply IsS105.set_2) | exact HI0.out), by repeat (first | (with_reducible first | exact HB.out | apply below_alloc | apply pw_below_drewN | apply below_drew1 | refine below_set ?_ (IsS105.ge HI0.out)) | exact HB.out), by repeat (first | (with_reducible first | exact HK.out | apply KeepBut.set_ | apply keep_drewN | apply keep_drew | apply keep_alloc) | exact HK.out)⟩
     rw [if_pos c10] at H
     have c10b0 : decide (0 < x4_2) = true := decide_eq_true c10
     clear c10
     obtain ⟨y632, hy632⟩ : ∃ y_ : List Int, y_ = (([1, 1, 1, 2, 2, 2, 3, 4] : List Int)) := ⟨_, rfl⟩
     replace H : ((spec_l1Cur_among.f s0_0 x1001_2 x1002_2 y632).bind fun bt635 => ((spec_l1Cur_pick.f s0_0 bt635.2.1 bt635.2.2 2).bind fun bt638 => (if bt635.1 = 4 then (spec_l1Cur_pairSteps.j2 k2 x3_2 x4_2 s0_0 bt638.2.1 bt638.2.2 bt635.1 0) else (spec_l1Cur_pairSteps.j2 k2 x3_2 x4_2 s0_0 bt638.2.1 bt638.2.2 bt635.1 bt638.1)))) = some (r1, r2, r3) := by first | (rw [hy632]; with_reducible exact H) | (have H2_ := (Option.bind_some _ _).symm.trans H; rw [hy632]; with_reducible exact H2_) | (have H2_ := (Option.bind_some _ _).symm.trans H; with_reducible exact H2_) | with_reducible exact H | (rw [hy632]; exact H) | exact H
     have Ny632 := Aside0.mk hy632
     clear hy632
     replace H := Option.bind_eq_some_iff.mp H
     obtain ⟨⟨t635, t636, t637⟩, A110, H⟩ := H
     replace H : ((spec_l1Cur_pick.f s0_0 t636 t637 2).bind fun bt638 => (if t635 = 4 then (spec_l1Cur_pairSteps.j2 k2 x3_2 x4_2 s0_0 bt638.2.1 bt638.2.2 t635 0) else (spec_l1Cur_pairSteps.j2 k2 x3_2 x4_2 s0_0 bt638.2.1 bt638.2.2 t635 bt638.1))) = some (r1, r2, r3) := H
     have A11 := Aside0.mk A110
     clear A110
     replace H := Option.bind_eq_some_iff.mp H
     obtain ⟨⟨t638, t639, t640⟩, A120, H⟩ := H
     replace H : (if t635 = 4 then (spec_l1Cur_pairSteps.j2 k2 x3_2 x4_2 s0_0 t639 t640 t635 0) else (spec_l1Cur_pairSteps.j2 k2 x3_2 x4_2 s0_0 t639 t640 t635 t638)) = some (r1, r2, r3) := H
     have A12 := Aside0.mk A120
     clear A120
     have HC13 := Aside0.mk H
     clear H
     go_upto_if 25 with (first | ((with_reducible refine gate_dst (N := 18) rfl ?_); refine Kd.R_lit (Kd.int .i64) _ 3 ?hg (N := 18) ?hd (xs := ([1, 1, 1, 2, 2, 2, 3, 4] : List Int)) (inner := [.int .i64 1, .int .i64 1, .int .i64 1, .int .i64 2, .int .i64 2, .int .i64 2, .int .i64 3, .int .i64 4]) (ok := fun _ => True) (okp := fun _ => True) ?hr ?hp (fun _ hk => hk) trivial (Below.refl _ _) (Nat.le_refl _) (by simp) ?_; (case hd => rfl); (case hg => rfl); (case hr => first | (go_simp; done) | (go_simp; rfl)); (case hp => exact (Reps.one (show Kd.M (Kd.int .i64) _ _ _ 1 [.int .i64 1] from rfl) (Reps.one (show Kd.M (Kd.int .i64) _ _ _ 1 [.int .i64 1] from rfl) (Reps.one (show Kd.M (Kd.int .i64) _ _ _ 1 [.int .i64 1] from rfl) (Reps.one (show Kd.M (Kd.int .i64) _ _ _ 2 [.int .i64 2] from rfl) (Reps.one (show Kd.M (Kd.int .i64) _ _ _ 2 [.int .i64 2] from rfl) (Reps.one (show Kd.M (Kd.int .i64) _ _ _ 2 [.int .i64 2] from rfl) (Reps.one (show Kd.M (Kd.int .i64) _ _ _ 3 [.int .i64 3] from rfl) (Reps.one (show Kd.M (Kd.int .i64) _ _ _ 4 [.int .i64 4] from rfl) (Reps.none _ _)))))))))); intro v633 w14 ho15 hb hg_ hnew_; clear hg_ hnew_; (first | rw [← Ny632.out] at ho15 | (simp only [Int.reduceToNat] at ho15; rw [← Ny632.out] at ho15)); have HO634 := Aside0.mk (Kd.R_lower ho15 (keep_size (w := w) (g := g) (row := none) (by repeat (first | (with_reducible first | exact HK.out | apply KeepBut.set_ | apply keep_drewN | apply keep_drew | apply keep_alloc) | exact HK.out)))); replace HO_3 := rb_ HO_3 hb; replace HK := Aside0.mk (KeepBut.trans (by repeat (first | (with_reducible first | exact HK.out | apply KeepBut.set_ | apply keep_drewN | apply keep_drew | apply keep_alloc) | exact HK.out)) (KeepBut.of_below hb g none) (.inl rfl)); replace HB := Aside0.mk (below_step (by repeat (first | (with_reducible first | exact HB.out | apply below_alloc | apply pw_below_drewN | apply below_drew1 | refine below_set ?_ (IsS105.ge HI0.out)) | exact HB.out)) hb); replace HI0 := Aside0.mk (IsS105.below (by repeat (first | (with_reducible first | exact HI0.out | apply IsS105.alloc | apply IsS105.drewN | apply IsS105.drew | apply IsS105.set_1 | apply IsS105.set_2) | exact HI0.out)) hb); clear hb ho15; obtain ⟨Ao16, co16, eo16⟩ := Kd.R_slice HO634.out; subst eo16) | ((with_reducible refine gate_callee (f := 113) rfl ?_); refine goesL_ (some 19) rfl rfl Try.func113 (by kernel_rfl) rfl #[.pointer (some ⟨g, 0, none⟩), .slice Ao16 y632.length co16] rfl tm_ ?_; (with_reducible refine (spec_l1Cur_among.calls g s0_0 x1001_2 x1002_2 _ _ y632 t635 t636 t637 w0 _ ?side1 ?side2 ?side3 ?side4 ?side5 A11.out).mono ?_); (case side1 => repeat (first | (with_reducible first | exact HI0.out | apply IsS105.alloc | apply IsS105.drewN | apply IsS105.drew | apply IsS105.set_1 | apply IsS105.set_2) | exact HI0.out)); (case side2 => repeat (first | (with_reducible first | exact HB.out | apply below_alloc | apply pw_below_drewN | apply below_drew1 | refine below_set ?_ (IsS105.ge HI0.out)) | exact HB.out)); (case side3 => exact ca (Kd.R_reads' HO634.out).2.2); (case side4 => exact (Kd.R_reads' HO634.out).2.1); (case side5 => exact far_slice (IsS105.own_ne HI0.out HO634.out (by decide))); rintro e w17 ⟨rfl, hi, hb, hk⟩; refine ⟨_, rfl, ?_⟩; replace HO_3 := Aside0.mk (Kd.R_mono (Kd.R_keep (IsS105.apart (show IsS105 w0 _ g s0_0 x1001_2 x1002_2 from by repeat (first | (with_reducible first | exact HI0.out | apply IsS105.alloc | apply IsS105.drewN | apply IsS105.drew | apply IsS105.set_1 | apply IsS105.set_2) | exact HI0.out)) (ra HO_3.out) (by decide)) hk (fun _ h => h.2)) (fun _ h => h.1)); replace HO634 := Aside0.mk (Kd.R_mono (Kd.R_keep (IsS105.apart (show IsS105 w0 _ g s0_0 x1001_2 x1002_2 from by repeat (first | (with_reducible first | exact HI0.out | apply IsS105.alloc | apply IsS105.drewN | apply IsS105.drew | apply IsS105.set_1 | apply IsS105.set_2) | exact HI0.out)) (ra HO634.out) (by decide)) hk (fun _ h => h.2)) (fun _ h => h.1)); replace HK := Aside0.mk (KeepBut.trans (by repeat (first | (with_reducible first | exact HK.out | apply KeepBut.set_ | apply keep_drewN | apply keep_drew | apply keep_alloc) | exact HK.out)) hk (.inl rfl)); replace HB := Aside0.mk (hb); replace HI0 := Aside0.mk (hi); clear hb hk hi) | ((with_reducible refine gate_callee (f := 94) rfl ?_); refine goesL_ (some 21) rfl rfl Try.func94 (by kernel_rfl) rfl #[.pointer (some ⟨g, 0, none⟩), .int .i64 2] rfl tm_ ?_; (with_reducible refine (spec_l1Cur_pick.calls g s0_0 t636 t637 2 t638 t639 t640 w0 _ ?side1 ?side2 A12.out).mono ?_); (case side1 => repeat (first | (with_reducible first | exact HI0.out | apply IsS105.alloc | apply IsS105.drewN | apply IsS105.drew | apply IsS105.set_1 | apply IsS105.set_2) | exact HI0.out)); (case side2 => repeat (first | (with_reducible first | exact HB.out | apply below_alloc | apply pw_below_drewN | apply below_drew1 | refine below_set ?_ (IsS105.ge HI0.out)) | exact HB.out)); rintro e w18 ⟨rfl, hi, hb, hk⟩; refine ⟨_, rfl, ?_⟩; replace HO_3 := Aside0.mk (Kd.R_mono (Kd.R_keep (IsS105.apart (show IsS105 w0 _ g s0_0 t636 t637 from by repeat (first | (with_reducible first | exact HI0.out | apply IsS105.alloc | apply IsS105.drewN | apply IsS105.drew | apply IsS105.set_1 | apply IsS105.set_2) | exact HI0.out)) (ra HO_3.out) (by decide)) hk (fun _ h => h.2)) (fun _ h => h.1)); replace HO634 := Aside0.mk (Kd.R_mono (Kd.R_keep (IsS105.apart (show IsS105 w0 _ g s0_0 t636 t637 from by repeat (first | (with_reducible first | exact HI0.out | apply IsS105.alloc | apply IsS105.drewN | apply IsS105.drew | apply IsS105.set_1 | apply IsS105.set_2) | exact HI0.out)) (ra HO634.out) (by decide)) hk (fun _ h => h.2)) (fun _ h => h.1)); replace HK := Aside0.mk (KeepBut.trans (by repeat (first | (with_reducible first | exact HK.out | apply KeepBut.set_ | apply keep_drewN | apply keep_drew | apply keep_alloc) | exact HK.out)) hk (.inl rfl)); replace HB := Aside0.mk (hb); replace HI0 := Aside0.mk (hi); clear hb hk hi) | ((with_reducible refine gate_dst (N := 5) rfl ?_); refine box_event ?hg (N := 5) ?hd (cs := #[.int .i64 0, .int .i64 0]) (t := 37) ?hr ?_; (case hd => rfl); (case hg => rfl); (case hr => first | (go_simp; done) | (go_simp; rfl)); intro gb641 hg w19 hbox hb; have BK641 := Aside0.mk (hbox); have GW641 := Aside0.mk ((by rw [hg]; exact (keep_size (w := w) (g := g) (row := none) (by repeat (first | (with_reducible first | exact HK.out | apply KeepBut.set_ | apply keep_drewN | apply keep_drew | apply keep_alloc) | exact HK.out))) : w.heap.size ≤ gb641)); have GE641 := Aside0.mk ((Nat.le_trans HW0.out (by rw [hg]; exact (keep_size (w := w) (g := g) (row := none) (by repeat (first | (with_reducible first | exact HK.out | apply KeepBut.set_ | apply keep_drewN | apply keep_drew | apply keep_alloc) | exact HK.out))) : w.heap.size ≤ gb641) : w0.heap.size ≤ gb641)); have NB0_641 := Aside0.mk ((by rw [hg]; exact Nat.ne_of_lt (IsS105.lt (show IsS105 w0 _ g s0_0 t639 t640 from by repeat (first | (with_reducible first | exact HI0.out | apply IsS105.alloc | apply IsS105.drewN | apply IsS105.drew | apply IsS105.set_1 | apply IsS105.set_2) | exact HI0.out))) : g ≠ gb641)); have NB641_0 := Aside0.mk ((by rw [hg]; exact Nat.ne_of_gt (IsS105.lt (show IsS105 w0 _ g s0_0 t639 t640 from by repeat (first | (with_reducible first | exact HI0.out | apply IsS105.alloc | apply IsS105.drewN | apply IsS105.drew | apply IsS105.set_1 | apply IsS105.set_2) | exact HI0.out))) : gb641 ≠ g)); replace HO_3 := Aside0.mk (Kd.R_below (Kd.R_elderB (ra HO_3.out) gb641 (Nat.le_of_eq hg.symm)) hb); replace HO634 := rb_ HO634 hb; replace HK := Aside0.mk (KeepBut.trans (by repeat (first | (with_reducible first | exact HK.out | apply KeepBut.set_ | apply keep_drewN | apply keep_drew | apply keep_alloc) | exact HK.out)) (KeepBut.of_below hb g none) (.inl rfl)); replace HB := Aside0.mk (below_step (by repeat (first | (with_reducible first | exact HB.out | apply below_alloc | apply pw_below_drewN | apply below_drew1 | refine below_set ?_ (IsS105.ge HI0.out)) | exact HB.out)) hb); replace HI0 := Aside0.mk (IsS105.below (by repeat (first | (with_reducible first | exact HI0.out | apply IsS105.alloc | apply IsS105.drewN | apply IsS105.drew | apply IsS105.set_1 | apply IsS105.set_2) | exact HI0.out)) hb); clear hb hbox hg; have hnb20 := NB641_0.out; have hnc20 := NB0_641.out; have hcz21_0 : w19.cell? ⟨gb641, 0, none⟩ = some (.int .i64 0) := bc_ BK641 0; have hcz21_1 : w19.cell? ⟨gb641, 1, none⟩ = some (.int .i64 0) := bc_ BK641 1; have hfz21_0 := blk_frozen BK641.out 0; have hfz21_1 := blk_frozen BK641.out 1))
     (try simp only [Act.put, List.setIfInBounds_toArray, List.set_cons_zero, List.set_cons_succ])
     go_cut [] (fun wc => ∃ (kq : Nat) (x642001_12 : Int), Aside0 (spec_l1Cur_pairSteps.j2 kq x3_2 x4_2 s0_0 t639 t640 t635 x642001_12 = some (r1, r2, r3)) ∧ Aside0 (kq ≤ k2) ∧ Aside0 (Kd.R k37 37 wc w.heap.size (fun k_ => k_ ≠ gb641) u3 x3_2) ∧ Aside0 (wc.heap[gb641]? = some (.cells #[.int .i64 t635, .int .i64 x642001_12] 37 (0, 0))) ∧ Aside0 (IsS105 w0 wc g s0_0 t639 t640) ∧ Aside0 (KeepBut w wc g none) ∧ Aside0 (Below w0.heap.size w0 wc))
     case first =>
      have H := HC13.out
      clear HC13
      by_cases c22 : t635 = 4
      rotate_left
      ·rw [if_neg c22] at H
       have c22b0 : (t635 == 4) = false := beq_eq_false_iff_ne.mpr c22
       have c22b1 : (t635 != 4) = true := bne_iff_ne.mpr c22
       (first | rw [c22b0] | (simp only [i64_w, i32_w]; rw [c22b0]) | skip)
       have H' := Aside0.mk H
       clear H
       go_wp2
       go_meet
       case rel => exact ⟨_, (t638), H', ⟨by have := HJ3.out; have := HK2.out; first | omega | exact Nat.le_refl _⟩, ⟨by (with_reducible repeat (first | apply Kd.R_alloc | apply Kd.R_drewN | apply Kd.R_drew)); exact Kd.R_mono (Kd.R_far (p := ⟨gb641, 1, none⟩) (Kd.R_far (p := ⟨gb641, 0, none⟩) (Kd.R_mono HO_3.out (fun k_ hk => (⟨hk, hk.2⟩ : _ ∧ k_ ≠ gb641))) (fun _ hk => hk.2) (.int .i64 t635)) (fun _ hk => hk.2) (.int .i64 t638)) (fun _ hk => hk.1.2)⟩, ⟨by (with_reducible repeat (first | refine blk_drewN ?_ _ | refine blk_drew ?_ | refine blk_alloc ?_ _)); refine blk_put (cs := #[.int .i64 t635, .int .i64 0]) ?_ 1 _ rfl; (with_reducible repeat (first | refine blk_drewN ?_ _ | refine blk_drew ?_ | refine blk_alloc ?_ _)); refine blk_put (cs := #[.int .i64 0, .int .i64 0]) ?_ 0 _ rfl; (with_reducible repeat (first | refine blk_drewN ?_ _ | refine blk_drew ?_ | refine blk_alloc ?_ _)); exact BK641.out⟩, ⟨by repeat (first | (with_reducible first | exact HI0.out | apply IsS105.alloc | apply IsS105.drewN | apply IsS105.drew | apply IsS105.set_1 | apply IsS105.set_2 | refine IsS105.far ?_ NB0_641.out _) | exact HI0.out)⟩, ⟨by repeat (first | (with_reducible first | exact HK.out | apply KeepBut.set_ | apply keep_drewN | apply keep_drew | apply keep_alloc | refine keep_far ?_ GW641.out _) | exact HK.out)⟩, ⟨by repeat (first | (with_reducible first | exact HB.out | apply below_alloc | apply pw_below_drewN | apply below_drew1 | refine below_set ?_ (IsS105.ge HI0.out) | refine below_set ?_ GE641.out) | exact HB.out)⟩⟩
      rw [if_pos c22] at H
      have c22b0 : (t635 == 4) = true := beq_iff_eq.mpr c22
      have c22b1 : (t635 != 4) = false := bne_eq_false_iff_eq.mpr c22
      clear c22
      (first | rw [c22b0] | (simp only [i64_w, i32_w]; rw [c22b0]) | skip)
      have H' := Aside0.mk H
      clear H
      have hnb23 := NB641_0.out
      have hnc23 := NB0_641.out
      have hcz24_0 : w19.cell? ⟨gb641, 0, none⟩ = some (.int .i64 0) := bc_ BK641 0
      have hcz24_1 : w19.cell? ⟨gb641, 1, none⟩ = some (.int .i64 0) := bc_ BK641 1
      have hfz24_0 := blk_frozen BK641.out 0
      have hfz24_1 := blk_frozen BK641.out 1
      go_wp2
      go_meet
      case rel => exact ⟨_, (0), H', ⟨by have := HJ3.out; have := HK2.out; first | omega | exact Nat.le_refl _⟩, ⟨by (with_reducible repeat (first | apply Kd.R_alloc | apply Kd.R_drewN | apply Kd.R_drew)); exact Kd.R_mono (Kd.R_far (p := ⟨gb641, 1, none⟩) (Kd.R_far (p := ⟨gb641, 1, none⟩) (Kd.R_far (p := ⟨gb641, 0, none⟩) (Kd.R_mono HO_3.out (fun k_ hk => (⟨hk, hk.2⟩ : _ ∧ k_ ≠ gb641))) (fun _ hk => hk.2) (.int .i64 t635)) (fun _ hk => hk.2) (.int .i64 t638)) (fun _ hk => hk.2) (.int .i64 0)) (fun _ hk => hk.1.2)⟩, ⟨by (with_reducible repeat (first | refine blk_drewN ?_ _ | refine blk_drew ?_ | refine blk_alloc ?_ _)); refine blk_put (cs := #[.int .i64 t635, .int .i64 t638]) ?_ 1 _ rfl; (with_reducible repeat (first | refine blk_drewN ?_ _ | refine blk_drew ?_ | refine blk_alloc ?_ _)); refine blk_put (cs := #[.int .i64 t635, .int .i64 0]) ?_ 1 _ rfl; (with_reducible repeat (first | refine blk_drewN ?_ _ | refine blk_drew ?_ | refine blk_alloc ?_ _)); refine blk_put (cs := #[.int .i64 0, .int .i64 0]) ?_ 0 _ rfl; (with_reducible repeat (first | refine blk_drewN ?_ _ | refine blk_drew ?_ | refine blk_alloc ?_ _)); exact BK641.out⟩, ⟨by repeat (first | (with_reducible first | exact HI0.out | apply IsS105.alloc | apply IsS105.drewN | apply IsS105.drew | apply IsS105.set_1 | apply IsS105.set_2 | refine IsS105.far ?_ NB0_641.out _) | exact HI0.out)⟩, ⟨by repeat (first | (with_reducible first | exact HK.out | apply KeepBut.set_ | apply keep_drewN | apply keep_drew | apply keep_alloc | refine keep_far ?_ GW641.out _) | exact HK.out)⟩, ⟨by repeat (first | (with_reducible first | exact HB.out | apply below_alloc | apply pw_below_drewN | apply below_drew1 | refine below_set ?_ (IsS105.ge HI0.out) | refine below_set ?_ GE641.out) | exact HB.out)⟩⟩
     case rest =>
      clear HC13
      try clear c10
      try clear c10b0
      try clear hcz21_0
      try clear hcz21_1
      try clear hfz21_0
      try clear hfz21_1
      obtain ⟨kq, x642001_12, HA, HJ12, HO_3, BK641, HI0, HK, HB⟩ := hcut
      cases kq with
      | zero => exact absurd HA.out (by simp [spec_l1Cur_pairSteps.j2])
      | succ kj12 =>
       have H := HA.out
       clear HA
       simp only [spec_l1Cur_pairSteps.j2] at H
       replace H := Option.bind_eq_some_iff.mp H
       obtain ⟨⟨t642, t643, t644⟩, A250, H⟩ := H
       replace H : (if t642 = true then ((spec_l1Cur_pick.f s0_0 t643 t644 6).bind fun bt645 => ((spec_l1Cur_pick.f s0_0 bt645.2.1 bt645.2.2 5).bind fun bt648 => (if x3_2.length < 8796093022208 then (spec_l1Cur_pairSteps.l0 kj12 (x3_2 ++ [(⟨bt645.1, wrap64 (bt648.1 - 1)⟩ : S37)]) (wrap64 (x4_2 - 1)) s0_0 bt648.2.1 bt648.2.2) else (none)))) else (if x3_2.length < 8796093022208 then (spec_l1Cur_pairSteps.l0 kj12 (x3_2 ++ [(⟨t635, x642001_12⟩ : S37)]) (wrap64 (x4_2 - 1)) s0_0 t643 t644) else (none))) = some (r1, r2, r3) := H
       have A25 := Aside0.mk A250
       clear A250
       by_cases c26 : t642 = true
       rotate_left
       ·replace c26 := Bool.eq_false_iff.mpr c26
        subst c26
        rw [if_neg (show ¬ (false = true) by decide)] at H
        by_cases c36 : x3_2.length < 8796093022208
        rotate_left
        ·rw [if_neg c36] at H
         exact absurd H (by simp)
        rw [if_pos c36] at H
        have LMc36 := Aside0.mk c36
        clear c36
        obtain ⟨y654, hy654⟩ : ∃ y_ : List (S37), y_ = (x3_2 ++ [(⟨t635, x642001_12⟩ : S37)]) := ⟨_, rfl⟩
        replace H : (spec_l1Cur_pairSteps.l0 kj12 y654 (wrap64 (x4_2 - 1)) s0_0 t643 t644) = some (r1, r2, r3) := by first | (rw [hy654]; with_reducible exact H) | (have H2_ := (Option.bind_some _ _).symm.trans H; rw [hy654]; with_reducible exact H2_) | (have H2_ := (Option.bind_some _ _).symm.trans H; with_reducible exact H2_) | with_reducible exact H | (rw [hy654]; exact H) | exact H
        have Ny654 := Aside0.mk hy654
        clear hy654
        have H' := Aside0.mk H
        clear H
        go_wp2_with (first | ((with_reducible refine gate_callee (f := 95) rfl ?_); refine goesL_ (some 28) rfl rfl Try.func95 (by kernel_rfl) rfl #[.pointer (some ⟨g, 0, none⟩), .int .i64 30] rfl tm_ ?_; (with_reducible refine (spec_l1Cur_one.calls g s0_0 t639 t640 30 false t643 t644 w0 _ ?side1 ?side2 A25.out).mono ?_); (case side1 => repeat (first | (with_reducible first | exact HI0.out | apply IsS105.alloc | apply IsS105.drewN | apply IsS105.drew | apply IsS105.set_1 | apply IsS105.set_2 | refine IsS105.far ?_ NB0_641.out _) | exact HI0.out)); (case side2 => repeat (first | (with_reducible first | exact HB.out | apply below_alloc | apply pw_below_drewN | apply below_drew1 | refine below_set ?_ (IsS105.ge HI0.out) | refine below_set ?_ GE641.out) | exact HB.out)); rintro e w37 ⟨rfl, hi, hb, hk⟩; refine ⟨_, rfl, ?_⟩; replace HO_3 := Aside0.mk (Kd.R_mono (Kd.R_keep (IsS105.apart (show IsS105 w0 _ g s0_0 t639 t640 from by repeat (first | (with_reducible first | exact HI0.out | apply IsS105.alloc | apply IsS105.drewN | apply IsS105.drew | apply IsS105.set_1 | apply IsS105.set_2 | refine IsS105.far ?_ NB0_641.out _) | exact HI0.out)) (ra HO_3.out) (by decide)) hk (fun _ h => h.2)) (fun _ h => h.1)); replace BK641 := Aside0.mk (KeepBut.blk hk (g' := gb641) (o := .cells #[.int .i64 t635, .int .i64 x642001_12] 37 (0, 0)) (ba BK641.out) NB641_0.out (by simp)); replace HK := Aside0.mk (KeepBut.trans (by repeat (first | (with_reducible first | exact HK.out | apply KeepBut.set_ | apply keep_drewN | apply keep_drew | apply keep_alloc | refine keep_far ?_ GW641.out _) | exact HK.out)) hk (.inl rfl)); replace HB := Aside0.mk (hb); replace HI0 := Aside0.mk (hi); clear hb hk hi; have hnb38 := NB641_0.out; have hnc38 := NB0_641.out; have hcz39_0 : w37.cell? ⟨gb641, 0, none⟩ = some (.int .i64 t635) := bc_ BK641 0; have hcz39_1 : w37.cell? ⟨gb641, 1, none⟩ = some (.int .i64 x642001_12) := bc_ BK641 1; have hfz39_0 := blk_frozen BK641.out 0; have hfz39_1 := blk_frozen BK641.out 1) | ((with_reducible refine gate_builtin (b := .append) (xs := #[.tmp 35, .tmp 37]) rfl ?_); at_builtin; refine Kd.R_append k37 w.heap.size rfl (.tmp 35) (.tmp 37) 53 37 (.agg #[(.int .i64 0), (.int .i64 0)]) 16 rfl Try.underlying53 info37 rfl (by decide) (by omega) u3 x3_2 (⟨t635, x642001_12⟩ : S37) [.int .i64 t635, .int .i64 x642001_12] (fun k_ => k_ ≠ gb641) (fun _ => False) rfl rfl ?aP (fun _ hk => hk.elim) ?aF ?aO (Below.refl _ _) ?aS ?aL ?_; (case aP => exact k37_mkM _ _ _ (⟨t635, x642001_12⟩ : S37)); (case aF => exact (fun k_ hk => Kd.freshB (g := gb641) (o := .cells #[.int .i64 t635, .int .i64 x642001_12] 37 (0, 0)) (ba BK641.out) k_ hk)); (case aO => exact (ra HO_3.out)); (case aS => exact (keep_size (w := w) (g := g) (row := none) (by repeat (first | (with_reducible first | exact HK.out | apply KeepBut.set_ | apply keep_drewN | apply keep_drew | apply keep_alloc | refine keep_far ?_ GW641.out _) | exact HK.out)))); (case aL => have := LMc36.out; omega); intro v655 w40 ho hb hg hat; rw [← Ny654.out] at ho; have HO656 := Aside0.mk (ho); replace BK641 := Aside0.mk (blk_grown (g := gb641) (o := .cells #[.int .i64 t635, .int .i64 x642001_12] 37 (0, 0)) (ba BK641.out) hg (Kd.R_away HO_3.out (fun _ hk => hk))); replace HB := Aside0.mk (below_weaken (by repeat (first | (with_reducible first | exact HB.out | apply below_alloc | apply pw_below_drewN | apply below_drew1 | refine below_set ?_ (IsS105.ge HI0.out) | refine below_set ?_ GE641.out) | exact HB.out)) HL.out hb); replace HI0 := Aside0.mk (IsS105.grownF HI0.out hg (IsS105.own_ne HI0.out HO_3.out (by decide)) (by intro h_; repeat (first | (with_reducible first | exact h_ | apply IsS105.alloc | apply IsS105.drewN | apply IsS105.drew | apply IsS105.set_1 | apply IsS105.set_2 | refine IsS105.far ?_ NB0_641.out _) | exact h_))); replace HK := Aside0.mk (KeepBut.trans (by repeat (first | (with_reducible first | exact HK.out | apply KeepBut.set_ | apply keep_drewN | apply keep_drew | apply keep_alloc | refine keep_far ?_ GW641.out _) | exact HK.out)) (KeepBut.of_grown hg g) (Kd.R_base2 HO_3.out)); clear HO_3; clear ho hb hg hat))
        go_roundg kj12
        case measure => have := HJ3.out; have := HK2.out; have := HJ12.out; omega
        case rel => exact ⟨(y654), (wrap64 (x4_2 - 1)), (t643), (t644), (by first | rfl | (simp; done) | (simp [*]; done)), H', ⟨by have := HJ3.out; have := HK2.out; have := HJ12.out; omega⟩, rm_ HO656 (fun _ hk => trivial), ⟨by repeat (first | (with_reducible first | exact HI0.out | apply IsS105.alloc | apply IsS105.drewN | apply IsS105.drew | apply IsS105.set_1 | apply IsS105.set_2 | refine IsS105.far ?_ NB0_641.out _) | exact HI0.out)⟩, ⟨by repeat (first | (with_reducible first | exact HK.out | apply KeepBut.set_ | apply keep_drewN | apply keep_drew | apply keep_alloc | refine keep_far ?_ GW641.out _) | exact HK.out)⟩, ⟨by repeat (first | (with_reducible first | exact HB.out | apply below_alloc | apply pw_below_drewN | apply below_drew1 | refine below_set ?_ (IsS105.ge HI0.out) | refine below_set ?_ GE641.out) | exact HB.out)⟩⟩
       subst c26
       rw [if_pos rfl] at H
       replace H := Option.bind_eq_some_iff.mp H
       obtain ⟨⟨t645, t646, t647⟩, A270, H⟩ := H
       replace H : ((spec_l1Cur_pick.f s0_0 t646 t647 5).bind fun bt648 => (if x3_2.length < 8796093022208 then (spec_l1Cur_pairSteps.l0 kj12 (x3_2 ++ [(⟨t645, wrap64 (bt648.1 - 1)⟩ : S37)]) (wrap64 (x4_2 - 1)) s0_0 bt648.2.1 bt648.2.2) else (none))) = some (r1, r2, r3) := H
       have A27 := Aside0.mk A270
       clear A270
       replace H := Option.bind_eq_some_iff.mp H
       obtain ⟨⟨t648, t649, t650⟩, A280, H⟩ := H
       replace H : (if x3_2.length < 8796093022208 then (spec_l1Cur_pairSteps.l0 kj12 (x3_2 ++ [(⟨t645, wrap64 (t648 - 1)⟩ : S37)]) (wrap64 (x4_2 - 1)) s0_0 t649 t650) else (none)) = some (r1, r2, r3) := H
       have A28 := Aside0.mk A280
       clear A280
       by_cases c29 : x3_2.length < 8796093022208
       rotate_left
       ·rw [if_neg c29] at H
        exact absurd H (by simp)
       rw [if_pos c29] at H
       have LMc29 := Aside0.mk c29
       clear c29
       obtain ⟨y651, hy651⟩ : ∃ y_ : List (S37), y_ = (x3_2 ++ [(⟨t645, wrap64 (t648 - 1)⟩ : S37)]) := ⟨_, rfl⟩
       replace H : (spec_l1Cur_pairSteps.l0 kj12 y651 (wrap64 (x4_2 - 1)) s0_0 t649 t650) = some (r1, r2, r3) := by first | (rw [hy651]; with_reducible exact H) | (have H2_ := (Option.bind_some _ _).symm.trans H; rw [hy651]; with_reducible exact H2_) | (have H2_ := (Option.bind_some _ _).symm.trans H; with_reducible exact H2_) | with_reducible exact H | (rw [hy651]; exact H) | exact H
       have Ny651 := Aside0.mk hy651
       clear hy651
       have H' := Aside0.mk H
       clear H
       go_wp2_with (first | ((with_reducible refine gate_callee (f := 95) rfl ?_); refine goesL_ (some 28) rfl rfl Try.func95 (by kernel_rfl) rfl #[.pointer (some ⟨g, 0, none⟩), .int .i64 30] rfl tm_ ?_; (with_reducible refine (spec_l1Cur_one.calls g s0_0 t639 t640 30 true t643 t644 w0 _ ?side1 ?side2 A25.out).mono ?_); (case side1 => repeat (first | (with_reducible first | exact HI0.out | apply IsS105.alloc | apply IsS105.drewN | apply IsS105.drew | apply IsS105.set_1 | apply IsS105.set_2 | refine IsS105.far ?_ NB0_641.out _) | exact HI0.out)); (case side2 => repeat (first | (with_reducible first | exact HB.out | apply below_alloc | apply pw_below_drewN | apply below_drew1 | refine below_set ?_ (IsS105.ge HI0.out) | refine below_set ?_ GE641.out) | exact HB.out)); rintro e w30 ⟨rfl, hi, hb, hk⟩; refine ⟨_, rfl, ?_⟩; replace HO_3 := Aside0.mk (Kd.R_mono (Kd.R_keep (IsS105.apart (show IsS105 w0 _ g s0_0 t639 t640 from by repeat (first | (with_reducible first | exact HI0.out | apply IsS105.alloc | apply IsS105.drewN | apply IsS105.drew | apply IsS105.set_1 | apply IsS105.set_2 | refine IsS105.far ?_ NB0_641.out _) | exact HI0.out)) (ra HO_3.out) (by decide)) hk (fun _ h => h.2)) (fun _ h => h.1)); replace BK641 := Aside0.mk (KeepBut.blk hk (g' := gb641) (o := .cells #[.int .i64 t635, .int .i64 x642001_12] 37 (0, 0)) (ba BK641.out) NB641_0.out (by simp)); replace HK := Aside0.mk (KeepBut.trans (by repeat (first | (with_reducible first | exact HK.out | apply KeepBut.set_ | apply keep_drewN | apply keep_drew | apply keep_alloc | refine keep_far ?_ GW641.out _) | exact HK.out)) hk (.inl rfl)); replace HB := Aside0.mk (hb); replace HI0 := Aside0.mk (hi); clear hb hk hi) | ((with_reducible refine gate_callee (f := 94) rfl ?_); refine goesL_ (some 30) rfl rfl Try.func94 (by kernel_rfl) rfl #[.pointer (some ⟨g, 0, none⟩), .int .i64 6] rfl tm_ ?_; (with_reducible refine (spec_l1Cur_pick.calls g s0_0 t643 t644 6 t645 t646 t647 w0 _ ?side1 ?side2 A27.out).mono ?_); (case side1 => repeat (first | (with_reducible first | exact HI0.out | apply IsS105.alloc | apply IsS105.drewN | apply IsS105.drew | apply IsS105.set_1 | apply IsS105.set_2 | refine IsS105.far ?_ NB0_641.out _) | exact HI0.out)); (case side2 => repeat (first | (with_reducible first | exact HB.out | apply below_alloc | apply pw_below_drewN | apply below_drew1 | refine below_set ?_ (IsS105.ge HI0.out) | refine below_set ?_ GE641.out) | exact HB.out)); rintro e w31 ⟨rfl, hi, hb, hk⟩; refine ⟨_, rfl, ?_⟩; replace HO_3 := Aside0.mk (Kd.R_mono (Kd.R_keep (IsS105.apart (show IsS105 w0 _ g s0_0 t643 t644 from by repeat (first | (with_reducible first | exact HI0.out | apply IsS105.alloc | apply IsS105.drewN | apply IsS105.drew | apply IsS105.set_1 | apply IsS105.set_2 | refine IsS105.far ?_ NB0_641.out _) | exact HI0.out)) (ra HO_3.out) (by decide)) hk (fun _ h => h.2)) (fun _ h => h.1)); replace BK641 := Aside0.mk (KeepBut.blk hk (g' := gb641) (o := .cells #[.int .i64 t635, .int .i64 x642001_12] 37 (0, 0)) (ba BK641.out) NB641_0.out (by simp)); replace HK := Aside0.mk (KeepBut.trans (by repeat (first | (with_reducible first | exact HK.out | apply KeepBut.set_ | apply keep_drewN | apply keep_drew | apply keep_alloc | refine keep_far ?_ GW641.out _) | exact HK.out)) hk (.inl rfl)); replace HB := Aside0.mk (hb); replace HI0 := Aside0.mk (hi); clear hb hk hi) | ((with_reducible refine gate_callee (f := 94) rfl ?_); refine goesL_ (some 32) rfl rfl Try.func94 (by kernel_rfl) rfl #[.pointer (some ⟨g, 0, none⟩), .int .i64 5] rfl tm_ ?_; (with_reducible refine (spec_l1Cur_pick.calls g s0_0 t646 t647 5 t648 t649 t650 w0 _ ?side1 ?side2 A28.out).mono ?_); (case side1 => repeat (first | (with_reducible first | exact HI0.out | apply IsS105.alloc | apply IsS105.drewN | apply IsS105.drew | apply IsS105.set_1 | apply IsS105.set_2 | refine IsS105.far ?_ NB0_641.out _) | exact HI0.out)); (case side2 => repeat (first | (with_reducible first | exact HB.out | apply below_alloc | apply pw_below_drewN | apply below_drew1 | refine below_set ?_ (IsS105.ge HI0.out) | refine below_set ?_ GE641.out) | exact HB.out)); rintro e w32 ⟨rfl, hi, hb, hk⟩; refine ⟨_, rfl, ?_⟩; replace HO_3 := Aside0.mk (Kd.R_mono (Kd.R_keep (IsS105.apart (show IsS105 w0 _ g s0_0 t646 t647 from by repeat (first | (with_reducible first | exact HI0.out | apply IsS105.alloc | apply IsS105.drewN | apply IsS105.drew | apply IsS105.set_1 | apply IsS105.set_2 | refine IsS105.far ?_ NB0_641.out _) | exact HI0.out)) (ra HO_3.out) (by decide)) hk (fun _ h => h.2)) (fun _ h => h.1)); replace BK641 := Aside0.mk (KeepBut.blk hk (g' := gb641) (o := .cells #[.int .i64 t635, .int .i64 x642001_12] 37 (0, 0)) (ba BK641.out) NB641_0.out (by simp)); replace HK := Aside0.mk (KeepBut.trans (by repeat (first | (with_reducible first | exact HK.out | apply KeepBut.set_ | apply keep_drewN | apply keep_drew | apply keep_alloc | refine keep_far ?_ GW641.out _) | exact HK.out)) hk (.inl rfl)); replace HB := Aside0.mk (hb); replace HI0 := Aside0.mk (hi); clear hb hk hi; have hnb33 := NB641_0.out; have hnc33 := NB0_641.out; have hcz34_0 : w32.cell? ⟨gb641, 0, none⟩ = some (.int .i64 t635) := bc_ BK641 0; have hcz34_1 : w32.cell? ⟨gb641, 1, none⟩ = some (.int .i64 x642001_12) := bc_ BK641 1; have hfz34_0 := blk_frozen BK641.out 0; have hfz34_1 := blk_frozen BK641.out 1) | ((with_reducible refine gate_builtin (b := .append) (xs := #[.tmp 35, .tmp 37]) rfl ?_); at_builtin; refine Kd.R_append k37 w.heap.size rfl (.tmp 35) (.tmp 37) 53 37 (.agg #[(.int .i64 0), (.int .i64 0)]) 16 rfl Try.underlying53 info37 rfl (by decide) (by omega) u3 x3_2 (⟨t645, wrap64 (t648 - 1)⟩ : S37) [.int .i64 t645, .int .i64 (wrap64 (t648 - 1))] (fun k_ => k_ ≠ gb641) (fun _ => False) rfl (by first | (go_simp; done) | (go_simp; rfl)) ?aP (fun _ hk => hk.elim) ?aF ?aO (Below.refl _ _) ?aS ?aL ?_; (case aP => exact k37_mkM _ _ _ (⟨t645, wrap64 (t648 - 1)⟩ : S37)); (case aF => exact (fun k_ hk => Kd.freshB (g := gb641) (o := .cells #[.int .i64 t645, .int .i64 (wrap64 (t648 - 1))] 37 (0, 0)) (by (with_reducible repeat (first | refine blk_drewN ?_ _ | refine blk_drew ?_ | refine blk_alloc ?_ _)); refine blk_put (cs := #[.int .i64 t645, .int .i64 x642001_12]) ?_ 1 _ rfl; (with_reducible repeat (first | refine blk_drewN ?_ _ | refine blk_drew ?_ | refine blk_alloc ?_ _)); refine blk_put (cs := #[.int .i64 t635, .int .i64 x642001_12]) ?_ 0 _ rfl; (with_reducible repeat (first | refine blk_drewN ?_ _ | refine blk_drew ?_ | refine blk_alloc ?_ _)); exact BK641.out) k_ hk)); (case aO => exact (ra (Kd.R_mono (Kd.R_far (p := ⟨gb641, 1, none⟩) (Kd.R_far (p := ⟨gb641, 0, none⟩) (Kd.R_mono HO_3.out (fun k_ hk => (⟨hk, hk⟩ : _ ∧ k_ ≠ gb641))) (fun _ hk => hk.2) (.int .i64 t645)) (fun _ hk => hk.2) (.int .i64 (wrap64 (t648 - 1)))) (fun _ hk => hk.1)))); (case aS => exact (keep_size (w := w) (g := g) (row := none) (by repeat (first | (with_reducible first | exact HK.out | apply KeepBut.set_ | apply keep_drewN | apply keep_drew | apply keep_alloc | refine keep_far ?_ GW641.out _) | exact HK.out)))); (case aL => have := LMc29.out; omega); intro v652 w35 ho hb hg hat; rw [← Ny651.out] at ho; have HO653 := Aside0.mk (ho); replace BK641 := Aside0.mk (blk_grown (g := gb641) (o := .cells #[.int .i64 t645, .int .i64 (wrap64 (t648 - 1))] 37 (0, 0)) (by (with_reducible repeat (first | refine blk_drewN ?_ _ | refine blk_drew ?_ | refine blk_alloc ?_ _)); refine blk_put (cs := #[.int .i64 t645, .int .i64 x642001_12]) ?_ 1 _ rfl; (with_reducible repeat (first | refine blk_drewN ?_ _ | refine blk_drew ?_ | refine blk_alloc ?_ _)); refine blk_put (cs := #[.int .i64 t635, .int .i64 x642001_12]) ?_ 0 _ rfl; (with_reducible repeat (first | refine blk_drewN ?_ _ | refine blk_drew ?_ | refine blk_alloc ?_ _)); exact BK641.out) hg (Kd.R_away HO_3.out (fun _ hk => hk))); replace HB := Aside0.mk (below_weaken (by repeat (first | (with_reducible first | exact HB.out | apply below_alloc | apply pw_below_drewN | apply below_drew1 | refine below_set ?_ (IsS105.ge HI0.out) | refine below_set ?_ GE641.out) | exact HB.out)) HL.out hb); replace HI0 := Aside0.mk (IsS105.grownF HI0.out hg (IsS105.own_ne HI0.out HO_3.out (by decide)) (by intro h_; repeat (first | (with_reducible first | exact h_ | apply IsS105.alloc | apply IsS105.drewN | apply IsS105.drew | apply IsS105.set_1 | apply IsS105.set_2 | refine IsS105.far ?_ NB0_641.out _) | exact h_))); replace HK := Aside0.mk (KeepBut.trans (by repeat (first | (with_reducible first | exact HK.out | apply KeepBut.set_ | apply keep_drewN | apply keep_drew | apply keep_alloc | refine keep_far ?_ GW641.out _) | exact HK.out)) (KeepBut.of_grown hg g) (Kd.R_base2 HO_3.out)); clear HO_3; clear ho hb hg hat))
       go_roundg kj12
       case measure => have := HJ3.out; have := HK2.out; have := HJ12.out; omega
       case rel => exact ⟨(y651), (wrap64 (x4_2 - 1)), (t649), (t650), (by first | rfl | (simp; done) | (simp [*]; done)), H', ⟨by have := HJ3.out; have := HK2.out; have := HJ12.out; omega⟩, rm_ HO653 (fun _ hk => trivial), ⟨by repeat (first | (with_reducible first | exact HI0.out | apply IsS105.alloc | apply IsS105.drewN | apply IsS105.drew | apply IsS105.set_1 | apply IsS105.set_2 | refine IsS105.far ?_ NB0_641.out _) | exact HI0.out)⟩, ⟨by repeat (first | (with_reducible first | exact HK.out | apply KeepBut.set_ | apply keep_drewN | apply keep_drew | apply keep_alloc | refine keep_far ?_ GW641.out _) | exact HK.out)⟩, ⟨by repeat (first | (with_reducible first | exact HB.out | apply below_alloc | apply pw_below_drewN | apply below_drew1 | refine below_set ?_ (IsS105.ge HI0.out) | refine below_set ?_ GE641.out) | exact HB.out)⟩⟩

mutual
def impl_GoodPair.j0 : Nat → Bool → List Int → List Int → List (S45) → Option (Bool)
 | 0, _, _, _, _ => none
 | k + 1, x34, x723000, x723001, x723002 => if x34 = true then (some false) else (impl_GoodPair.l0 k x723001 (x723001.length : Int) 0 x723000 x723001 x723002)
def impl_GoodPair.l0 : Nat → List Int → Int → Int → List Int → List Int → List (S45) → Option (Bool)
 | 0, _, _, _, _, _, _ => none
 | k + 1, x36, x37, x38, x723000, x723001, x723002 => if x38 < x37 then (if 0 ≤ x38 then (if x38 < (x36.length : Int) then (if x38 < (x723000.length : Int) then (if (((rd x36 x38) == 0) != ((rd x723000 x38) == 0)) = true then (some false) else (impl_GoodPair.l0 k x36 x37 (wrap64 (x38 + 1)) x723000 x723001 x723002)) else (none)) else (none)) else (none)) else (impl_GoodPair.l1 k x723002 (x723002.length : Int) 0)
def impl_GoodPair.l1 : Nat → List (S45) → Int → Int → Option (Bool)
 | 0, _, _, _ => none
 | k + 1, x54, x55, x56 => if x56 < x55 then (if 0 ≤ x56 then (if x56 < (x54.length : Int) then ((impl_in.f ((rd_T45 x54 x56).f0) 0 1).bind fun t729 => (if t729 = true then (impl_GoodPair.l1 k x54 x55 (wrap64 (x56 + 1))) else (some false))) else (none)) else (none)) else (some true)
end
def impl_GoodPair.f (k : Nat) (l0_0 : List Int) (l0_1 : List Int) (l0_2 : List (S45)) : Option (Bool) := if (l0_0.length : Int) = 2 then (if (l0_1.length : Int) = 2 then (if (l0_2.length : Int) > 12 then (impl_GoodPair.j0 k true l0_0 l0_1 l0_2) else ((impl_allIn.f k l0_0 0 2).bind fun t723 => (if t723 = true then ((impl_allIn.f k l0_1 0 3).bind fun t724 => (impl_GoodPair.j0 k (!t724) l0_0 l0_1 l0_2)) else (impl_GoodPair.j0 k true l0_0 l0_1 l0_2)))) else (impl_GoodPair.j0 k true l0_0 l0_1 l0_2)) else (impl_GoodPair.j0 k true l0_0 l0_1 l0_2)
theorem impl_GoodPair.mono_l : ∀ k, (∀ y0 y1 y2 y3, LeO (impl_GoodPair.j0 k y0 y1 y2 y3) (impl_GoodPair.j0 (k + 1) y0 y1 y2 y3)) ∧ (∀ y0 y1 y2 y3 y4 y5, LeO (impl_GoodPair.l0 k y0 y1 y2 y3 y4 y5) (impl_GoodPair.l0 (k + 1) y0 y1 y2 y3 y4 y5)) ∧ (∀ y0 y1 y2, LeO (impl_GoodPair.l1 k y0 y1 y2) (impl_GoodPair.l1 (k + 1) y0 y1 y2))
 | 0 => ⟨fun _ _ _ _ r h => by simp [impl_GoodPair.j0] at h, fun _ _ _ _ _ _ r h => by simp [impl_GoodPair.l0] at h, fun _ _ _ r h => by simp [impl_GoodPair.l1] at h⟩
 | k + 1 => by
  obtain ⟨ih0, ih1, ih2⟩ := impl_GoodPair.mono_l k
  refine ⟨?_, ?_, ?_⟩
  ·intro y0 y1 y2 y3
   unfold impl_GoodPair.j0
   repeat' first
   | (with_reducible exact ih0 _ _ _ _)
   | (with_reducible exact ih1 _ _ _ _ _ _)
   | (with_reducible exact ih2 _ _ _)
   | (with_reducible exact impl_allIn.mono _ _ _ _)
   | (with_reducible exact LeO.refl _)
   | (with_reducible exact LeO.none _)
   | (with_reducible refine LeO.ite ?_ ?_)
   | (with_reducible refine LeO.bind ?_ (fun _ => ?_))
  ·intro y0 y1 y2 y3 y4 y5
   unfold impl_GoodPair.l0
   repeat' first
   | (with_reducible exact ih0 _ _ _ _)
   | (with_reducible exact ih1 _ _ _ _ _ _)
   | (with_reducible exact ih2 _ _ _)
   | (with_reducible exact impl_allIn.mono _ _ _ _)
   | (with_reducible exact LeO.refl _)
   | (with_reducible exact LeO.none _)
   | (with_reducible refine LeO.ite ?_ ?_)
   | (with_reducible refine LeO.bind ?_ (fun _ => ?_))
  ·intro y0 y1 y2
   unfold impl_GoodPair.l1
   repeat' first
   | (with_reducible exact ih0 _ _ _ _)
   | (with_reducible exact ih1 _ _ _ _ _ _)
   | (with_reducible exact ih2 _ _ _)
   | (with_reducible exact impl_allIn.mono _ _ _ _)
   | (with_reducible exact LeO.refl _)
   | (with_reducible exact LeO.none _)
   | (with_reducible refine LeO.ite ?_ ?_)
   | (with_reducible refine LeO.bind ?_ (fun _ => ?_))
theorem impl_GoodPair.mono : ∀ a0 a1 a2 k, LeO (impl_GoodPair.f k a0 a1 a2) (impl_GoodPair.f (k + 1) a0 a1 a2) := by
 intro a0 a1 a2 k
 obtain ⟨ih0, ih1, ih2⟩ := impl_GoodPair.mono_l k
 unfold impl_GoodPair.f
 repeat' first
   | (with_reducible exact ih0 _ _ _ _)
   | (with_reducible exact ih1 _ _ _ _ _ _)
   | (with_reducible exact ih2 _ _ _)
   | (with_reducible exact impl_allIn.mono _ _ _ _)
   | (with_reducible exact LeO.refl _)
   | (with_reducible exact LeO.none _)
   | (with_reducible refine LeO.ite ?_ ?_)
   | (with_reducible refine LeO.bind ?_ (fun _ => ?_))
set_option maxHeartbeats 8000000 in
set_option maxRecDepth 100000 in
theorem impl_GoodPair.calls (k : Nat) (A0_0 : Option Addr) (c0_0 : Nat) (l0_0 : List Int) (A0_1 : Option Addr) (c0_1 : Nat) (l0_1 : List Int) (A0_2 : Option Addr) (c0_2 : Nat) (l0_2 : List (S45)) (r : Bool) (w : World) (hr0_0 : Kd.C (Kd.int .i64) w A0_0 l0_0.length l0_0) (hc0_0 : l0_0.length ≤ c0_0) (hr0_1 : Kd.C (Kd.int .i64) w A0_1 l0_1.length l0_1) (hc0_1 : l0_1.length ≤ c0_1) (hr0_2 : Kd.C k45 w A0_2 l0_2.length l0_2) (hc0_2 : l0_2.length ≤ c0_2) (h : impl_GoodPair.f k l0_0 l0_1 l0_2 = some r) :
  Calls Try.prog 21 #[.agg #[.slice A0_0 l0_0.length c0_0, .slice A0_1 l0_1.length c0_1, .slice A0_2 l0_2.length c0_2]] w fun e w' => e = .returned (.bool r) ∧ Below w.heap.size w w' := by
 have hu35 := Try.underlying35
 have hu45 := Try.underlying45
 have HR0_0 := Aside0.mk hr0_0
 have HC0_0 := Aside0.mk hc0_0
 clear hr0_0 hc0_0
 have HR0_1 := Aside0.mk hr0_1
 have HC0_1 := Aside0.mk hc0_1
 clear hr0_1 hc0_1
 have HR0_2 := Aside0.mk hr0_2
 have HC0_2 := Aside0.mk hc0_2
 clear hr0_2 hc0_2
 have HB := Aside0.mk (Below.refl w.heap.size w)
 have H : (if (l0_0.length : Int) = 2 then (if (l0_1.length : Int) = 2 then (if (l0_2.length : Int) > 12 then (impl_GoodPair.j0 k true l0_0 l0_1 l0_2) else ((impl_allIn.f k l0_0 0 2).bind fun t723 => (if t723 = true then ((impl_allIn.f k l0_1 0 3).bind fun t724 => (impl_GoodPair.j0 k (!t724) l0_0 l0_1 l0_2)) else (impl_GoodPair.j0 k true l0_0 l0_1 l0_2)))) else (impl_GoodPair.j0 k true l0_0 l0_1 l0_2)) else (impl_GoodPair.j0 k true l0_0 l0_1 l0_2)) = some r := h
 clear h
 have HC2 := Aside0.mk H
 clear H
 go_enter Try.func21, Try.ntmps21
 go_upto_region 1 with (first | ((with_reducible refine gate_dst (N := 1) rfl ?_); (try (refine gate_guard (by rfl) ?_; dsimp only)); refine box_event ?hg (N := 1) ?hd (cs := #[.slice A0_0 l0_0.length c0_0, .slice A0_1 l0_1.length c0_1, .slice A0_2 l0_2.length c0_2]) (t := 35) ?hr ?_; (case hd => rfl); (case hg => rfl); (case hr => first | (go_simp; done) | (go_simp; rfl)); intro gb722 hg w3 hbox hb; have BK722 := Aside0.mk (hbox); have GW722 := gw_ hg HB; have GE722 := gw_ hg HB; replace HB := bst_ HB hb; clear hb hbox hg))
 (try simp only [Act.put, List.setIfInBounds_toArray, List.set_cons_zero, List.set_cons_succ])
 go_cut [34] (fun v34 wc => ∃ (kq : Nat) (x34_1 : Bool), v34 = .bool x34_1 ∧ Aside0 (impl_GoodPair.j0 kq x34_1 l0_0 l0_1 l0_2 = some r) ∧ Aside0 (kq ≤ k) ∧ Aside0 (wc.heap[gb722]? = some (.cells #[(.slice A0_0 l0_0.length c0_0), (.slice A0_1 l0_1.length c0_1), (.slice A0_2 l0_2.length c0_2)] 35 (0, 0))) ∧ Aside0 (Below w.heap.size w wc))
 case first =>
  have H := HC2.out
  clear HC2
  by_cases c4 : (l0_0.length : Int) = 2
  rotate_left
  ·rw [if_neg c4] at H
   have c4b0 : ((l0_0.length : Int) == 2) = false := beq_eq_false_iff_ne.mpr c4
   have c4b1 : ((l0_0.length : Int) != 2) = true := bne_iff_ne.mpr c4
   (first | rw [c4b0] | (simp only [i64_w, i32_w]; rw [c4b0]) | skip)
   have H' := Aside0.mk H
   clear H
   have hcz14_0 : w3.cell? ⟨gb722, 0, none⟩ = some (.slice A0_0 l0_0.length c0_0) := bc_ BK722 0
   have hcz14_1 : w3.cell? ⟨gb722, 1, none⟩ = some (.slice A0_1 l0_1.length c0_1) := bc_ BK722 1
   have hcz14_2 : w3.cell? ⟨gb722, 2, none⟩ = some (.slice A0_2 l0_2.length c0_2) := bc_ BK722 2
   have hfz14_0 := blk_frozen BK722.out 0
   have hfz14_1 := blk_frozen BK722.out 1
   have hfz14_2 := blk_frozen BK722.out 2
   go_wp2
   go_meet
   case rel => exact ⟨_, (true), (by first | rfl | (simp; done) | (simp [*]; done)), H', ⟨by first | omega | exact Nat.le_refl _⟩, ⟨by (with_reducible repeat (first | refine blk_drewN ?_ _ | refine blk_drew ?_ | refine blk_alloc ?_ _)); exact BK722.out⟩, ⟨hB HB⟩⟩
  rw [if_pos c4] at H
  have c4b0 : ((l0_0.length : Int) == 2) = true := beq_iff_eq.mpr c4
  have c4b1 : ((l0_0.length : Int) != 2) = false := bne_eq_false_iff_eq.mpr c4
  clear c4
  (first | rw [c4b0] | (simp only [i64_w, i32_w]; rw [c4b0]) | skip)
  by_cases c5 : (l0_1.length : Int) = 2
  rotate_left
  ·rw [if_neg c5] at H
   have c5b0 : ((l0_1.length : Int) == 2) = false := beq_eq_false_iff_ne.mpr c5
   have c5b1 : ((l0_1.length : Int) != 2) = true := bne_iff_ne.mpr c5
   have H' := Aside0.mk H
   clear H
   have hcz13_0 : w3.cell? ⟨gb722, 0, none⟩ = some (.slice A0_0 l0_0.length c0_0) := bc_ BK722 0
   have hcz13_1 : w3.cell? ⟨gb722, 1, none⟩ = some (.slice A0_1 l0_1.length c0_1) := bc_ BK722 1
   have hcz13_2 : w3.cell? ⟨gb722, 2, none⟩ = some (.slice A0_2 l0_2.length c0_2) := bc_ BK722 2
   have hfz13_0 := blk_frozen BK722.out 0
   have hfz13_1 := blk_frozen BK722.out 1
   have hfz13_2 := blk_frozen BK722.out 2
   go_wp2
   go_meet
   case rel => exact ⟨_, (true), (by first | rfl | (simp; done) | (simp [*]; done)), H', ⟨by first | omega | exact Nat.le_refl _⟩, ⟨by (with_reducible repeat (first | refine blk_drewN ?_ _ | refine blk_drew ?_ | refine blk_alloc ?_ _)); exact BK722.out⟩, ⟨hB HB⟩⟩
  rw [if_pos c5] at H
  have c5b0 : ((l0_1.length : Int) == 2) = true := beq_iff_eq.mpr c5
  have c5b1 : ((l0_1.length : Int) != 2) = false := bne_eq_false_iff_eq.mpr c5
  clear c5
  by_cases c6 : (l0_2.length : Int) > 12
  ·rw [if_pos c6] at H
   have c6b0 : decide (12 < (l0_2.length : Int)) = true := decide_eq_true c6
   have c6b1 : decide (12 < l0_2.length) = true := decide_eq_true (by omega)
   clear c6
   have H' := Aside0.mk H
   clear H
   have hcz7_0 : w3.cell? ⟨gb722, 0, none⟩ = some (.slice A0_0 l0_0.length c0_0) := bc_ BK722 0
   have hcz7_1 : w3.cell? ⟨gb722, 1, none⟩ = some (.slice A0_1 l0_1.length c0_1) := bc_ BK722 1
   have hcz7_2 : w3.cell? ⟨gb722, 2, none⟩ = some (.slice A0_2 l0_2.length c0_2) := bc_ BK722 2
   have hfz7_0 := blk_frozen BK722.out 0
   have hfz7_1 := blk_frozen BK722.out 1
   have hfz7_2 := blk_frozen BK722.out 2
   go_wp2
   go_meet
   case rel => exact ⟨_, (true), (by first | rfl | (simp; done) | (simp [*]; done)), H', ⟨by first | omega | exact Nat.le_refl _⟩, ⟨by (with_reducible repeat (first | refine blk_drewN ?_ _ | refine blk_drew ?_ | refine blk_alloc ?_ _)); exact BK722.out⟩, ⟨hB HB⟩⟩
  rw [if_neg c6] at H
  have c6b0 : decide (12 < (l0_2.length : Int)) = false := decide_eq_false c6
  have c6b1 : decide (12 < l0_2.length) = false := decide_eq_false (by omega)
  clear c6
  replace H := Option.bind_eq_some_iff.mp H
  obtain ⟨t723, A80, H⟩ := H
  replace H : (if t723 = true then ((impl_allIn.f k l0_1 0 3).bind fun t724 => (impl_GoodPair.j0 k (!t724) l0_0 l0_1 l0_2)) else (impl_GoodPair.j0 k true l0_0 l0_1 l0_2)) = some r := H
  have A8 := Aside0.mk A80
  clear A80
  by_cases c9 : t723 = true
  rotate_left
  ·replace c9 := Bool.eq_false_iff.mpr c9
   subst c9
   rw [if_neg (show ¬ (false = true) by decide)] at H
   have H' := Aside0.mk H
   clear H
   have hcz12_0 : w3.cell? ⟨gb722, 0, none⟩ = some (.slice A0_0 l0_0.length c0_0) := bc_ BK722 0
   have hcz12_1 : w3.cell? ⟨gb722, 1, none⟩ = some (.slice A0_1 l0_1.length c0_1) := bc_ BK722 1
   have hcz12_2 : w3.cell? ⟨gb722, 2, none⟩ = some (.slice A0_2 l0_2.length c0_2) := bc_ BK722 2
   have hfz12_0 := blk_frozen BK722.out 0
   have hfz12_1 := blk_frozen BK722.out 1
   have hfz12_2 := blk_frozen BK722.out 2
   go_wp2_with (first | (go_at_call 89; (with_reducible refine (impl_allIn.calls k _ _ l0_0 0 2 false _ ?side1 ?side2 A8.out).mono ?_); (case side1 => exact ca (Kd.C_below HR0_0.out HB.out)); (case side2 => exact HC0_0.out); rintro e w' ⟨rfl, ⟨nd, rfl⟩⟩))
   go_meet
   case rel => exact ⟨_, (true), (by first | rfl | (simp; done) | (simp [*]; done)), H', ⟨by first | omega | exact Nat.le_refl _⟩, ⟨by (with_reducible repeat (first | refine blk_drewN ?_ _ | refine blk_drew ?_ | refine blk_alloc ?_ _)); exact BK722.out⟩, ⟨hB HB⟩⟩
  subst c9
  rw [if_pos rfl] at H
  replace H := Option.bind_eq_some_iff.mp H
  obtain ⟨t724, A100, H⟩ := H
  replace H : (impl_GoodPair.j0 k (!t724) l0_0 l0_1 l0_2) = some r := H
  have A10 := Aside0.mk A100
  clear A100
  have H' := Aside0.mk H
  clear H
  have hcz11_0 : w3.cell? ⟨gb722, 0, none⟩ = some (.slice A0_0 l0_0.length c0_0) := bc_ BK722 0
  have hcz11_1 : w3.cell? ⟨gb722, 1, none⟩ = some (.slice A0_1 l0_1.length c0_1) := bc_ BK722 1
  have hcz11_2 : w3.cell? ⟨gb722, 2, none⟩ = some (.slice A0_2 l0_2.length c0_2) := bc_ BK722 2
  have hfz11_0 := blk_frozen BK722.out 0
  have hfz11_1 := blk_frozen BK722.out 1
  have hfz11_2 := blk_frozen BK722.out 2
  go_wp2_with (first | (go_at_call 89; (with_reducible refine (impl_allIn.calls k _ _ l0_0 0 2 true _ ?side1 ?side2 A8.out).mono ?_); (case side1 => exact ca (Kd.C_below HR0_0.out HB.out)); (case side2 => exact HC0_0.out); rintro e w' ⟨rfl, ⟨nd, rfl⟩⟩) | (go_at_call 89; (with_reducible refine (impl_allIn.calls k _ _ l0_1 0 3 t724 _ ?side1 ?side2 A10.out).mono ?_); (case side1 => exact ca (Kd.C_below HR0_1.out (hB HB))); (case side2 => exact HC0_1.out); rintro e w' ⟨rfl, ⟨nd, rfl⟩⟩))
  go_meet
  case rel => exact ⟨_, (!t724), (by first | rfl | (simp; done) | (simp [*]; done)), H', ⟨by first | omega | exact Nat.le_refl _⟩, ⟨by (with_reducible repeat (first | refine blk_drewN ?_ _ | refine blk_drew ?_ | refine blk_alloc ?_ _)); exact BK722.out⟩, ⟨hB HB⟩⟩
 case rest =>
  clear HC2
  obtain ⟨kq, x34_1, rfl, HA, HJ1, BK722, HB⟩ := hcut
  cases kq with
  | zero => exact absurd HA.out (by simp [impl_GoodPair.j0])
  | succ kj1 =>
   have H := HA.out
   clear HA
   simp only [impl_GoodPair.j0] at H
   by_cases c15 : x34_1 = true
   ·subst c15
    rw [if_pos rfl] at H
    obtain rfl := Option.some.inj H
    go_wp2
    go_ret
    exact ⟨by first | rfl | (simp [errW_none, errW_some] <;> rfl) | (simp [*, errW_none, errW_some] <;> rfl), by repeat (first | (with_reducible first | exact HB.out | apply below_alloc | apply pw_below_drewN | apply below_drew1 | refine below_set ?_ GE722.out) | exact HB.out)⟩
   replace c15 := Bool.eq_false_iff.mpr c15
   subst c15
   rw [if_neg (show ¬ (false = true) by decide)] at H
   have H' := Aside0.mk H
   clear H
   have hcz16_0 : wc.cell? ⟨gb722, 0, none⟩ = some (.slice A0_0 l0_0.length c0_0) := bc_ BK722 0
   have hcz16_1 : wc.cell? ⟨gb722, 1, none⟩ = some (.slice A0_1 l0_1.length c0_1) := bc_ BK722 1
   have hcz16_2 : wc.cell? ⟨gb722, 2, none⟩ = some (.slice A0_2 l0_2.length c0_2) := bc_ BK722 2
   have hfz16_0 := blk_frozen BK722.out 0
   have hfz16_1 := blk_frozen BK722.out 1
   have hfz16_2 := blk_frozen BK722.out 2
   go_wp2
   go_loopg [38] kj1 (fun kq v38 w' => ∃ (x38_2 : Int), v38 = .int .i64 x38_2 ∧ Aside0 (impl_GoodPair.l0 kq l0_1 (l0_1.length : Int) x38_2 l0_0 l0_1 l0_2 = some r) ∧ Aside0 (kq ≤ kj1) ∧ Aside0 (w'.heap[gb722]? = some (.cells #[(.slice A0_0 l0_0.length c0_0), (.slice A0_1 l0_1.length c0_1), (.slice A0_2 l0_2.length c0_2)] 35 (0, 0))) ∧ Aside0 (Below w.heap.size w w'))
   case atStart => exact ⟨(0), (by first | rfl | (simp; done) | (simp [*]; done)), H', ⟨Nat.le_refl _⟩, ⟨by (with_reducible repeat (first | refine blk_drewN ?_ _ | refine blk_drew ?_ | refine blk_alloc ?_ _)); exact BK722.out⟩, ⟨hB HB⟩⟩
   case round =>
    clear H'
    try clear c15
    try clear hcz16_0
    try clear hcz16_1
    try clear hcz16_2
    try clear hfz16_0
    try clear hfz16_1
    try clear hfz16_2
    obtain ⟨x38_2, rfl, HA, HK2, BK722, HB⟩ := hrel
    cases gk with
    | zero => exact absurd HA.out (by simp [impl_GoodPair.l0])
    | succ k2 =>
     have H := HA.out
     clear HA
     simp only [impl_GoodPair.l0] at H
     by_cases c17 : x38_2 < (l0_1.length : Int)
     ·rw [if_pos c17] at H
      have c17b0 : decide (x38_2 < (l0_1.length : Int)) = true := decide_eq_true c17
      clear c17
      by_cases c18 : 0 ≤ x38_2
      rotate_left
      ·rw [if_neg c18] at H
       exact absurd H (by simp)
      rw [if_pos c18] at H
      have c18b0 : decide (0 ≤ x38_2) = true := decide_eq_true c18
      clear c18
      by_cases c19 : x38_2 < (l0_1.length : Int)
      rotate_left
      ·rw [if_neg c19] at H
       exact absurd H (by simp)
      rw [if_pos c19] at H
      have c19b0 : decide (x38_2 < (l0_1.length : Int)) = true := decide_eq_true c19
      clear c19
      by_cases c20 : x38_2 < (l0_0.length : Int)
      rotate_left
      ·rw [if_neg c20] at H
       exact absurd H (by simp)
      rw [if_pos c20] at H
      have c20b0 : decide (x38_2 < (l0_0.length : Int)) = true := decide_eq_true c20
      clear c20
      by_cases c21 : (((rd l0_1 x38_2) == 0) != ((rd l0_0 x38_2) == 0)) = true
      rotate_left
      ·rw [if_neg c21] at H
       have c21b0 : (((rd l0_1 x38_2) == 0) != ((rd l0_0 x38_2) == 0)) = false := by simpa using c21
       (try (have c21b1 : decide (((rd l0_1 x38_2) == 0) = ((rd l0_0 x38_2) == 0)) = true := by simpa using c21))
       (try (have c21b2 : (((rd l0_1 x38_2) == 0) == ((rd l0_0 x38_2) == 0)) = true := by simpa using c21))
       clear c21
       have H' := Aside0.mk H
       clear H
       have p725 : 0 ≤ (x38_2 : Int) := of_decide_eq_true (by first | (with_reducible assumption) | assumption)
       have q725 : x38_2 < (l0_1.length : Int) := of_decide_eq_true (by first | (with_reducible assumption) | assumption)
       obtain ⟨ad725, e725, hx725_0⟩ := Kd.at_int HR0_1.out x38_2 p725 q725
       cases e725
       replace hx725_0 := (HB.out.cell (World.block_lt_of_cell? w _ hx725_0)).trans hx725_0
       replace p725 := eq_true p725
       replace q725 := eq_true q725
       have hcz23_0 : wr.cell? ⟨gb722, 0, none⟩ = some (.slice A0_0 l0_0.length c0_0) := bc_ BK722 0
       have hcz23_1 : wr.cell? ⟨gb722, 1, none⟩ = some (.slice (some ad725) l0_1.length c0_1) := bc_ BK722 1
       have hcz23_2 : wr.cell? ⟨gb722, 2, none⟩ = some (.slice A0_2 l0_2.length c0_2) := bc_ BK722 2
       have hfz23_0 := blk_frozen BK722.out 0
       have hfz23_1 := blk_frozen BK722.out 1
       have hfz23_2 := blk_frozen BK722.out 2
       have p726 : 0 ≤ (x38_2 : Int) := of_decide_eq_true (by first | (with_reducible assumption) | assumption)
       have q726 : x38_2 < (l0_0.length : Int) := of_decide_eq_true (by first | (with_reducible assumption) | assumption)
       obtain ⟨ad726, e726, hx726_0⟩ := Kd.at_int HR0_0.out x38_2 p726 q726
       cases e726
       replace hx726_0 := (HB.out.cell (World.block_lt_of_cell? w _ hx726_0)).trans hx726_0
       replace p726 := eq_true p726
       replace q726 := eq_true q726
       go_wp2
       go_roundg k2
       case measure => have := HJ1.out; have := HK2.out; omega
       case rel => exact ⟨(wrap64 (x38_2 + 1)), (by first | rfl | (simp; done) | (simp [*]; done)), H', ⟨by have := HJ1.out; have := HK2.out; omega⟩, ⟨by (with_reducible repeat (first | refine blk_drewN ?_ _ | refine blk_drew ?_ | refine blk_alloc ?_ _)); exact BK722.out⟩, ⟨hB HB⟩⟩
      rw [if_pos c21] at H
      have c21b0 : (((rd l0_1 x38_2) == 0) != ((rd l0_0 x38_2) == 0)) = true := c21
      (try (have c21b1 : decide (((rd l0_1 x38_2) == 0) = ((rd l0_0 x38_2) == 0)) = false := by simpa using c21))
      (try (have c21b2 : (((rd l0_1 x38_2) == 0) == ((rd l0_0 x38_2) == 0)) = false := by simpa using c21))
      (try (have c21b3 : ¬ (((rd l0_1 x38_2) == 0) = ((rd l0_0 x38_2) == 0)) := by simpa using c21))
      clear c21
      obtain rfl := Option.some.inj H
      have p725 : 0 ≤ (x38_2 : Int) := of_decide_eq_true (by first | (with_reducible assumption) | assumption)
      have q725 : x38_2 < (l0_1.length : Int) := of_decide_eq_true (by first | (with_reducible assumption) | assumption)
      obtain ⟨ad725, e725, hx725_0⟩ := Kd.at_int HR0_1.out x38_2 p725 q725
      cases e725
      replace hx725_0 := (HB.out.cell (World.block_lt_of_cell? w _ hx725_0)).trans hx725_0
      replace p725 := eq_true p725
      replace q725 := eq_true q725
      have hcz22_0 : wr.cell? ⟨gb722, 0, none⟩ = some (.slice A0_0 l0_0.length c0_0) := bc_ BK722 0
      have hcz22_1 : wr.cell? ⟨gb722, 1, none⟩ = some (.slice (some ad725) l0_1.length c0_1) := bc_ BK722 1
      have hcz22_2 : wr.cell? ⟨gb722, 2, none⟩ = some (.slice A0_2 l0_2.length c0_2) := bc_ BK722 2
      have hfz22_0 := blk_frozen BK722.out 0
      have hfz22_1 := blk_frozen BK722.out 1
      have hfz22_2 := blk_frozen BK722.out 2
      have p726 : 0 ≤ (x38_2 : Int) := of_decide_eq_true (by first | (with_reducible assumption) | assumption)
      have q726 : x38_2 < (l0_0.length : Int) := of_decide_eq_true (by first | (with_reducible assumption) | assumption)
      obtain ⟨ad726, e726, hx726_0⟩ := Kd.at_int HR0_0.out x38_2 p726 q726
      cases e726
      replace hx726_0 := (HB.out.cell (World.block_lt_of_cell? w _ hx726_0)).trans hx726_0
      replace p726 := eq_true p726
      replace q726 := eq_true q726
      go_wp2
      go_ret
      exact ⟨by first | rfl | (simp [errW_none, errW_some] <;> rfl) | (simp [*, errW_none, errW_some] <;> rfl), by repeat (first | (with_reducible first | exact HB.out | apply below_alloc | apply pw_below_drewN | apply below_drew1 | refine below_set ?_ GE722.out) | exact HB.out)⟩
     rw [if_neg c17] at H
     have c17b0 : decide (x38_2 < (l0_1.length : Int)) = false := decide_eq_false c17
     clear c17
     have H' := Aside0.mk H
     clear H
     have hcz24_0 : wr.cell? ⟨gb722, 0, none⟩ = some (.slice A0_0 l0_0.length c0_0) := bc_ BK722 0
     have hcz24_1 : wr.cell? ⟨gb722, 1, none⟩ = some (.slice A0_1 l0_1.length c0_1) := bc_ BK722 1
     have hcz24_2 : wr.cell? ⟨gb722, 2, none⟩ = some (.slice A0_2 l0_2.length c0_2) := bc_ BK722 2
     have hfz24_0 := blk_frozen BK722.out 0
     have hfz24_1 := blk_frozen BK722.out 1
     have hfz24_2 := blk_frozen BK722.out 2
     go_wp2
     go_loopg [56] k2 (fun kq v56 w' => ∃ (x56_3 : Int), v56 = .int .i64 x56_3 ∧ Aside0 (impl_GoodPair.l1 kq l0_2 (l0_2.length : Int) x56_3 = some r) ∧ Aside0 (kq ≤ k2) ∧ Aside0 (w'.heap[gb722]? = some (.cells #[(.slice A0_0 l0_0.length c0_0), (.slice A0_1 l0_1.length c0_1), (.slice A0_2 l0_2.length c0_2)] 35 (0, 0))) ∧ Aside0 (Below w.heap.size w w'))
     case atStart => exact ⟨(0), (by first | rfl | (simp; done) | (simp [*]; done)), H', ⟨Nat.le_refl _⟩, ⟨by (with_reducible repeat (first | refine blk_drewN ?_ _ | refine blk_drew ?_ | refine blk_alloc ?_ _)); exact BK722.out⟩, ⟨hB HB⟩⟩
     case round =>
      clear H'
      try clear c15
      try clear c17
      try clear c17b0
      try clear hcz16_0
      try clear hcz16_1
      try clear hcz16_2
      try clear hcz24_0
      try clear hcz24_1
      try clear hcz24_2
      try clear hfz16_0
      try clear hfz16_1
      try clear hfz16_2
      try clear hfz24_0
      try clear hfz24_1
      try clear hfz24_2
      obtain ⟨x56_3, rfl, HA, HK3, BK722, HB⟩ := hrel
      cases gk with
      | zero => exact absurd HA.out (by simp [impl_GoodPair.l1])
      | succ k3 =>
       have H := HA.out
       clear HA
       simp only [impl_GoodPair.l1] at H
       by_cases c25 : x56_3 < (l0_2.length : Int)
       rotate_left
       ·rw [if_neg c25] at H
        have c25b0 : decide (x56_3 < (l0_2.length : Int)) = false := decide_eq_false c25
        clear c25
        obtain rfl := Option.some.inj H
        go_wp2
        go_ret
        exact ⟨by first | rfl | (simp [errW_none, errW_some] <;> rfl) | (simp [*, errW_none, errW_some] <;> rfl), by repeat (first | (with_reducible first | exact HB.out | apply below_alloc | apply pw_below_drewN | apply below_drew1 | refine below_set ?_ GE722.out) | exact HB.out)⟩
       rw [if_pos c25] at H
       have c25b0 : decide (x56_3 < (l0_2.length : Int)) = true := decide_eq_true c25
       clear c25
       by_cases c26 : 0 ≤ x56_3
       rotate_left
       ·rw [if_neg c26] at H
        exact absurd H (by simp)
       rw [if_pos c26] at H
       have c26b0 : decide (0 ≤ x56_3) = true := decide_eq_true c26
       clear c26
       by_cases c27 : x56_3 < (l0_2.length : Int)
       rotate_left
       ·rw [if_neg c27] at H
        exact absurd H (by simp)
       rw [if_pos c27] at H
       have c27b0 : decide (x56_3 < (l0_2.length : Int)) = true := decide_eq_true c27
       clear c27
       replace H := Option.bind_eq_some_iff.mp H
       obtain ⟨t729, A280, H⟩ := H
       replace H : (if t729 = true then (impl_GoodPair.l1 k3 l0_2 (l0_2.length : Int) (wrap64 (x56_3 + 1))) else (some false)) = some r := H
       have A28 := Aside0.mk A280
       clear A280
       by_cases c29 : t729 = true
       rotate_left
       ·replace c29 := Bool.eq_false_iff.mpr c29
        subst c29
        rw [if_neg (show ¬ (false = true) by decide)] at H
        obtain rfl := Option.some.inj H
        have p727 : 0 ≤ (x56_3 : Int) := of_decide_eq_true (by first | (with_reducible assumption) | assumption)
        have q727 : x56_3 < (l0_2.length : Int) := of_decide_eq_true (by first | (with_reducible assumption) | assumption)
        obtain ⟨ad727, e727, hx727_0, hx727_1⟩ := at_T45 HR0_2.out x56_3 p727 q727
        cases e727
        replace hx727_0 := (HB.out.cell (World.block_lt_of_cell? w _ hx727_0)).trans hx727_0
        replace hx727_1 := (HB.out.cell (World.block_lt_of_cell? w _ hx727_1)).trans hx727_1
        replace p727 := eq_true p727
        replace q727 := eq_true q727
        go_wp2_with (first | ((with_reducible refine gate_dst (N := 6) rfl ?_); (try (refine gate_guard (by rfl) ?_; dsimp only)); refine box_event ?hg (N := 6) ?hd (cs := #[.int .i64 0, .bool false]) (t := 45) ?hr ?_; (case hd => rfl); (case hg => rfl); (case hr => first | (go_simp; done) | (go_simp; rfl)); intro gb728 hg w33 hbox hb; have BK728 := Aside0.mk (hbox); have GW728 := gw_ hg HB; have GE728 := gw_ hg HB; have NB722_728 := nl_ hg BK722; have NB728_722 := ng_ hg BK722; replace BK722 := bb_ BK722 hb; replace HB := bst_ HB hb; clear hb hbox hg; have hnb34 := NB728_722.out; have hnc34 := NB722_728.out; have hcz35_0 : w33.cell? ⟨gb728, 0, none⟩ = some (.int .i64 0) := bc_ BK728 0; have hcz35_1 : w33.cell? ⟨gb728, 1, none⟩ = some (.bool false) := bc_ BK728 1; have hfz35_0 := blk_frozen BK728.out 0; have hfz35_1 := blk_frozen BK728.out 1) | ((with_reducible refine gate_callee (f := 84) rfl ?_); refine goesL_ (some 62) rfl rfl Try.func84 (by kernel_rfl) rfl #[.int .i64 ((rd_T45 l0_2 x56_3).f0), .int .i64 0, .int .i64 1] rfl tm_ ?_; (with_reducible refine (impl_in.calls ((rd_T45 l0_2 x56_3).f0) 0 1 false _ A28.out).mono ?_); rintro e w' ⟨rfl, ⟨nd, rfl⟩⟩; refine ⟨_, rfl, ?_⟩))
        go_ret
        exact ⟨by first | rfl | (simp [errW_none, errW_some] <;> rfl) | (simp [*, errW_none, errW_some] <;> rfl), by repeat (first | (with_reducible first | exact HB.out | apply below_alloc | apply pw_below_drewN | apply below_drew1 | refine below_set ?_ GE722.out | refine below_set ?_ GE728.out) | exact HB.out)⟩
       subst c29
       rw [if_pos rfl] at H
       have H' := Aside0.mk H
       clear H
       have p727 : 0 ≤ (x56_3 : Int) := of_decide_eq_true (by first | (with_reducible assumption) | assumption)
       have q727 : x56_3 < (l0_2.length : Int) := of_decide_eq_true (by first | (with_reducible assumption) | assumption)
       obtain ⟨ad727, e727, hx727_0, hx727_1⟩ := at_T45 HR0_2.out x56_3 p727 q727
       cases e727
       replace hx727_0 := (HB.out.cell (World.block_lt_of_cell? w _ hx727_0)).trans hx727_0
       replace hx727_1 := (HB.out.cell (World.block_lt_of_cell? w _ hx727_1)).trans hx727_1
       replace p727 := eq_true p727
       replace q727 := eq_true q727
       go_wp2_with (first | ((with_reducible refine gate_dst (N := 6) rfl ?_); (try (refine gate_guard (by rfl) ?_; dsimp only)); refine box_event ?hg (N := 6) ?hd (cs := #[.int .i64 0, .bool false]) (t := 45) ?hr ?_; (case hd => rfl); (case hg => rfl); (case hr => first | (go_simp; done) | (go_simp; rfl)); intro gb728 hg w30 hbox hb; have BK728 := Aside0.mk (hbox); have GW728 := gw_ hg HB; have GE728 := gw_ hg HB; have NB722_728 := nl_ hg BK722; have NB728_722 := ng_ hg BK722; replace BK722 := bb_ BK722 hb; replace HB := bst_ HB hb; clear hb hbox hg; have hnb31 := NB728_722.out; have hnc31 := NB722_728.out; have hcz32_0 : w30.cell? ⟨gb728, 0, none⟩ = some (.int .i64 0) := bc_ BK728 0; have hcz32_1 : w30.cell? ⟨gb728, 1, none⟩ = some (.bool false) := bc_ BK728 1; have hfz32_0 := blk_frozen BK728.out 0; have hfz32_1 := blk_frozen BK728.out 1) | ((with_reducible refine gate_callee (f := 84) rfl ?_); refine goesL_ (some 62) rfl rfl Try.func84 (by kernel_rfl) rfl #[.int .i64 ((rd_T45 l0_2 x56_3).f0), .int .i64 0, .int .i64 1] rfl tm_ ?_; (with_reducible refine (impl_in.calls ((rd_T45 l0_2 x56_3).f0) 0 1 true _ A28.out).mono ?_); rintro e w' ⟨rfl, ⟨nd, rfl⟩⟩; refine ⟨_, rfl, ?_⟩))
       go_roundg k3
       case measure => have := HJ1.out; have := HK2.out; have := HK3.out; omega
       case rel => exact ⟨(wrap64 (x56_3 + 1)), (by first | rfl | (simp; done) | (simp [*]; done)), H', ⟨by have := HJ1.out; have := HK2.out; have := HK3.out; omega⟩, ⟨by (with_reducible repeat (first | refine blk_drewN ?_ _ | refine blk_drew ?_ | refine blk_alloc ?_ _)); refine blk_far ?_ NB722_728.out _; (with_reducible repeat (first | refine blk_drewN ?_ _ | refine blk_drew ?_ | refine blk_alloc ?_ _)); refine blk_far ?_ NB722_728.out _; (with_reducible repeat (first | refine blk_drewN ?_ _ | refine blk_drew ?_ | refine blk_alloc ?_ _)); exact BK722.out⟩, ⟨hB HB⟩⟩

def slices_Clone_int_int.f (l0 : List Int) : Option (List Int) := (some (([] : List Int) : List Int)).bind fun y730 => (if y730.length + l0.length < 17592186044416 then (some (y730 ++ l0)) else (none))
set_option maxHeartbeats 8000000 in
set_option maxRecDepth 100000 in
theorem slices_Clone_int_int.calls (A0 : Option Addr) (c0 : Nat) (l0 : List Int) (r : List Int) (w : World) (hr0 : Kd.C (Kd.int .i64) w A0 l0.length l0) (hc0 : l0.length ≤ c0) (h : slices_Clone_int_int.f l0 = some r) :
  Calls Try.prog 129 #[.slice A0 l0.length c0] w fun e w' => ∃ v0_ : Value, e = .returned (v0_) ∧ Kd.R (Kd.int .i64) 3 w' w.heap.size (fun _ => True) v0_ r ∧ Below w.heap.size w w' := by
 have hq_ : ∀ (w : World) (a : Option Addr) (l c : Nat), (binOp .eql 22 (.slice a l c) (.slice none 0 0)).run Try.prog w = .ok (.bool a.isNone) w := fun w a l c => Go.run_eql_slice_nil w 22 _ a l c Try.underlying22
 rcases A0 with _ | A0
 ·have hl0 : l0 = [] := by
   cases l0 with
   | nil => rfl
   | cons x t => exact absurd (hr0.2.2 (by simp)) (by simp)
  subst hl0
  obtain rfl : r = [] := by
   have := Option.some.inj ((show some ([] : List _) = some r from by simpa [slices_Clone_int_int.f] using h))
   exact this.symm
  go_enter Try.func129, Try.ntmps129
  go_wp2
  go_ret
  exact ⟨_, rfl, Kd.R_nil _ _ _ _ _, Below.refl _ _⟩
 have HR0 := Aside0.mk hr0
 have HC0 := Aside0.mk hc0
 clear hr0 hc0
 have HB := Aside0.mk (Below.refl w.heap.size w)
 have H : ((some (([] : List Int) : List Int)).bind fun y730 => (if y730.length + l0.length < 17592186044416 then (some (y730 ++ l0)) else (none))) = some r := h
 clear h
 obtain ⟨y730, hy730⟩ : ∃ y_ : List Int, y_ = (([] : List Int)) := ⟨_, rfl⟩
 replace H : (if y730.length + l0.length < 17592186044416 then (some (y730 ++ l0)) else (none)) = some r := by first | (rw [hy730]; with_reducible exact H) | (have H2_ := (Option.bind_some _ _).symm.trans H; rw [hy730]; with_reducible exact H2_) | (have H2_ := (Option.bind_some _ _).symm.trans H; with_reducible exact H2_) | with_reducible exact H | (rw [hy730]; exact H) | exact H
 have Ny730 := Aside0.mk hy730
 clear hy730
 by_cases c2 : y730.length + l0.length < 17592186044416
 rotate_left
 ·rw [if_neg c2] at H
  exact absurd H (by simp)
 rw [if_pos c2] at H
 have LMc2 := Aside0.mk c2
 clear c2
 obtain ⟨y733, hy733⟩ : ∃ y_ : List Int, y_ = (y730 ++ l0) := ⟨_, rfl⟩
 replace H : (some y733) = some r := by first | (rw [hy733]; with_reducible exact H) | (have H2_ := (Option.bind_some _ _).symm.trans H; rw [hy733]; with_reducible exact H2_) | (have H2_ := (Option.bind_some _ _).symm.trans H; with_reducible exact H2_) | with_reducible exact H | (rw [hy733]; exact H) | exact H
 have Ny733 := Aside0.mk hy733
 clear hy733
 obtain rfl := Option.some.inj H
 go_enter Try.func129, Try.ntmps129
 go_wp2_with (first | ((with_reducible refine gate_dst (N := 5) rfl ?_); refine Kd.R_lit (Kd.int .i64) _ 3 ?hg (N := 5) ?hd (xs := ([] : List Int)) (inner := []) (ok := fun _ => True) (okp := fun _ => True) ?hr ?hp (fun _ hk => hk) trivial (Below.refl _ _) (Nat.le_refl _) (by simp) ?_; (case hd => rfl); (case hg => rfl); (case hr => first | (go_simp; done) | (go_simp; rfl)); (case hp => exact (Reps.none _ _)); intro v731 w3 ho4 hb hg_ hnew_; clear hg_ hnew_; (first | rw [← Ny730.out] at ho4 | (simp only [Int.reduceToNat] at ho4; rw [← Ny730.out] at ho4)); have HO732 := Aside0.mk (Kd.R_lower ho4 (below_size (hB HB))); replace HB := bst_ HB hb; clear hb ho4) | ((with_reducible refine gate_builtin (b := .append) (xs := #[.tmp 5, .tmp 6]) rfl ?_); at_builtin; refine Kd.R_append_rows (Kd.int .i64) (w0 := w) w.heap.size rfl (.tmp 5) (.tmp 6) 22 3 (.int .i64 0) 8 rfl Try.underlying22 info3 rfl (by decide) (by omega) v731 y730 l0 _ _ _ (fun _ => True) (fun _ => False) rfl rfl ?aO ?aR (fun _ _ h => h) (fun _ h => h.elim) ?aF ?aB ?aS ?aL ?_; (case aR => exact ca (Kd.C_below HR0.out HB.out)); (case aB => exact (hB HB)); (case aF => exact (fun _ _ => trivial)); (case aO => exact (ra HO732.out)); (case aS => exact (below_size (hB HB))); (case aL => have := LMc2.out; omega); intro v734 w5 ho hb hg hat; rw [← Ny733.out] at ho; have HO735 := Aside0.mk (ho); replace HB := Aside0.mk (hb); clear HO732; clear ho hb hg hat))
 go_ret
 exact ⟨_, by first | rfl | (simp [errW_none, errW_some] <;> rfl) | (simp [*, errW_none, errW_some] <;> rfl), by (with_reducible repeat (first | apply Kd.R_alloc | apply Kd.R_drewN | apply Kd.R_drew)); exact HO735.out, by repeat (first | (with_reducible first | exact HB.out | apply below_alloc | apply pw_below_drewN | apply below_drew1) | exact HB.out)⟩

def impl_Hello_130.f (l0 : List (S45)) : Option ((List (S45))) := (some (([] : List (S45)) : List (S45))).bind fun y736 => (if y736.length + l0.length < 8796093022208 then (some (y736 ++ l0)) else (none))
set_option maxHeartbeats 8000000 in
set_option maxRecDepth 100000 in
theorem impl_Hello_130.calls (A0 : Option Addr) (c0 : Nat) (l0 : List (S45)) (r : List (S45)) (w : World) (hr0 : Kd.C k45 w A0 l0.length l0) (hc0 : l0.length ≤ c0) (h : impl_Hello_130.f l0 = some r) :
  Calls Try.prog 130 #[.slice A0 l0.length c0] w fun e w' => ∃ v0_ : Value, e = .returned (v0_) ∧ Kd.R k45 45 w' w.heap.size (fun _ => True) v0_ r ∧ Below w.heap.size w w' := by
 have hq_ : ∀ (w : World) (a : Option Addr) (l c : Nat), (binOp .eql 33 (.slice a l c) (.slice none 0 0)).run Try.prog w = .ok (.bool a.isNone) w := fun w a l c => Go.run_eql_slice_nil w 33 _ a l c Try.underlying33
 rcases A0 with _ | A0
 ·have hl0 : l0 = [] := by
   cases l0 with
   | nil => rfl
   | cons x t => exact absurd (hr0.2.2 (by simp)) (by simp)
  subst hl0
  obtain rfl : r = [] := by
   have := Option.some.inj ((show some ([] : List _) = some r from by simpa [impl_Hello_130.f] using h))
   exact this.symm
  go_enter Try.func130, Try.ntmps130
  go_wp2
  go_ret
  exact ⟨_, rfl, Kd.R_nil _ _ _ _ _, Below.refl _ _⟩
 have HR0 := Aside0.mk hr0
 have HC0 := Aside0.mk hc0
 clear hr0 hc0
 have HB := Aside0.mk (Below.refl w.heap.size w)
 have H : ((some (([] : List (S45)) : List (S45))).bind fun y736 => (if y736.length + l0.length < 8796093022208 then (some (y736 ++ l0)) else (none))) = some r := h
 clear h
 obtain ⟨y736, hy736⟩ : ∃ y_ : List (S45), y_ = (([] : List (S45))) := ⟨_, rfl⟩
 replace H : (if y736.length + l0.length < 8796093022208 then (some (y736 ++ l0)) else (none)) = some r := by first | (rw [hy736]; with_reducible exact H) | (have H2_ := (Option.bind_some _ _).symm.trans H; rw [hy736]; with_reducible exact H2_) | (have H2_ := (Option.bind_some _ _).symm.trans H; with_reducible exact H2_) | with_reducible exact H | (rw [hy736]; exact H) | exact H
 have Ny736 := Aside0.mk hy736
 clear hy736
 by_cases c2 : y736.length + l0.length < 8796093022208
 rotate_left
 ·rw [if_neg c2] at H
  exact absurd H (by simp)
 rw [if_pos c2] at H
 have LMc2 := Aside0.mk c2
 clear c2
 obtain ⟨y739, hy739⟩ : ∃ y_ : List (S45), y_ = (y736 ++ l0) := ⟨_, rfl⟩
 replace H : (some y739) = some r := by first | (rw [hy739]; with_reducible exact H) | (have H2_ := (Option.bind_some _ _).symm.trans H; rw [hy739]; with_reducible exact H2_) | (have H2_ := (Option.bind_some _ _).symm.trans H; with_reducible exact H2_) | with_reducible exact H | (rw [hy739]; exact H) | exact H
 have Ny739 := Aside0.mk hy739
 clear hy739
 obtain rfl := Option.some.inj H
 go_enter Try.func130, Try.ntmps130
 go_wp2_with (first | ((with_reducible refine gate_dst (N := 5) rfl ?_); refine Kd.R_lit k45 _ 45 ?hg (N := 5) ?hd (xs := ([] : List (S45))) (inner := []) (ok := fun _ => True) (okp := fun _ => True) ?hr ?hp (fun _ hk => hk) trivial (Below.refl _ _) (Nat.le_refl _) (by simp) ?_; (case hd => rfl); (case hg => rfl); (case hr => first | (go_simp; done) | (go_simp; rfl)); (case hp => exact (Reps.none _ _)); intro v737 w3 ho4 hb hg_ hnew_; clear hg_ hnew_; (first | rw [← Ny736.out] at ho4 | (simp only [Int.reduceToNat] at ho4; rw [← Ny736.out] at ho4)); have HO738 := Aside0.mk (Kd.R_lower ho4 (below_size (hB HB))); replace HB := bst_ HB hb; clear hb ho4) | ((with_reducible refine gate_builtin (b := .append) (xs := #[.tmp 5, .tmp 6]) rfl ?_); at_builtin; refine Kd.R_append_rows k45 (w0 := w) w.heap.size rfl (.tmp 5) (.tmp 6) 33 45 (.agg #[(.int .i64 0), (.bool false)]) 16 rfl Try.underlying33 info45 rfl (by decide) (by omega) v737 y736 l0 _ _ _ (fun _ => True) (fun _ => False) rfl rfl ?aO ?aR (fun _ _ h => h) (fun _ h => h.elim) ?aF ?aB ?aS ?aL ?_; (case aR => exact ca (Kd.C_below HR0.out HB.out)); (case aB => exact (hB HB)); (case aF => exact (fun _ _ => trivial)); (case aO => exact (ra HO738.out)); (case aS => exact (below_size (hB HB))); (case aL => have := LMc2.out; omega); intro v740 w5 ho hb hg hat; rw [← Ny739.out] at ho; have HO741 := Aside0.mk (ho); replace HB := Aside0.mk (hb); clear HO738; clear ho hb hg hat))
 go_ret
 exact ⟨_, by first | rfl | (simp [errW_none, errW_some] <;> rfl) | (simp [*, errW_none, errW_some] <;> rfl), by (with_reducible repeat (first | apply Kd.R_alloc | apply Kd.R_drewN | apply Kd.R_drew)); exact HO741.out, by repeat (first | (with_reducible first | exact HB.out | apply below_alloc | apply pw_below_drewN | apply below_drew1) | exact HB.out)⟩

def impl_Pair_own.f (l0_0 : List Int) (l0_1 : List Int) (l0_2 : List (S45)) : Option (List Int × List Int × (List (S45))) := (slices_Clone_int_int.f l0_0).bind fun t744 => ((slices_Clone_int_int.f l0_1).bind fun t747 => ((impl_Hello_130.f l0_2).bind fun t750 => (some (t744, t747, t750))))
def impl_Pair_own.T1 : Bool × List (List Nat × List Nat) := (true, [([], []), ([0], [0]), ([1], [1]), ([], []), ([3], [3]), ([4, 2], [4]), ([], []), ([6], [6]), ([7, 5], [7]), ([2, 5, 8], [2, 5, 8]), ([9, 8, 0, 1, 2, 3, 4, 5, 6, 7, 8, 9], [9])])
def impl_Pair_own.B1 : List Nat := [0, 1, 3, 0, 8, 31, 0, 64, 255, 511, 1023]
theorem impl_Pair_own.tab1 : rtab .any (opsOf Try.f83 1) = impl_Pair_own.T1 := by kernel_rfl
theorem impl_Pair_own.bits1 : waitsOk impl_Pair_own.T1.2 impl_Pair_own.B1 = true := by kernel_rfl
set_option maxHeartbeats 8000000 in
set_option maxRecDepth 100000 in
theorem impl_Pair_own.calls (A0_0 : Option Addr) (c0_0 : Nat) (l0_0 : List Int) (A0_1 : Option Addr) (c0_1 : Nat) (l0_1 : List Int) (A0_2 : Option Addr) (c0_2 : Nat) (l0_2 : List (S45)) (r1 : List Int) (r2 : List Int) (r3 : List (S45)) (w : World) (hr0_0 : Kd.C (Kd.int .i64) w A0_0 l0_0.length l0_0) (hc0_0 : l0_0.length ≤ c0_0) (hr0_1 : Kd.C (Kd.int .i64) w A0_1 l0_1.length l0_1) (hc0_1 : l0_1.length ≤ c0_1) (hr0_2 : Kd.C k45 w A0_2 l0_2.length l0_2) (hc0_2 : l0_2.length ≤ c0_2) (h : impl_Pair_own.f l0_0 l0_1 l0_2 = some (r1, r2, r3)) :
  Calls Try.prog 83 #[.agg #[.slice A0_0 l0_0.length c0_0, .slice A0_1 l0_1.length c0_1, .slice A0_2 l0_2.length c0_2]] w fun e w' => ∃ v0_ v1_ v2_ : Value, e = .returned (.agg #[v0_, v1_, v2_]) ∧ Kd.R (Kd.int .i64) 3 w' w.heap.size (fun k_ => no_ v1_ k_) v0_ r1 ∧ Kd.R (Kd.int .i64) 3 w' w.heap.size (fun k_ => no_ v0_ k_) v1_ r2 ∧ Kd.R k45 45 w' w.heap.size (fun _ => True) v2_ r3 ∧ Below w.heap.size w w' := by
 have hu35 := Try.underlying35
 have HR0_0 := Aside0.mk hr0_0
 have HC0_0 := Aside0.mk hc0_0
 clear hr0_0 hc0_0
 have HR0_1 := Aside0.mk hr0_1
 have HC0_1 := Aside0.mk hc0_1
 clear hr0_1 hc0_1
 have HR0_2 := Aside0.mk hr0_2
 have HC0_2 := Aside0.mk hc0_2
 clear hr0_2 hc0_2
 have HB := Aside0.mk (Below.refl w.heap.size w)
 have H : ((slices_Clone_int_int.f l0_0).bind fun t744 => ((slices_Clone_int_int.f l0_1).bind fun t747 => ((impl_Hello_130.f l0_2).bind fun t750 => (some (t744, t747, t750))))) = some (r1, r2, r3) := h
 clear h
 replace H := Option.bind_eq_some_iff.mp H
 obtain ⟨t744, A20, H⟩ := H
 replace H : ((slices_Clone_int_int.f l0_1).bind fun t747 => ((impl_Hello_130.f l0_2).bind fun t750 => (some (t744, t747, t750)))) = some (r1, r2, r3) := H
 have A2 := Aside0.mk A20
 clear A20
 replace H := Option.bind_eq_some_iff.mp H
 obtain ⟨t747, A30, H⟩ := H
 replace H : ((impl_Hello_130.f l0_2).bind fun t750 => (some (t744, t747, t750))) = some (r1, r2, r3) := H
 have A3 := Aside0.mk A30
 clear A30
 replace H := Option.bind_eq_some_iff.mp H
 obtain ⟨t750, A40, H⟩ := H
 replace H : (some (t744, t747, t750)) = some (r1, r2, r3) := H
 have A4 := Aside0.mk A40
 clear A40
 simp only [Option.some.injEq, Prod.mk.injEq] at H
 obtain ⟨rfl, rfl, rfl⟩ := H
 go_enter Try.func83, Try.ntmps83
 try go_wp2_with (first | ((with_reducible refine gate_dst (N := 1) rfl ?_); refine box_event ?hg (N := 1) ?hd (cs := #[.slice A0_0 l0_0.length c0_0, .slice A0_1 l0_1.length c0_1, .slice A0_2 l0_2.length c0_2]) (t := 35) ?hr ?_; (case hd => rfl); (case hg => rfl); (case hr => first | (go_simp; done) | (go_simp; rfl)); intro gb742 hg w5 hbox hb; have BK742 := Aside0.mk (hbox); have GW742 := gw_ hg HB; have GE742 := gw_ hg HB; replace HB := bst_ HB hb; clear hb hbox hg) | ((with_reducible refine gate_dst (N := 2) rfl ?_); refine box_event ?hg (N := 2) ?hd (cs := #[.slice none 0 0, .slice none 0 0, .slice none 0 0]) (t := 35) ?hr ?_; (case hd => rfl); (case hg => rfl); (case hr => first | (go_simp; done) | (go_simp; rfl)); intro gb743 hg w6 hbox hb; have BK743 := Aside0.mk (hbox); have GW743 := gw_ hg HB; have GE743 := gw_ hg HB; have NB742_743 := nl_ hg BK742; have NB743_742 := ng_ hg BK742; replace BK742 := bb_ BK742 hb; replace HB := bst_ HB hb; clear hb hbox hg))
 replace BK742 := bd_ BK742
 replace BK743 := bd_ BK743
 replace HB := Aside0.mk (below_drew1 HB.out)
 refine start_ (n := 11) (S := fun w' => w'.cell? ⟨gb742, 0, none⟩ = some (.slice A0_0 l0_0.length c0_0) ∧ w'.cell? ⟨gb742, 1, none⟩ = some (.slice A0_1 l0_1.length c0_1) ∧ w'.cell? ⟨gb742, 2, none⟩ = some (.slice A0_2 l0_2.length c0_2)) (ds := []) (bs 11 0) (by kernel_rfl) rfl rfl ⟨bc_ BK742 0, bc_ BK742 1, bc_ BK742 2⟩ (fun hHeld => ?_); refine with_tabW impl_Pair_own.tab1 impl_Pair_own.bits1 (fun HT_ HW_ => ?_)
 generalize w6.drew = w7 at BK742 BK743 HB hHeld ⊢
 refine pu_ 0 3 (bs 11 1) HT_ ?_
 refine pu_ 3 6 (bs 11 9) HT_ ?_
 refine pu_ 6 9 (bs 11 73) HT_ ?_
 refine tk_ 1 4 (bs 11 75) HT_ HW_ hHeld ?_
 refine tk_ 4 7 (bs 11 91) HT_ HW_ hHeld ?_
 refine tk_ 7 10 (bs 11 219) HT_ HW_ hHeld ?_
 refine one_ (i := 2) (N := some 5) (bs 11 223) rfl rfl (one_of HT_.out (by kernel_rfl)) (by decide) (fun K hK => ?_)
 refine goes_ Try.func129 (by kernel_rfl) rfl #[.slice A0_0 l0_0.length c0_0] (by rfl) rfl rfl tm_ ?_
 with_reducible refine (slices_Clone_int_int.calls _ _ l0_0 t744 _ ?side1 ?side2 A2.out).mono ?_
 (case side1 => exact ca (Kd.C_below HR0_0.out HB.out))
 (case side2 => exact HC0_0.out)
 rintro e w8 ⟨v745, rfl, ho0, hb⟩
 refine ⟨_, rfl, ?_⟩
 have HO746 := Aside0.mk (Kd.R_lower ho0 (below_size (hB HB)))
 replace BK742 := bb_ BK742 hb
 replace BK743 := bb_ BK743 hb
 replace HB := bst_ HB hb
 clear hb ho0
 refine hK.out _ _ ⟨bc_ BK742 0, bc_ BK742 1, bc_ BK742 2⟩ (fun hHeld => ?_)
 clear hK K
 refine nm_ 5 ?_
 refine one_ (i := 5) (N := some 8) (bs 11 255) rfl rfl (one_of HT_.out (by kernel_rfl)) (by decide) (fun K hK => ?_)
 refine goes_ Try.func129 (by kernel_rfl) rfl #[.slice A0_1 l0_1.length c0_1] (by rfl) rfl rfl tm_ ?_
 with_reducible refine (slices_Clone_int_int.calls _ _ l0_1 t747 _ ?side1 ?side2 A3.out).mono ?_
 (case side1 => exact ca (Kd.C_below HR0_1.out HB.out))
 (case side2 => exact HC0_1.out)
 rintro e w9 ⟨v748, rfl, ho0, hb⟩
 refine ⟨_, rfl, ?_⟩
 have HO749 := Aside0.mk (Kd.R_lower (Kd.R_new' ho0 (rl_ HO746)) (below_size (hB HB)))
 replace HO746 := re_ HO746 ho0 hb
 replace BK742 := bb_ BK742 hb
 replace BK743 := bb_ BK743 hb
 replace HB := bst_ HB hb
 clear hb ho0
 refine hK.out _ _ ⟨bc_ BK742 0, bc_ BK742 1, bc_ BK742 2⟩ (fun hHeld => ?_)
 clear hK K
 refine nm_ 8 ?_
 refine one_ (i := 8) (N := some 11) (bs 11 511) rfl rfl (one_of HT_.out (by kernel_rfl)) (by decide) (fun K hK => ?_)
 refine goes_ Try.func130 (by kernel_rfl) rfl #[.slice A0_2 l0_2.length c0_2] (by rfl) rfl rfl tm_ ?_
 with_reducible refine (impl_Hello_130.calls _ _ l0_2 t750 _ ?side1 ?side2 A4.out).mono ?_
 (case side1 => exact ca (Kd.C_below HR0_2.out HB.out))
 (case side2 => exact HC0_2.out)
 rintro e w10 ⟨v751, rfl, ho0, hb⟩
 refine ⟨_, rfl, ?_⟩
 have HO752 := Aside0.mk (Kd.R_lower ho0 (below_size (hB HB)))
 replace HO746 := rb_ HO746 hb
 replace HO749 := rb_ HO749 hb
 replace BK742 := bb_ BK742 hb
 replace BK743 := bb_ BK743 hb
 replace HB := bst_ HB hb
 clear hb ho0
 obtain ⟨Ao11, co11, eo11⟩ := Kd.R_slice HO752.out
 subst eo11
 obtain ⟨Ao12, co12, eo12⟩ := Kd.R_slice HO749.out
 subst eo12
 obtain ⟨Ao13, co13, eo13⟩ := Kd.R_slice HO746.out
 subst eo13
 refine hK.out _ _ ⟨bc_ BK742 0, bc_ BK742 1, bc_ BK742 2⟩ (fun hHeld => ?_)
 clear hK K
 refine nm_ 11 ?_
 refine pu_ 9 12 (bs 11 1023) HT_ ?_
 refine one_ (i := 10) (N := none) (bs 11 2047) rfl rfl (one_of HT_.out (by kernel_rfl)) (by decide) (fun K hK => ?_)
 have hs14 : w10.cell? ⟨gb743, 0, none⟩ = some (.slice none 0 0) := bc_ BK743 0
 have hfs14 := blk_frozen BK743.out 0
 have hns14_0 := NB742_743.out
 have hms14_0 := NB743_742.out
 have hs15 : w10.cell? ⟨gb743, 1, none⟩ = some (.slice none 0 0) := bc_ BK743 1
 have hfs15 := blk_frozen BK743.out 1
 have hns15_0 := NB742_743.out
 have hms15_0 := NB743_742.out
 have hs16 : w10.cell? ⟨gb743, 2, none⟩ = some (.slice none 0 0) := bc_ BK743 2
 have hfs16 := blk_frozen BK743.out 2
 have hns16_0 := NB742_743.out
 have hms16_0 := NB743_742.out
 refine skip_ (w1 := ?_) (by rfl) rfl ?_ ?_
 rotate_left
 ·go_simp
  rfl
 refine hK.out _ _ ⟨((cell_far (p := ⟨gb743, _, none⟩) NB742_743.out _).trans (((cell_far (p := ⟨gb743, _, none⟩) NB742_743.out _).trans (((cell_far (p := ⟨gb743, _, none⟩) NB742_743.out _).trans (hHeld.1)))))), ((cell_far (p := ⟨gb743, _, none⟩) NB742_743.out _).trans (((cell_far (p := ⟨gb743, _, none⟩) NB742_743.out _).trans (((cell_far (p := ⟨gb743, _, none⟩) NB742_743.out _).trans (hHeld.2.1)))))), ((cell_far (p := ⟨gb743, _, none⟩) NB742_743.out _).trans (((cell_far (p := ⟨gb743, _, none⟩) NB742_743.out _).trans (((cell_far (p := ⟨gb743, _, none⟩) NB742_743.out _).trans (hHeld.2.2))))))⟩ (fun hHeld => ?_)
 clear hK K
 refine done_ (done_of HT_.out (by kernel_rfl)) ?_
 try go_wp2
 refine bodyPost_ret (results_cell_row rfl _ _ gb743 35 #[.slice Ao13 t744.length co13, .slice Ao12 t747.length co12, .slice Ao11 t750.length co11] (0, 0) _ rfl (by (with_reducible repeat (first | refine blk_drewN ?_ _ | refine blk_drew ?_ | refine blk_alloc ?_ _)); refine blk_put (cs := #[.slice Ao13 t744.length co13, .slice Ao12 t747.length co12, .slice none 0 0]) ?_ 2 _ rfl; (with_reducible repeat (first | refine blk_drewN ?_ _ | refine blk_drew ?_ | refine blk_alloc ?_ _)); refine blk_put (cs := #[.slice Ao13 t744.length co13, .slice none 0 0, .slice none 0 0]) ?_ 1 _ rfl; (with_reducible repeat (first | refine blk_drewN ?_ _ | refine blk_drew ?_ | refine blk_alloc ?_ _)); refine blk_put (cs := #[.slice none 0 0, .slice none 0 0, .slice none 0 0]) ?_ 0 _ rfl; (with_reducible repeat (first | refine blk_drewN ?_ _ | refine blk_drew ?_ | refine blk_alloc ?_ _)); exact BK743.out) Try.underlying35 rfl (by kernel_rfl)) rfl ?_
 exact ⟨_, _, _, by first | rfl | (simp [errW_none, errW_some] <;> rfl) | (simp [*, errW_none, errW_some] <;> rfl), by (with_reducible repeat (first | apply Kd.R_alloc | apply Kd.R_drewN | apply Kd.R_drew)); exact Kd.R_mono (fs3_ HO746.out BK743.out) (fun _ hk => hk.1.2), by (with_reducible repeat (first | apply Kd.R_alloc | apply Kd.R_drewN | apply Kd.R_drew)); exact Kd.R_mono (fs3_ HO749.out BK743.out) (fun _ hk => hk.1.2), by (with_reducible repeat (first | apply Kd.R_alloc | apply Kd.R_drewN | apply Kd.R_drew)); exact Kd.R_mono (fs3_ HO752.out BK743.out) (fun _ hk => trivial), by repeat (first | (with_reducible first | exact HB.out | apply below_alloc | apply pw_below_drewN | apply below_drew1 | refine below_set ?_ GE742.out | refine below_set ?_ GE743.out) | exact HB.out)⟩

end Go.Proofs.Ytfkjnpgpofcinaa.P
