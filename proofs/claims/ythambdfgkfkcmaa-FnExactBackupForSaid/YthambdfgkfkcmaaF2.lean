import Derived.Test.YthambdfgkfkcmaaF0
import Derived.Test.YthambdfgkfkcmaaF1
import Derived.Test.YthambdfgkfkcmaaF9
namespace Go.Proofs.Ythambdfgkfkcmaa.P
open Go.RowKit Go.Proofs.YthambdfgkfkcmaaW.PrintWords Go.Proofs.YthambdfgkfkcmaaW.PrintLast Go.Proofs.YthambdfgkfkcmaaW.PrintMore
attribute [local go_sem] max2_int min2_int max_two min_two max_three min_three max_four min_four   -- for this text's walks alone
set_option linter.unusedVariables false
set_option linter.unusedSimpArgs false
attribute [local go_sem high] eqA47

mutual
def laws_FnExactBackupFor.j0 : Nat → Int → List (S69) → Int → Int → List Int → List Int → Bool → List (S47) → List Int → List Int → Bool → Bool → Option (Bool)
 | 0, _, _, _, _, _, _, _, _, _, _, _, _ => none
 | k + 1, x0, x1, x2, x3, x10, x11, x12, x13, x14, x15, x16, x63 => if x63 = true then (some false) else ((laws_toEdgeS.f k x1).bind fun t419 => ((laws_eqEdgeS.f k x13 t419).bind fun t422 => (if t422 = true then ((laws_markEdgeS.f k x13 1).bind fun bt423 => (if bt423.1 < 0 then (laws_FnExactBackupFor.j1 k x0 x1 x2 x3 x10 x11 x12 x14 x15 true) else ((laws_eqIntS.f k x14 x10).bind fun t425 => (if t425 = true then ((laws_eqIntS.f k x15 x11).bind fun t426 => (if t426 = true then (laws_FnExactBackupFor.j1 k x0 x1 x2 x3 x10 x11 x12 x14 x15 (x16 != x12)) else (laws_FnExactBackupFor.j1 k x0 x1 x2 x3 x10 x11 x12 x14 x15 true))) else (laws_FnExactBackupFor.j1 k x0 x1 x2 x3 x10 x11 x12 x14 x15 true))))) else (some false))))
def laws_FnExactBackupFor.j1 : Nat → Int → List (S69) → Int → Int → List Int → List Int → Bool → List Int → List Int → Bool → Option (Bool)
 | 0, _, _, _, _, _, _, _, _, _, _ => none
 | k + 1, x0, x1, x2, x3, x10, x11, x12, x14, x15, x90 => if x90 = true then (some false) else ((laws_markIntS.f k x14 1).bind fun bt427 => ((laws_markIntS.f k x15 bt427.1).bind fun bt429 => ((laws_heldIntS.f k bt427.2 1).bind fun t431 => (if t431 < 0 then (some false) else ((laws_heldIntS.f k bt429.2 t431).bind fun t432 => (if t432 < 0 then (some false) else (if t432 = bt429.1 then ((laws_toEdgeS.f k x1).bind fun t433 => ((impl_BackupFor.f k x0 t433 x2 x3).bind fun bt436 => ((laws_eqIntS.f k bt436.1 x10).bind fun t443 => (if t443 = true then ((laws_eqIntS.f k bt436.2.1 x11).bind fun t444 => (if t444 = true then (laws_FnExactBackupFor.j2 k bt427.2 bt429.2 bt429.1 (bt436.2.2 != x12)) else (laws_FnExactBackupFor.j2 k bt427.2 bt429.2 bt429.1 true))) else (laws_FnExactBackupFor.j2 k bt427.2 bt429.2 bt429.1 true))))) else (some false))))))))
def laws_FnExactBackupFor.j2 : Nat → List Int → List Int → Int → Bool → Option (Bool)
 | 0, _, _, _, _ => none
 | k + 1, x14, x15, x18, x134 => if x134 = true then (some false) else ((laws_heldIntS.f k x14 1).bind fun t445 => (if t445 < 0 then (some false) else ((laws_heldIntS.f k x15 t445).bind fun t446 => (if t446 < 0 then (some false) else (if t446 = x18 then (some true) else (some false))))))
end
def laws_FnExactBackupFor.f (k : Nat) (a0 : Int) (l1 : List (S69)) (a2 : Int) (a3 : Int) : Option (Bool) := (laws_szEdgeS.f l1 1048576).bind fun t396 => (if t396 < 0 then (some true) else ((laws_toEdgeS.f k l1).bind fun t397 => ((spec_BackupFor.f k a0 t397 a2 a3).bind fun bt400 => ((laws_toEdgeS.f k l1).bind fun t407 => ((impl_BackupFor.f k a0 t407 a2 a3).bind fun bt410 => ((laws_eqIntS.f k bt410.1 bt400.1).bind fun t417 => (if t417 = true then ((laws_eqIntS.f k bt410.2.1 bt400.2.1).bind fun t418 => (if t418 = true then (laws_FnExactBackupFor.j0 k a0 l1 a2 a3 bt400.1 bt400.2.1 bt400.2.2 t407 bt410.1 bt410.2.1 bt410.2.2 (bt410.2.2 != bt400.2.2)) else (laws_FnExactBackupFor.j0 k a0 l1 a2 a3 bt400.1 bt400.2.1 bt400.2.2 t407 bt410.1 bt410.2.1 bt410.2.2 true))) else (laws_FnExactBackupFor.j0 k a0 l1 a2 a3 bt400.1 bt400.2.1 bt400.2.2 t407 bt410.1 bt410.2.1 bt410.2.2 true))))))))
theorem laws_FnExactBackupFor.mono_l : ∀ k, (∀ y0 y1 y2 y3 y4 y5 y6 y7 y8 y9 y10 y11, LeO (laws_FnExactBackupFor.j0 k y0 y1 y2 y3 y4 y5 y6 y7 y8 y9 y10 y11) (laws_FnExactBackupFor.j0 (k + 1) y0 y1 y2 y3 y4 y5 y6 y7 y8 y9 y10 y11)) ∧ (∀ y0 y1 y2 y3 y4 y5 y6 y7 y8 y9, LeO (laws_FnExactBackupFor.j1 k y0 y1 y2 y3 y4 y5 y6 y7 y8 y9) (laws_FnExactBackupFor.j1 (k + 1) y0 y1 y2 y3 y4 y5 y6 y7 y8 y9)) ∧ (∀ y0 y1 y2 y3, LeO (laws_FnExactBackupFor.j2 k y0 y1 y2 y3) (laws_FnExactBackupFor.j2 (k + 1) y0 y1 y2 y3))
 | 0 => ⟨fun _ _ _ _ _ _ _ _ _ _ _ _ r h => by simp [laws_FnExactBackupFor.j0] at h, fun _ _ _ _ _ _ _ _ _ _ r h => by simp [laws_FnExactBackupFor.j1] at h, fun _ _ _ _ r h => by simp [laws_FnExactBackupFor.j2] at h⟩
 | k + 1 => by
  obtain ⟨ih0, ih1, ih2⟩ := laws_FnExactBackupFor.mono_l k
  refine ⟨?_, ?_, ?_⟩
  ·intro y0 y1 y2 y3 y4 y5 y6 y7 y8 y9 y10 y11
   unfold laws_FnExactBackupFor.j0
   repeat' first
   | (with_reducible exact ih0 _ _ _ _ _ _ _ _ _ _ _ _)
   | (with_reducible exact ih1 _ _ _ _ _ _ _ _ _ _)
   | (with_reducible exact ih2 _ _ _ _)
   | (with_reducible exact impl_BackupFor.mono _ _ _ _ _)
   | (with_reducible exact laws_eqEdgeS.mono _ _ _)
   | (with_reducible exact laws_eqIntS.mono _ _ _)
   | (with_reducible exact laws_heldIntS.mono _ _ _)
   | (with_reducible exact laws_markEdgeS.mono _ _ _)
   | (with_reducible exact laws_markIntS.mono _ _ _)
   | (with_reducible exact laws_toEdgeS.mono _ _)
   | (with_reducible exact spec_BackupFor.mono _ _ _ _ _)
   | with_reducible first | exact LeO.refl _ | exact LeO.none _ | refine LeO.ite ?_ ?_ | refine LeO.bind ?_ fun _ => ?_
  ·intro y0 y1 y2 y3 y4 y5 y6 y7 y8 y9
   unfold laws_FnExactBackupFor.j1
   repeat' first
   | (with_reducible exact ih0 _ _ _ _ _ _ _ _ _ _ _ _)
   | (with_reducible exact ih1 _ _ _ _ _ _ _ _ _ _)
   | (with_reducible exact ih2 _ _ _ _)
   | (with_reducible exact impl_BackupFor.mono _ _ _ _ _)
   | (with_reducible exact laws_eqEdgeS.mono _ _ _)
   | (with_reducible exact laws_eqIntS.mono _ _ _)
   | (with_reducible exact laws_heldIntS.mono _ _ _)
   | (with_reducible exact laws_markEdgeS.mono _ _ _)
   | (with_reducible exact laws_markIntS.mono _ _ _)
   | (with_reducible exact laws_toEdgeS.mono _ _)
   | (with_reducible exact spec_BackupFor.mono _ _ _ _ _)
   | with_reducible first | exact LeO.refl _ | exact LeO.none _ | refine LeO.ite ?_ ?_ | refine LeO.bind ?_ fun _ => ?_
  ·intro y0 y1 y2 y3
   unfold laws_FnExactBackupFor.j2
   repeat' first
   | (with_reducible exact ih0 _ _ _ _ _ _ _ _ _ _ _ _)
   | (with_reducible exact ih1 _ _ _ _ _ _ _ _ _ _)
   | (with_reducible exact ih2 _ _ _ _)
   | (with_reducible exact impl_BackupFor.mono _ _ _ _ _)
   | (with_reducible exact laws_eqEdgeS.mono _ _ _)
   | (with_reducible exact laws_eqIntS.mono _ _ _)
   | (with_reducible exact laws_heldIntS.mono _ _ _)
   | (with_reducible exact laws_markEdgeS.mono _ _ _)
   | (with_reducible exact laws_markIntS.mono _ _ _)
   | (with_reducible exact laws_toEdgeS.mono _ _)
   | (with_reducible exact spec_BackupFor.mono _ _ _ _ _)
   | with_reducible first | exact LeO.refl _ | exact LeO.none _ | refine LeO.ite ?_ ?_ | refine LeO.bind ?_ fun _ => ?_
theorem laws_FnExactBackupFor.mono : ∀ a0 a1 a2 a3 k, LeO (laws_FnExactBackupFor.f k a0 a1 a2 a3) (laws_FnExactBackupFor.f (k + 1) a0 a1 a2 a3) := by
 intro a0 a1 a2 a3 k
 obtain ⟨ih0, ih1, ih2⟩ := laws_FnExactBackupFor.mono_l k
 unfold laws_FnExactBackupFor.f
 repeat' first
   | (with_reducible exact ih0 _ _ _ _ _ _ _ _ _ _ _ _)
   | (with_reducible exact ih1 _ _ _ _ _ _ _ _ _ _)
   | (with_reducible exact ih2 _ _ _ _)
   | (with_reducible exact impl_BackupFor.mono _ _ _ _ _)
   | (with_reducible exact laws_eqEdgeS.mono _ _ _)
   | (with_reducible exact laws_eqIntS.mono _ _ _)
   | (with_reducible exact laws_heldIntS.mono _ _ _)
   | (with_reducible exact laws_markEdgeS.mono _ _ _)
   | (with_reducible exact laws_markIntS.mono _ _ _)
   | (with_reducible exact laws_toEdgeS.mono _ _)
   | (with_reducible exact spec_BackupFor.mono _ _ _ _ _)
   | with_reducible first | exact LeO.refl _ | exact LeO.none _ | refine LeO.ite ?_ ?_ | refine LeO.bind ?_ fun _ => ?_
set_option maxHeartbeats 8000000 in
set_option maxRecDepth 100000 in
theorem laws_FnExactBackupFor.calls (k : Nat) (a0 : Int) (A1 : Option Addr) (c1 : Nat) (l1 : List (S69)) (a2 : Int) (a3 : Int) (r : Bool) (w : World) (hr1 : Kd.C k69 w A1 l1.length l1) (hc1 : l1.length ≤ c1) (h : laws_FnExactBackupFor.f k a0 l1 a2 a3 = some r) :
  Calls Try.prog 4 #[.int .i64 a0, .slice A1 l1.length c1, .int .i64 a2, .int .i64 a3] w fun e w' => e = .returned (.bool r) ∧ Below w.heap.size w w' := by
 have HR1 := Aside0.mk hr1
 have HC1 := Aside0.mk hc1
 clear hr1 hc1
 have HB := Aside0.mk (Below.refl w.heap.size w)
 have H : ((laws_szEdgeS.f l1 1048576).bind fun t396 => (if t396 < 0 then (some true) else ((laws_toEdgeS.f k l1).bind fun t397 => ((spec_BackupFor.f k a0 t397 a2 a3).bind fun bt400 => ((laws_toEdgeS.f k l1).bind fun t407 => ((impl_BackupFor.f k a0 t407 a2 a3).bind fun bt410 => ((laws_eqIntS.f k bt410.1 bt400.1).bind fun t417 => (if t417 = true then ((laws_eqIntS.f k bt410.2.1 bt400.2.1).bind fun t418 => (if t418 = true then (laws_FnExactBackupFor.j0 k a0 l1 a2 a3 bt400.1 bt400.2.1 bt400.2.2 t407 bt410.1 bt410.2.1 bt410.2.2 (bt410.2.2 != bt400.2.2)) else (laws_FnExactBackupFor.j0 k a0 l1 a2 a3 bt400.1 bt400.2.1 bt400.2.2 t407 bt410.1 bt410.2.1 bt410.2.2 true))) else (laws_FnExactBackupFor.j0 k a0 l1 a2 a3 bt400.1 bt400.2.1 bt400.2.2 t407 bt410.1 bt410.2.1 bt410.2.2 true))))))))) = some r := h
 clear h
 replace H := Option.bind_eq_some_iff.mp H
 obtain ⟨t396, A50, H⟩ := H
 replace H : (if t396 < 0 then (some true) else ((laws_toEdgeS.f k l1).bind fun t397 => ((spec_BackupFor.f k a0 t397 a2 a3).bind fun bt400 => ((laws_toEdgeS.f k l1).bind fun t407 => ((impl_BackupFor.f k a0 t407 a2 a3).bind fun bt410 => ((laws_eqIntS.f k bt410.1 bt400.1).bind fun t417 => (if t417 = true then ((laws_eqIntS.f k bt410.2.1 bt400.2.1).bind fun t418 => (if t418 = true then (laws_FnExactBackupFor.j0 k a0 l1 a2 a3 bt400.1 bt400.2.1 bt400.2.2 t407 bt410.1 bt410.2.1 bt410.2.2 (bt410.2.2 != bt400.2.2)) else (laws_FnExactBackupFor.j0 k a0 l1 a2 a3 bt400.1 bt400.2.1 bt400.2.2 t407 bt410.1 bt410.2.1 bt410.2.2 true))) else (laws_FnExactBackupFor.j0 k a0 l1 a2 a3 bt400.1 bt400.2.1 bt400.2.2 t407 bt410.1 bt410.2.1 bt410.2.2 true)))))))) = some r := H
 have A5 := Aside0.mk A50
 clear A50
 by_cases c6 : t396 < 0
 ·rw [if_pos c6] at H
  have c6b0 : decide (t396 < 0) = true := decide_eq_true c6
  clear c6
  obtain rfl := Option.some.inj H
  go_enter Try.func4, Try.ntmps4
  go_wp2_with (first | ((with_reducible refine gate_dst (N := 25) rfl ?_); refine goesL_ (some 25) rfl rfl Try.func9 (by kernel_rfl) rfl #[.slice A1 l1.length c1, .int .i64 1048576] rfl tm_ ?_; (with_reducible refine (laws_szEdgeS.calls _ _ l1 1048576 t396 _ ?side1 ?side2 A5.out).mono ?_); (case side1 => exact ca HR1.out); (case side2 => exact HC1.out); rintro e w' ⟨rfl, ⟨nd, rfl⟩⟩; refine ⟨_, rfl, ?_⟩))
  go_ret
  exact ⟨rt_, hB HB⟩
 rw [if_neg c6] at H
 have c6b0 : decide (t396 < 0) = false := decide_eq_false c6
 clear c6
 replace H := Option.bind_eq_some_iff.mp H
 obtain ⟨t397, A70, H⟩ := H
 replace H : ((spec_BackupFor.f k a0 t397 a2 a3).bind fun bt400 => ((laws_toEdgeS.f k l1).bind fun t407 => ((impl_BackupFor.f k a0 t407 a2 a3).bind fun bt410 => ((laws_eqIntS.f k bt410.1 bt400.1).bind fun t417 => (if t417 = true then ((laws_eqIntS.f k bt410.2.1 bt400.2.1).bind fun t418 => (if t418 = true then (laws_FnExactBackupFor.j0 k a0 l1 a2 a3 bt400.1 bt400.2.1 bt400.2.2 t407 bt410.1 bt410.2.1 bt410.2.2 (bt410.2.2 != bt400.2.2)) else (laws_FnExactBackupFor.j0 k a0 l1 a2 a3 bt400.1 bt400.2.1 bt400.2.2 t407 bt410.1 bt410.2.1 bt410.2.2 true))) else (laws_FnExactBackupFor.j0 k a0 l1 a2 a3 bt400.1 bt400.2.1 bt400.2.2 t407 bt410.1 bt410.2.1 bt410.2.2 true)))))) = some r := H
 have A7 := Aside0.mk A70
 clear A70
 replace H := Option.bind_eq_some_iff.mp H
 obtain ⟨⟨t400, t401, t402⟩, A80, H⟩ := H
 replace H : ((laws_toEdgeS.f k l1).bind fun t407 => ((impl_BackupFor.f k a0 t407 a2 a3).bind fun bt410 => ((laws_eqIntS.f k bt410.1 t400).bind fun t417 => (if t417 = true then ((laws_eqIntS.f k bt410.2.1 t401).bind fun t418 => (if t418 = true then (laws_FnExactBackupFor.j0 k a0 l1 a2 a3 t400 t401 t402 t407 bt410.1 bt410.2.1 bt410.2.2 (bt410.2.2 != t402)) else (laws_FnExactBackupFor.j0 k a0 l1 a2 a3 t400 t401 t402 t407 bt410.1 bt410.2.1 bt410.2.2 true))) else (laws_FnExactBackupFor.j0 k a0 l1 a2 a3 t400 t401 t402 t407 bt410.1 bt410.2.1 bt410.2.2 true))))) = some r := H
 have A8 := Aside0.mk A80
 clear A80
 replace H := Option.bind_eq_some_iff.mp H
 obtain ⟨t407, A90, H⟩ := H
 replace H : ((impl_BackupFor.f k a0 t407 a2 a3).bind fun bt410 => ((laws_eqIntS.f k bt410.1 t400).bind fun t417 => (if t417 = true then ((laws_eqIntS.f k bt410.2.1 t401).bind fun t418 => (if t418 = true then (laws_FnExactBackupFor.j0 k a0 l1 a2 a3 t400 t401 t402 t407 bt410.1 bt410.2.1 bt410.2.2 (bt410.2.2 != t402)) else (laws_FnExactBackupFor.j0 k a0 l1 a2 a3 t400 t401 t402 t407 bt410.1 bt410.2.1 bt410.2.2 true))) else (laws_FnExactBackupFor.j0 k a0 l1 a2 a3 t400 t401 t402 t407 bt410.1 bt410.2.1 bt410.2.2 true)))) = some r := H
 have A9 := Aside0.mk A90
 clear A90
 replace H := Option.bind_eq_some_iff.mp H
 obtain ⟨⟨t410, t411, t412⟩, A100, H⟩ := H
 replace H : ((laws_eqIntS.f k t410 t400).bind fun t417 => (if t417 = true then ((laws_eqIntS.f k t411 t401).bind fun t418 => (if t418 = true then (laws_FnExactBackupFor.j0 k a0 l1 a2 a3 t400 t401 t402 t407 t410 t411 t412 (t412 != t402)) else (laws_FnExactBackupFor.j0 k a0 l1 a2 a3 t400 t401 t402 t407 t410 t411 t412 true))) else (laws_FnExactBackupFor.j0 k a0 l1 a2 a3 t400 t401 t402 t407 t410 t411 t412 true))) = some r := H
 have A10 := Aside0.mk A100
 clear A100
 have HC11 := Aside0.mk H
 clear H
 go_enter Try.func4, Try.ntmps4
 go_upto_region 8 with (first | ((with_reducible refine gate_dst (N := 25) rfl ?_); refine goesL_ (some 25) rfl rfl Try.func9 (by kernel_rfl) rfl #[.slice A1 l1.length c1, .int .i64 1048576] rfl tm_ ?_; (with_reducible refine (laws_szEdgeS.calls _ _ l1 1048576 t396 _ ?side1 ?side2 A5.out).mono ?_); (case side1 => exact ca HR1.out); (case side2 => exact HC1.out); rintro e w' ⟨rfl, ⟨nd, rfl⟩⟩; refine ⟨_, rfl, ?_⟩) | ((with_reducible refine gate_dst (N := 31) rfl ?_); refine goesL_ (some 31) rfl rfl Try.func11 (by kernel_rfl) rfl #[.slice A1 l1.length c1] rfl tm_ ?_; (with_reducible refine (laws_toEdgeS.calls k _ _ l1 t397 _ ?side1 ?side2 A7.out).mono ?_); (case side1 => exact ca HR1.out); (case side2 => exact HC1.out); rintro e w12 ⟨v398, rfl, ho0, hb⟩; refine ⟨_, rfl, ?_⟩; have HO399 := Aside0.mk (Kd.R_lower ho0 (below_size (hB HB))); replace HB := bst_ HB hb; clear hb ho0; obtain ⟨Ao13, co13, eo13⟩ := Kd.R_slice HO399.out; subst eo13) | ((with_reducible refine gate_dst (N := 34) rfl ?_); refine goesL_ (some 34) rfl rfl Try.func18 (by kernel_rfl) rfl #[.int .i64 a0, .slice Ao13 t397.length co13, .int .i64 a2, .int .i64 a3] rfl tm_ ?_; (with_reducible refine (spec_BackupFor.calls k a0 _ _ t397 a2 a3 t400 t401 t402 _ ?side1 ?side2 A8.out).mono ?_); (case side1 => exact ca (Kd.R_reads' HO399.out).2.2); (case side2 => exact (Kd.R_reads' HO399.out).2.1); rintro e w14 ⟨v403, v405, rfl, ho0, ho1, hb⟩; refine ⟨_, rfl, ?_⟩; have HO404 := Aside0.mk (Kd.R_lower ho0 (below_size (hB HB))); have HO406 := Aside0.mk (Kd.R_lower ho1 (below_size (hB HB))); replace HO399 := rb_ HO399 hb; replace HB := bst_ HB hb; clear hb ho0 ho1) | ((with_reducible refine gate_dst (N := 39) rfl ?_); refine goesL_ (some 39) rfl rfl Try.func11 (by kernel_rfl) rfl #[.slice A1 l1.length c1] rfl tm_ ?_; (with_reducible refine (laws_toEdgeS.calls k _ _ l1 t407 _ ?side1 ?side2 A9.out).mono ?_); (case side1 => exact cb_ HR1 HB); (case side2 => exact HC1.out); rintro e w15 ⟨v408, rfl, ho0, hb⟩; refine ⟨_, rfl, ?_⟩; have HO409 := Aside0.mk (Kd.R_lower (Kd.R_new' ho0 (rl_ HO399)) (below_size (hB HB))); replace HO399 := re_ HO399 ho0 hb; replace HO404 := rb_ HO404 hb; replace HO406 := rb_ HO406 hb; replace HB := bst_ HB hb; clear hb ho0; obtain ⟨Ao16, co16, eo16⟩ := Kd.R_slice HO409.out; subst eo16) | ((with_reducible refine gate_dst (N := 45) rfl ?_); refine goesL_ (some 45) rfl rfl Try.func19 (by kernel_rfl) rfl #[.int .i64 a0, .slice Ao16 t407.length co16, .int .i64 a2, .int .i64 a3] rfl tm_ ?_; (with_reducible refine (impl_BackupFor.calls k a0 _ _ t407 a2 a3 t410 t411 t412 _ ?side1 ?side2 A10.out).mono ?_); (case side1 => exact ca (Kd.R_reads' HO409.out).2.2); (case side2 => exact (Kd.R_reads' HO409.out).2.1); rintro e w17 ⟨v413, v415, rfl, ho0, ho1, hb⟩; refine ⟨_, rfl, ?_⟩; have HO414 := Aside0.mk (Kd.R_lower (Kd.R_new' (Kd.R_new' ho0 (rl_ HO404)) (rl_ HO406)) (below_size (hB HB))); have HO416 := Aside0.mk (Kd.R_lower (Kd.R_new' (Kd.R_new' ho1 (rl_ HO404)) (rl_ HO406)) (below_size (hB HB))); replace HO399 := rb_ HO399 hb; replace HO404 := rt2_ HO404 hb ho0 ho1; replace HO406 := rt2_ HO406 hb ho0 ho1; replace HO409 := rb_ HO409 hb; replace HB := bst_ HB hb; clear hb ho0 ho1))
 (try simp only [Act.put, List.setIfInBounds_toArray, List.set_cons_zero, List.set_cons_succ])
 go_cut [63] (fun v63 wc => ∃ (kq : Nat) (x63_10 : Bool), v63 = .bool x63_10 ∧ Aside0 (laws_FnExactBackupFor.j0 kq a0 l1 a2 a3 t400 t401 t402 t407 t410 t411 t412 x63_10 = some r) ∧ Aside0 (kq ≤ k) ∧ Aside0 (Kd.R (Kd.int .i64) 3 wc w.heap.size (fun k_ => no_ v405 k_ ∧ no_ v413 k_ ∧ no_ v415 k_) v403 t400) ∧ Aside0 (Kd.R (Kd.int .i64) 3 wc w.heap.size (fun k_ => no_ v403 k_ ∧ no_ v413 k_ ∧ no_ v415 k_) v405 t401) ∧ Aside0 (Kd.R k47 47 wc w.heap.size (fun _ => True) (.slice Ao16 t407.length co16) t407) ∧ Aside0 (Kd.R (Kd.int .i64) 3 wc w.heap.size (fun k_ => no_ v403 k_ ∧ no_ v405 k_ ∧ no_ v415 k_) v413 t410) ∧ Aside0 (Kd.R (Kd.int .i64) 3 wc w.heap.size (fun k_ => no_ v403 k_ ∧ no_ v405 k_ ∧ no_ v413 k_) v415 t411) ∧ Aside0 (Below w.heap.size w wc))
 case first =>
  have H := HC11.out
  clear HC11
  replace H := Option.bind_eq_some_iff.mp H
  obtain ⟨t417, A180, H⟩ := H
  replace H : (if t417 = true then ((laws_eqIntS.f k t411 t401).bind fun t418 => (if t418 = true then (laws_FnExactBackupFor.j0 k a0 l1 a2 a3 t400 t401 t402 t407 t410 t411 t412 (t412 != t402)) else (laws_FnExactBackupFor.j0 k a0 l1 a2 a3 t400 t401 t402 t407 t410 t411 t412 true))) else (laws_FnExactBackupFor.j0 k a0 l1 a2 a3 t400 t401 t402 t407 t410 t411 t412 true)) = some r := H
  have A18 := Aside0.mk A180
  clear A180
  by_cases c19 : t417 = true
  rotate_left
  ·replace c19 := Bool.eq_false_iff.mpr c19
   subst c19
   rw [if_neg (show ¬ (false = true) by decide)] at H
   have H' := Aside0.mk H
   clear H
   obtain ⟨Ao30, co30, eo30⟩ := Kd.R_slice HO414.out
   subst eo30
   obtain ⟨Ao31, co31, eo31⟩ := Kd.R_slice HO404.out
   subst eo31
   go_wp2_with (first | ((with_reducible refine gate_dst (N := 51) rfl ?_); refine goesL_ (some 51) rfl rfl Try.func13 (by kernel_rfl) rfl #[.slice Ao30 t410.length co30, .slice Ao31 t400.length co31] rfl tm_ ?_; (with_reducible refine (laws_eqIntS.calls k _ _ t410 _ _ t400 false _ ?side1 ?side2 ?side3 ?side4 A18.out).mono ?_); (case side1 => exact ca (Kd.R_reads' HO414.out).2.2); (case side2 => exact (Kd.R_reads' HO414.out).2.1); (case side3 => exact ca (Kd.R_reads' HO404.out).2.2); (case side4 => exact (Kd.R_reads' HO404.out).2.1); rintro e w' ⟨rfl, ⟨nd, rfl⟩⟩; refine ⟨_, rfl, ?_⟩))
   go_meet
   case rel => exact ⟨_, (true), (by first | rfl | (simp; done) | (simp [*]; done)), H', ⟨by first | omega | exact Nat.le_refl _⟩, rm_ HO404 (fun _ hk => ⟨hk.1.1, ⟨hk.1.2, hk.2⟩⟩), rm_ HO406 (fun _ hk => ⟨hk.1.1, ⟨hk.1.2, hk.2⟩⟩), rm_ HO409 (fun _ hk => trivial), rm_ HO414 (fun _ hk => ⟨hk.1.2, ⟨hk.2, hk.1.1⟩⟩), rm_ HO416 (fun _ hk => ⟨hk.1.2, ⟨hk.2, hk.1.1⟩⟩), ⟨hB HB⟩⟩
  subst c19
  rw [if_pos rfl] at H
  replace H := Option.bind_eq_some_iff.mp H
  obtain ⟨t418, A200, H⟩ := H
  replace H : (if t418 = true then (laws_FnExactBackupFor.j0 k a0 l1 a2 a3 t400 t401 t402 t407 t410 t411 t412 (t412 != t402)) else (laws_FnExactBackupFor.j0 k a0 l1 a2 a3 t400 t401 t402 t407 t410 t411 t412 true)) = some r := H
  have A20 := Aside0.mk A200
  clear A200
  by_cases c21 : t418 = true
  ·subst c21
   rw [if_pos rfl] at H
   have H' := Aside0.mk H
   clear H
   obtain ⟨Ao22, co22, eo22⟩ := Kd.R_slice HO414.out
   subst eo22
   obtain ⟨Ao23, co23, eo23⟩ := Kd.R_slice HO404.out
   subst eo23
   go_wp2_with (first | ((with_reducible refine gate_dst (N := 51) rfl ?_); refine goesL_ (some 51) rfl rfl Try.func13 (by kernel_rfl) rfl #[.slice Ao22 t410.length co22, .slice Ao23 t400.length co23] rfl tm_ ?_; (with_reducible refine (laws_eqIntS.calls k _ _ t410 _ _ t400 true _ ?side1 ?side2 ?side3 ?side4 A18.out).mono ?_); (case side1 => exact ca (Kd.R_reads' HO414.out).2.2); (case side2 => exact (Kd.R_reads' HO414.out).2.1); (case side3 => exact ca (Kd.R_reads' HO404.out).2.2); (case side4 => exact (Kd.R_reads' HO404.out).2.1); rintro e w' ⟨rfl, ⟨nd, rfl⟩⟩; refine ⟨_, rfl, ?_⟩; obtain ⟨Ao24, co24, eo24⟩ := Kd.R_slice HO416.out; subst eo24; obtain ⟨Ao25, co25, eo25⟩ := Kd.R_slice HO406.out; subst eo25) | (go_at_call 13; (with_reducible refine (laws_eqIntS.calls k _ _ t411 _ _ t401 true _ ?side1 ?side2 ?side3 ?side4 A20.out).mono ?_); (case side1 => exact ca (Kd.R_reads' HO416.out).2.2); (case side2 => exact (Kd.R_reads' HO416.out).2.1); (case side3 => exact ca (Kd.R_reads' HO406.out).2.2); (case side4 => exact (Kd.R_reads' HO406.out).2.1); rintro e w' ⟨rfl, ⟨nd, rfl⟩⟩))
   go_meet
   case rel => exact ⟨_, ((t412 != t402)), (by first | rfl | (simp; done) | (simp [*]; done)), H', ⟨by first | omega | exact Nat.le_refl _⟩, rm_ HO404 (fun _ hk => ⟨hk.1.1, ⟨hk.1.2, hk.2⟩⟩), rm_ HO406 (fun _ hk => ⟨hk.1.1, ⟨hk.1.2, hk.2⟩⟩), rm_ HO409 (fun _ hk => trivial), rm_ HO414 (fun _ hk => ⟨hk.1.2, ⟨hk.2, hk.1.1⟩⟩), rm_ HO416 (fun _ hk => ⟨hk.1.2, ⟨hk.2, hk.1.1⟩⟩), ⟨hB HB⟩⟩
  replace c21 := Bool.eq_false_iff.mpr c21
  subst c21
  rw [if_neg (show ¬ (false = true) by decide)] at H
  have H' := Aside0.mk H
  clear H
  obtain ⟨Ao26, co26, eo26⟩ := Kd.R_slice HO414.out
  subst eo26
  obtain ⟨Ao27, co27, eo27⟩ := Kd.R_slice HO404.out
  subst eo27
  go_wp2_with (first | ((with_reducible refine gate_dst (N := 51) rfl ?_); refine goesL_ (some 51) rfl rfl Try.func13 (by kernel_rfl) rfl #[.slice Ao26 t410.length co26, .slice Ao27 t400.length co27] rfl tm_ ?_; (with_reducible refine (laws_eqIntS.calls k _ _ t410 _ _ t400 true _ ?side1 ?side2 ?side3 ?side4 A18.out).mono ?_); (case side1 => exact ca (Kd.R_reads' HO414.out).2.2); (case side2 => exact (Kd.R_reads' HO414.out).2.1); (case side3 => exact ca (Kd.R_reads' HO404.out).2.2); (case side4 => exact (Kd.R_reads' HO404.out).2.1); rintro e w' ⟨rfl, ⟨nd, rfl⟩⟩; refine ⟨_, rfl, ?_⟩; obtain ⟨Ao28, co28, eo28⟩ := Kd.R_slice HO416.out; subst eo28; obtain ⟨Ao29, co29, eo29⟩ := Kd.R_slice HO406.out; subst eo29) | (go_at_call 13; (with_reducible refine (laws_eqIntS.calls k _ _ t411 _ _ t401 false _ ?side1 ?side2 ?side3 ?side4 A20.out).mono ?_); (case side1 => exact ca (Kd.R_reads' HO416.out).2.2); (case side2 => exact (Kd.R_reads' HO416.out).2.1); (case side3 => exact ca (Kd.R_reads' HO406.out).2.2); (case side4 => exact (Kd.R_reads' HO406.out).2.1); rintro e w' ⟨rfl, ⟨nd, rfl⟩⟩))
  go_meet
  case rel => exact ⟨_, (true), (by first | rfl | (simp; done) | (simp [*]; done)), H', ⟨by first | omega | exact Nat.le_refl _⟩, rm_ HO404 (fun _ hk => ⟨hk.1.1, ⟨hk.1.2, hk.2⟩⟩), rm_ HO406 (fun _ hk => ⟨hk.1.1, ⟨hk.1.2, hk.2⟩⟩), rm_ HO409 (fun _ hk => trivial), rm_ HO414 (fun _ hk => ⟨hk.1.2, ⟨hk.2, hk.1.1⟩⟩), rm_ HO416 (fun _ hk => ⟨hk.1.2, ⟨hk.2, hk.1.1⟩⟩), ⟨hB HB⟩⟩
 case rest =>
  clear HC11
  try clear c1
  try clear c6
  try clear c6b0
  obtain ⟨kq, x63_10, rfl, HA, HJ10, HO_10, HO_11, HO_13, HO_14, HO_15, HB⟩ := hcut
  cases kq with
  | zero => exact absurd HA.out (by simp [laws_FnExactBackupFor.j0])
  | succ kj10 =>
   have H := HA.out
   clear HA
   simp only [laws_FnExactBackupFor.j0] at H
   by_cases c32 : x63_10 = true
   ·subst c32
    rw [if_pos rfl] at H
    obtain rfl := Option.some.inj H
    go_wp2
    go_ret
    exact ⟨rt_, hB HB⟩
   replace c32 := Bool.eq_false_iff.mpr c32
   subst c32
   rw [if_neg (show ¬ (false = true) by decide)] at H
   replace H := Option.bind_eq_some_iff.mp H
   obtain ⟨t419, A330, H⟩ := H
   replace H : ((laws_eqEdgeS.f kj10 t407 t419).bind fun t422 => (if t422 = true then ((laws_markEdgeS.f kj10 t407 1).bind fun bt423 => (if bt423.1 < 0 then (laws_FnExactBackupFor.j1 kj10 a0 l1 a2 a3 t400 t401 t402 t410 t411 true) else ((laws_eqIntS.f kj10 t410 t400).bind fun t425 => (if t425 = true then ((laws_eqIntS.f kj10 t411 t401).bind fun t426 => (if t426 = true then (laws_FnExactBackupFor.j1 kj10 a0 l1 a2 a3 t400 t401 t402 t410 t411 (t412 != t402)) else (laws_FnExactBackupFor.j1 kj10 a0 l1 a2 a3 t400 t401 t402 t410 t411 true))) else (laws_FnExactBackupFor.j1 kj10 a0 l1 a2 a3 t400 t401 t402 t410 t411 true))))) else (some false))) = some r := H
   have A33 := Aside0.mk A330
   clear A330
   replace H := Option.bind_eq_some_iff.mp H
   obtain ⟨t422, A340, H⟩ := H
   replace H : (if t422 = true then ((laws_markEdgeS.f kj10 t407 1).bind fun bt423 => (if bt423.1 < 0 then (laws_FnExactBackupFor.j1 kj10 a0 l1 a2 a3 t400 t401 t402 t410 t411 true) else ((laws_eqIntS.f kj10 t410 t400).bind fun t425 => (if t425 = true then ((laws_eqIntS.f kj10 t411 t401).bind fun t426 => (if t426 = true then (laws_FnExactBackupFor.j1 kj10 a0 l1 a2 a3 t400 t401 t402 t410 t411 (t412 != t402)) else (laws_FnExactBackupFor.j1 kj10 a0 l1 a2 a3 t400 t401 t402 t410 t411 true))) else (laws_FnExactBackupFor.j1 kj10 a0 l1 a2 a3 t400 t401 t402 t410 t411 true))))) else (some false)) = some r := H
   have A34 := Aside0.mk A340
   clear A340
   by_cases c35 : t422 = true
   rotate_left
   ·replace c35 := Bool.eq_false_iff.mpr c35
    subst c35
    rw [if_neg (show ¬ (false = true) by decide)] at H
    obtain rfl := Option.some.inj H
    go_wp2_with (first | ((with_reducible refine gate_dst (N := 66) rfl ?_); refine goesL_ (some 66) rfl rfl Try.func11 (by kernel_rfl) rfl #[.slice A1 l1.length c1] rfl tm_ ?_; (with_reducible refine (laws_toEdgeS.calls kj10 _ _ l1 t419 _ ?side1 ?side2 A33.out).mono ?_); (case side1 => exact cb_ HR1 HB); (case side2 => exact HC1.out); rintro e w107 ⟨v420, rfl, ho0, hb⟩; refine ⟨_, rfl, ?_⟩; have HO421 := Aside0.mk (Kd.R_lower (Kd.R_new' ho0 (rl_ HO_13)) (below_size (hB HB))); replace HO_10 := rb_ HO_10 hb; replace HO_11 := rb_ HO_11 hb; replace HO_13 := re_ HO_13 ho0 hb; replace HO_14 := rb_ HO_14 hb; replace HO_15 := rb_ HO_15 hb; replace HB := bst_ HB hb; clear hb ho0; obtain ⟨Ao108, co108, eo108⟩ := Kd.R_slice HO421.out; subst eo108) | ((with_reducible refine gate_dst (N := 67) rfl ?_); refine goesL_ (some 67) rfl rfl Try.func14 (by kernel_rfl) rfl #[.slice Ao16 t407.length co16, .slice Ao108 t419.length co108] rfl tm_ ?_; (with_reducible refine (laws_eqEdgeS.calls kj10 _ _ t407 _ _ t419 false _ ?side1 ?side2 ?side3 ?side4 A34.out).mono ?_); (case side1 => exact ca (Kd.R_reads' HO_13.out).2.2); (case side2 => exact (Kd.R_reads' HO_13.out).2.1); (case side3 => exact ca (Kd.R_reads' HO421.out).2.2); (case side4 => exact (Kd.R_reads' HO421.out).2.1); rintro e w109 ⟨rfl, hb⟩; refine ⟨_, rfl, ?_⟩; replace HO_10 := rb_ HO_10 hb; replace HO_11 := rb_ HO_11 hb; replace HO_13 := rb_ HO_13 hb; replace HO_14 := rb_ HO_14 hb; replace HO_15 := rb_ HO_15 hb; replace HO421 := rb_ HO421 hb; replace HB := bst_ HB hb; clear hb))
    go_ret
    exact ⟨rt_, hB HB⟩
   subst c35
   rw [if_pos rfl] at H
   replace H := Option.bind_eq_some_iff.mp H
   obtain ⟨⟨t423, t424⟩, A360, H⟩ := H
   replace H : (if t423 < 0 then (laws_FnExactBackupFor.j1 kj10 a0 l1 a2 a3 t400 t401 t402 t410 t411 true) else ((laws_eqIntS.f kj10 t410 t400).bind fun t425 => (if t425 = true then ((laws_eqIntS.f kj10 t411 t401).bind fun t426 => (if t426 = true then (laws_FnExactBackupFor.j1 kj10 a0 l1 a2 a3 t400 t401 t402 t410 t411 (t412 != t402)) else (laws_FnExactBackupFor.j1 kj10 a0 l1 a2 a3 t400 t401 t402 t410 t411 true))) else (laws_FnExactBackupFor.j1 kj10 a0 l1 a2 a3 t400 t401 t402 t410 t411 true)))) = some r := H
   have A36 := Aside0.mk A360
   clear A360
   have HC37 := Aside0.mk H
   clear H
   go_upto_region 14 with (first | ((with_reducible refine gate_dst (N := 66) rfl ?_); refine goesL_ (some 66) rfl rfl Try.func11 (by kernel_rfl) rfl #[.slice A1 l1.length c1] rfl tm_ ?_; (with_reducible refine (laws_toEdgeS.calls kj10 _ _ l1 t419 _ ?side1 ?side2 A33.out).mono ?_); (case side1 => exact cb_ HR1 HB); (case side2 => exact HC1.out); rintro e w38 ⟨v420, rfl, ho0, hb⟩; refine ⟨_, rfl, ?_⟩; have HO421 := Aside0.mk (Kd.R_lower (Kd.R_new' ho0 (rl_ HO_13)) (below_size (hB HB))); replace HO_10 := rb_ HO_10 hb; replace HO_11 := rb_ HO_11 hb; replace HO_13 := re_ HO_13 ho0 hb; replace HO_14 := rb_ HO_14 hb; replace HO_15 := rb_ HO_15 hb; replace HB := bst_ HB hb; clear hb ho0; obtain ⟨Ao39, co39, eo39⟩ := Kd.R_slice HO421.out; subst eo39) | ((with_reducible refine gate_dst (N := 67) rfl ?_); refine goesL_ (some 67) rfl rfl Try.func14 (by kernel_rfl) rfl #[.slice Ao16 t407.length co16, .slice Ao39 t419.length co39] rfl tm_ ?_; (with_reducible refine (laws_eqEdgeS.calls kj10 _ _ t407 _ _ t419 true _ ?side1 ?side2 ?side3 ?side4 A34.out).mono ?_); (case side1 => exact ca (Kd.R_reads' HO_13.out).2.2); (case side2 => exact (Kd.R_reads' HO_13.out).2.1); (case side3 => exact ca (Kd.R_reads' HO421.out).2.2); (case side4 => exact (Kd.R_reads' HO421.out).2.1); rintro e w40 ⟨rfl, hb⟩; refine ⟨_, rfl, ?_⟩; replace HO_10 := rb_ HO_10 hb; replace HO_11 := rb_ HO_11 hb; replace HO_13 := rb_ HO_13 hb; replace HO_14 := rb_ HO_14 hb; replace HO_15 := rb_ HO_15 hb; replace HO421 := rb_ HO421 hb; replace HB := bst_ HB hb; clear hb) | ((with_reducible refine gate_dst (N := 71) rfl ?_); refine goesL_ (some 71) rfl rfl Try.func15 (by kernel_rfl) rfl #[.slice Ao16 t407.length co16, .int .i64 1] rfl tm_ ?_; (with_reducible refine (laws_markEdgeS.calls kj10 (fun k_ => some k_ = (.slice Ao16 t407.length co16 : Value).ownBlock) (.slice Ao16 t407.length co16) t407 1 t423 t424 w _ ?side1 ?side2 A36.out).mono ?_); (case side1 => exact hB HB); (case side2 => exact Kd.R_tight rfl HO_13.out); rintro e w41 ⟨rfl, hy0, hb, hkp⟩; refine ⟨_, rfl, ?_⟩; replace HO_10 := Aside0.mk (Kd.R_mono (ok' := fun k_ => no_ v405 k_ ∧ no_ v413 k_ ∧ no_ v415 k_) (Kd.R_keptB ((Kd.R_apart' HO_10.out (Kd.R_typed HO_13.out) (by decide))) hkp (fun k_ hk_ hs_ => (hk_.2) hs_)) (fun k_ hk_ => ⟨hk_.1.1.1, hk_.1.1.2.1, hk_.1.1.2.2⟩)); replace HO_11 := Aside0.mk (Kd.R_mono (ok' := fun k_ => no_ v403 k_ ∧ no_ v413 k_ ∧ no_ v415 k_) (Kd.R_keptB ((Kd.R_apart' HO_11.out (Kd.R_typed HO_13.out) (by decide))) hkp (fun k_ hk_ hs_ => (hk_.2) hs_)) (fun k_ hk_ => ⟨hk_.1.1.1, hk_.1.1.2.1, hk_.1.1.2.2⟩)); replace HO_14 := Aside0.mk (Kd.R_mono (ok' := fun k_ => no_ v403 k_ ∧ no_ v405 k_ ∧ no_ v415 k_) (Kd.R_keptB ((Kd.R_apart' HO_14.out (Kd.R_typed HO_13.out) (by decide))) hkp (fun k_ hk_ hs_ => (hk_.2) hs_)) (fun k_ hk_ => ⟨hk_.1.1.1, hk_.1.1.2.1, hk_.1.1.2.2⟩)); replace HO_15 := Aside0.mk (Kd.R_mono (ok' := fun k_ => no_ v403 k_ ∧ no_ v405 k_ ∧ no_ v413 k_) (Kd.R_keptB ((Kd.R_apart' HO_15.out (Kd.R_typed HO_13.out) (by decide))) hkp (fun k_ hk_ hs_ => (hk_.2) hs_)) (fun k_ hk_ => ⟨hk_.1.1.1, hk_.1.1.2.1, hk_.1.1.2.2⟩)); replace HO_13 := Aside0.mk (Kd.R_reok rfl hy0 (fun k_ e_ => HO_13.out.1 k_ e_)); replace HO421 := Aside0.mk (Kd.R_mono (ok' := fun k_ => no_ (.slice Ao16 t407.length co16) k_) (Kd.R_keptB (HO421.out) hkp (fun k_ hk_ hs_ => (hk_.2) hs_)) (fun k_ hk_ => hk_.1.2)); replace HB := Aside0.mk (hb); clear hb))
   (try simp only [Act.put, List.setIfInBounds_toArray, List.set_cons_zero, List.set_cons_succ])
   go_cut [90] (fun v90 wc => ∃ (kq : Nat) (x90_36 : Bool), v90 = .bool x90_36 ∧ Aside0 (laws_FnExactBackupFor.j1 kq a0 l1 a2 a3 t400 t401 t402 t410 t411 x90_36 = some r) ∧ Aside0 (kq ≤ kj10) ∧ Aside0 (Kd.R (Kd.int .i64) 3 wc w.heap.size (fun k_ => no_ v405 k_ ∧ no_ v413 k_ ∧ no_ v415 k_) v403 t400) ∧ Aside0 (Kd.R (Kd.int .i64) 3 wc w.heap.size (fun k_ => no_ v403 k_ ∧ no_ v413 k_ ∧ no_ v415 k_) v405 t401) ∧ Aside0 (Kd.R (Kd.int .i64) 3 wc w.heap.size (fun k_ => no_ v403 k_ ∧ no_ v405 k_ ∧ no_ v415 k_) v413 t410) ∧ Aside0 (Kd.R (Kd.int .i64) 3 wc w.heap.size (fun k_ => no_ v403 k_ ∧ no_ v405 k_ ∧ no_ v413 k_) v415 t411) ∧ Aside0 (Below w.heap.size w wc))
   case first =>
    have H := HC37.out
    clear HC37
    by_cases c42 : t423 < 0
    ·rw [if_pos c42] at H
     have c42b0 : decide (t423 < 0) = true := decide_eq_true c42
     clear c42
     (first | rw [c42b0] | (simp only [i64_w, i32_w]; rw [c42b0]) | skip)
     have H' := Aside0.mk H
     clear H
     go_wp2
     go_meet
     case rel => exact ⟨_, (true), (by first | rfl | (simp; done) | (simp [*]; done)), H', ⟨by have := HJ10.out; first | omega | exact Nat.le_refl _⟩, ⟨ra HO_10.out⟩, ⟨ra HO_11.out⟩, ⟨ra HO_14.out⟩, ⟨ra HO_15.out⟩, ⟨hB HB⟩⟩
    rw [if_neg c42] at H
    have c42b0 : decide (t423 < 0) = false := decide_eq_false c42
    clear c42
    (first | rw [c42b0] | (simp only [i64_w, i32_w]; rw [c42b0]) | skip)
    replace H := Option.bind_eq_some_iff.mp H
    obtain ⟨t425, A430, H⟩ := H
    replace H : (if t425 = true then ((laws_eqIntS.f kj10 t411 t401).bind fun t426 => (if t426 = true then (laws_FnExactBackupFor.j1 kj10 a0 l1 a2 a3 t400 t401 t402 t410 t411 (t412 != t402)) else (laws_FnExactBackupFor.j1 kj10 a0 l1 a2 a3 t400 t401 t402 t410 t411 true))) else (laws_FnExactBackupFor.j1 kj10 a0 l1 a2 a3 t400 t401 t402 t410 t411 true)) = some r := H
    have A43 := Aside0.mk A430
    clear A430
    by_cases c44 : t425 = true
    rotate_left
    ·replace c44 := Bool.eq_false_iff.mpr c44
     subst c44
     rw [if_neg (show ¬ (false = true) by decide)] at H
     have H' := Aside0.mk H
     clear H
     obtain ⟨Ao55, co55, eo55⟩ := Kd.R_slice HO_14.out
     subst eo55
     obtain ⟨Ao56, co56, eo56⟩ := Kd.R_slice HO_10.out
     subst eo56
     go_wp2_with (first | (go_at_call 13; (with_reducible refine (laws_eqIntS.calls kj10 _ _ t410 _ _ t400 false _ ?side1 ?side2 ?side3 ?side4 A43.out).mono ?_); (case side1 => exact ca (Kd.R_reads' HO_14.out).2.2); (case side2 => exact (Kd.R_reads' HO_14.out).2.1); (case side3 => exact ca (Kd.R_reads' HO_10.out).2.2); (case side4 => exact (Kd.R_reads' HO_10.out).2.1); rintro e w' ⟨rfl, ⟨nd, rfl⟩⟩))
     go_meet
     case rel => exact ⟨_, (true), (by first | rfl | (simp; done) | (simp [*]; done)), H', ⟨by have := HJ10.out; first | omega | exact Nat.le_refl _⟩, ⟨ra HO_10.out⟩, ⟨ra HO_11.out⟩, ⟨ra HO_14.out⟩, ⟨ra HO_15.out⟩, ⟨hB HB⟩⟩
    subst c44
    rw [if_pos rfl] at H
    replace H := Option.bind_eq_some_iff.mp H
    obtain ⟨t426, A450, H⟩ := H
    replace H : (if t426 = true then (laws_FnExactBackupFor.j1 kj10 a0 l1 a2 a3 t400 t401 t402 t410 t411 (t412 != t402)) else (laws_FnExactBackupFor.j1 kj10 a0 l1 a2 a3 t400 t401 t402 t410 t411 true)) = some r := H
    have A45 := Aside0.mk A450
    clear A450
    by_cases c46 : t426 = true
    ·subst c46
     rw [if_pos rfl] at H
     have H' := Aside0.mk H
     clear H
     obtain ⟨Ao47, co47, eo47⟩ := Kd.R_slice HO_14.out
     subst eo47
     obtain ⟨Ao48, co48, eo48⟩ := Kd.R_slice HO_10.out
     subst eo48
     go_wp2_with (first | (go_at_call 13; (with_reducible refine (laws_eqIntS.calls kj10 _ _ t410 _ _ t400 true _ ?side1 ?side2 ?side3 ?side4 A43.out).mono ?_); (case side1 => exact ca (Kd.R_reads' HO_14.out).2.2); (case side2 => exact (Kd.R_reads' HO_14.out).2.1); (case side3 => exact ca (Kd.R_reads' HO_10.out).2.2); (case side4 => exact (Kd.R_reads' HO_10.out).2.1); rintro e w' ⟨rfl, ⟨nd, rfl⟩⟩; obtain ⟨Ao49, co49, eo49⟩ := Kd.R_slice HO_15.out; subst eo49; obtain ⟨Ao50, co50, eo50⟩ := Kd.R_slice HO_11.out; subst eo50) | (go_at_call 13; (with_reducible refine (laws_eqIntS.calls kj10 _ _ t411 _ _ t401 true _ ?side1 ?side2 ?side3 ?side4 A45.out).mono ?_); (case side1 => exact ca (Kd.R_reads' HO_15.out).2.2); (case side2 => exact (Kd.R_reads' HO_15.out).2.1); (case side3 => exact ca (Kd.R_reads' HO_11.out).2.2); (case side4 => exact (Kd.R_reads' HO_11.out).2.1); rintro e w' ⟨rfl, ⟨nd, rfl⟩⟩))
     go_meet
     case rel => exact ⟨_, ((t412 != t402)), (by first | rfl | (simp; done) | (simp [*]; done)), H', ⟨by have := HJ10.out; first | omega | exact Nat.le_refl _⟩, ⟨ra HO_10.out⟩, ⟨ra HO_11.out⟩, ⟨ra HO_14.out⟩, ⟨ra HO_15.out⟩, ⟨hB HB⟩⟩
    replace c46 := Bool.eq_false_iff.mpr c46
    subst c46
    rw [if_neg (show ¬ (false = true) by decide)] at H
    have H' := Aside0.mk H
    clear H
    obtain ⟨Ao51, co51, eo51⟩ := Kd.R_slice HO_14.out
    subst eo51
    obtain ⟨Ao52, co52, eo52⟩ := Kd.R_slice HO_10.out
    subst eo52
    go_wp2_with (first | (go_at_call 13; (with_reducible refine (laws_eqIntS.calls kj10 _ _ t410 _ _ t400 true _ ?side1 ?side2 ?side3 ?side4 A43.out).mono ?_); (case side1 => exact ca (Kd.R_reads' HO_14.out).2.2); (case side2 => exact (Kd.R_reads' HO_14.out).2.1); (case side3 => exact ca (Kd.R_reads' HO_10.out).2.2); (case side4 => exact (Kd.R_reads' HO_10.out).2.1); rintro e w' ⟨rfl, ⟨nd, rfl⟩⟩; obtain ⟨Ao53, co53, eo53⟩ := Kd.R_slice HO_15.out; subst eo53; obtain ⟨Ao54, co54, eo54⟩ := Kd.R_slice HO_11.out; subst eo54) | (go_at_call 13; (with_reducible refine (laws_eqIntS.calls kj10 _ _ t411 _ _ t401 false _ ?side1 ?side2 ?side3 ?side4 A45.out).mono ?_); (case side1 => exact ca (Kd.R_reads' HO_15.out).2.2); (case side2 => exact (Kd.R_reads' HO_15.out).2.1); (case side3 => exact ca (Kd.R_reads' HO_11.out).2.2); (case side4 => exact (Kd.R_reads' HO_11.out).2.1); rintro e w' ⟨rfl, ⟨nd, rfl⟩⟩))
    go_meet
    case rel => exact ⟨_, (true), (by first | rfl | (simp; done) | (simp [*]; done)), H', ⟨by have := HJ10.out; first | omega | exact Nat.le_refl _⟩, ⟨ra HO_10.out⟩, ⟨ra HO_11.out⟩, ⟨ra HO_14.out⟩, ⟨ra HO_15.out⟩, ⟨hB HB⟩⟩
   case rest =>
    clear HC37
    try clear c1
    try clear c6
    try clear c6b0
    try clear c32
    try clear c35
    obtain ⟨kq, x90_36, rfl, HA, HJ36, HO_10, HO_11, HO_14, HO_15, HB⟩ := hcut
    cases kq with
    | zero => exact absurd HA.out (by simp [laws_FnExactBackupFor.j1])
    | succ kj36 =>
     have H := HA.out
     clear HA
     simp only [laws_FnExactBackupFor.j1] at H
     by_cases c57 : x90_36 = true
     ·subst c57
      rw [if_pos rfl] at H
      obtain rfl := Option.some.inj H
      go_wp2
      go_ret
      exact ⟨rt_, hB HB⟩
     replace c57 := Bool.eq_false_iff.mpr c57
     subst c57
     rw [if_neg (show ¬ (false = true) by decide)] at H
     replace H := Option.bind_eq_some_iff.mp H
     obtain ⟨⟨t427, t428⟩, A580, H⟩ := H
     replace H : ((laws_markIntS.f kj36 t411 t427).bind fun bt429 => ((laws_heldIntS.f kj36 t428 1).bind fun t431 => (if t431 < 0 then (some false) else ((laws_heldIntS.f kj36 bt429.2 t431).bind fun t432 => (if t432 < 0 then (some false) else (if t432 = bt429.1 then ((laws_toEdgeS.f kj36 l1).bind fun t433 => ((impl_BackupFor.f kj36 a0 t433 a2 a3).bind fun bt436 => ((laws_eqIntS.f kj36 bt436.1 t400).bind fun t443 => (if t443 = true then ((laws_eqIntS.f kj36 bt436.2.1 t401).bind fun t444 => (if t444 = true then (laws_FnExactBackupFor.j2 kj36 t428 bt429.2 bt429.1 (bt436.2.2 != t402)) else (laws_FnExactBackupFor.j2 kj36 t428 bt429.2 bt429.1 true))) else (laws_FnExactBackupFor.j2 kj36 t428 bt429.2 bt429.1 true))))) else (some false))))))) = some r := H
     have A58 := Aside0.mk A580
     clear A580
     replace H := Option.bind_eq_some_iff.mp H
     obtain ⟨⟨t429, t430⟩, A590, H⟩ := H
     replace H : ((laws_heldIntS.f kj36 t428 1).bind fun t431 => (if t431 < 0 then (some false) else ((laws_heldIntS.f kj36 t430 t431).bind fun t432 => (if t432 < 0 then (some false) else (if t432 = t429 then ((laws_toEdgeS.f kj36 l1).bind fun t433 => ((impl_BackupFor.f kj36 a0 t433 a2 a3).bind fun bt436 => ((laws_eqIntS.f kj36 bt436.1 t400).bind fun t443 => (if t443 = true then ((laws_eqIntS.f kj36 bt436.2.1 t401).bind fun t444 => (if t444 = true then (laws_FnExactBackupFor.j2 kj36 t428 t430 t429 (bt436.2.2 != t402)) else (laws_FnExactBackupFor.j2 kj36 t428 t430 t429 true))) else (laws_FnExactBackupFor.j2 kj36 t428 t430 t429 true))))) else (some false)))))) = some r := H
     have A59 := Aside0.mk A590
     clear A590
     replace H := Option.bind_eq_some_iff.mp H
     obtain ⟨t431, A600, H⟩ := H
     replace H : (if t431 < 0 then (some false) else ((laws_heldIntS.f kj36 t430 t431).bind fun t432 => (if t432 < 0 then (some false) else (if t432 = t429 then ((laws_toEdgeS.f kj36 l1).bind fun t433 => ((impl_BackupFor.f kj36 a0 t433 a2 a3).bind fun bt436 => ((laws_eqIntS.f kj36 bt436.1 t400).bind fun t443 => (if t443 = true then ((laws_eqIntS.f kj36 bt436.2.1 t401).bind fun t444 => (if t444 = true then (laws_FnExactBackupFor.j2 kj36 t428 t430 t429 (bt436.2.2 != t402)) else (laws_FnExactBackupFor.j2 kj36 t428 t430 t429 true))) else (laws_FnExactBackupFor.j2 kj36 t428 t430 t429 true))))) else (some false))))) = some r := H
     have A60 := Aside0.mk A600
     clear A600
     by_cases c61 : t431 < 0
     ·rw [if_pos c61] at H
      have c61b0 : decide (t431 < 0) = true := decide_eq_true c61
      clear c61
      obtain rfl := Option.some.inj H
      obtain ⟨Ao62, co62, eo62⟩ := Kd.R_slice HO_14.out
      subst eo62
      go_wp2_with (first | ((with_reducible refine gate_dst (N := 93) rfl ?_); refine goesL_ (some 93) rfl rfl Try.func16 (by kernel_rfl) rfl #[.slice Ao62 t410.length co62, .int .i64 1] rfl tm_ ?_; (with_reducible refine (laws_markIntS.calls kj36 (fun k_ => some k_ = (.slice Ao62 t410.length co62 : Value).ownBlock) (.slice Ao62 t410.length co62) t410 1 t427 t428 w _ ?side1 ?side2 A58.out).mono ?_); (case side1 => exact hB HB); (case side2 => exact Kd.R_tight rfl HO_14.out); rintro e w63 ⟨rfl, hy0, hb, hkp⟩; refine ⟨_, rfl, ?_⟩; replace HO_10 := Aside0.mk (Kd.R_mono (ok' := fun k_ => no_ v405 k_ ∧ no_ (.slice Ao62 t410.length co62) k_ ∧ no_ v415 k_) (Kd.R_keptB (HO_10.out) hkp (fun k_ hk_ hs_ => (hk_.2.1) hs_)) (fun k_ hk_ => ⟨hk_.1.1, hk_.1.2.1, hk_.1.2.2⟩)); replace HO_11 := Aside0.mk (Kd.R_mono (ok' := fun k_ => no_ v403 k_ ∧ no_ (.slice Ao62 t410.length co62) k_ ∧ no_ v415 k_) (Kd.R_keptB (HO_11.out) hkp (fun k_ hk_ hs_ => (hk_.2.1) hs_)) (fun k_ hk_ => ⟨hk_.1.1, hk_.1.2.1, hk_.1.2.2⟩)); replace HO_14 := Aside0.mk (Kd.R_reok rfl hy0 (fun k_ e_ => HO_14.out.1 k_ e_)); replace HO_15 := Aside0.mk (Kd.R_mono (ok' := fun k_ => no_ v403 k_ ∧ no_ v405 k_ ∧ no_ (.slice Ao62 t410.length co62) k_) (Kd.R_keptB (HO_15.out) hkp (fun k_ hk_ hs_ => (hk_.2.2) hs_)) (fun k_ hk_ => ⟨hk_.1.1, hk_.1.2.1, hk_.1.2.2⟩)); replace HB := Aside0.mk (hb); clear hb; obtain ⟨Ao64, co64, eo64⟩ := Kd.R_slice HO_15.out; subst eo64) | ((with_reducible refine gate_dst (N := 96) rfl ?_); refine goesL_ (some 96) rfl rfl Try.func16 (by kernel_rfl) rfl #[.slice Ao64 t411.length co64, .int .i64 t427] rfl tm_ ?_; (with_reducible refine (laws_markIntS.calls kj36 (fun k_ => some k_ = (.slice Ao64 t411.length co64 : Value).ownBlock) (.slice Ao64 t411.length co64) t411 t427 t429 t430 w _ ?side1 ?side2 A59.out).mono ?_); (case side1 => exact hB HB); (case side2 => exact Kd.R_tight rfl HO_15.out); rintro e w65 ⟨rfl, hy0, hb, hkp⟩; refine ⟨_, rfl, ?_⟩; replace HO_10 := Aside0.mk (Kd.R_mono (ok' := fun k_ => no_ v405 k_ ∧ no_ (.slice Ao62 t410.length co62) k_ ∧ no_ (.slice Ao64 t411.length co64) k_) (Kd.R_keptB (HO_10.out) hkp (fun k_ hk_ hs_ => (hk_.2.2) hs_)) (fun k_ hk_ => ⟨hk_.1.1, hk_.1.2.1, hk_.1.2.2⟩)); replace HO_11 := Aside0.mk (Kd.R_mono (ok' := fun k_ => no_ v403 k_ ∧ no_ (.slice Ao62 t410.length co62) k_ ∧ no_ (.slice Ao64 t411.length co64) k_) (Kd.R_keptB (HO_11.out) hkp (fun k_ hk_ hs_ => (hk_.2.2) hs_)) (fun k_ hk_ => ⟨hk_.1.1, hk_.1.2.1, hk_.1.2.2⟩)); replace HO_14 := Aside0.mk (Kd.R_mono (ok' := fun k_ => no_ v403 k_ ∧ no_ v405 k_ ∧ no_ (.slice Ao64 t411.length co64) k_) (Kd.R_keptB (HO_14.out) hkp (fun k_ hk_ hs_ => (hk_.2.2) hs_)) (fun k_ hk_ => ⟨hk_.1.1, hk_.1.2.1, hk_.1.2.2⟩)); replace HO_15 := Aside0.mk (Kd.R_reok rfl hy0 (fun k_ e_ => HO_15.out.1 k_ e_)); replace HB := Aside0.mk (hb); clear hb) | ((with_reducible refine gate_dst (N := 99) rfl ?_); refine goesL_ (some 99) rfl rfl Try.func17 (by kernel_rfl) rfl #[.slice Ao62 t428.length co62, .int .i64 1] rfl (by (try simp only [List.map_toArray, List.map_cons, List.map_nil]); first | done | (rw [show t428.length = t410.length from (Kd.R_reads' HO_14.out).1.symm] <;> rfl) | rfl | (simp only [List.length_drop, List.length_take]; rfl)) ?_; (with_reducible refine (laws_heldIntS.calls kj36 _ _ t428 1 t431 _ ?side1 ?side2 A60.out).mono ?_); (case side1 => exact ca (Kd.R_reads' HO_14.out).2.2); (case side2 => rw [show t428.length = t410.length from (Kd.R_reads' HO_14.out).1.symm]; exact (Kd.R_reads' HO_14.out).2.1); rintro e w' ⟨rfl, ⟨nd, rfl⟩⟩; refine ⟨_, rfl, ?_⟩))
      go_ret
      exact ⟨rt_, hB HB⟩
     rw [if_neg c61] at H
     have c61b0 : decide (t431 < 0) = false := decide_eq_false c61
     clear c61
     replace H := Option.bind_eq_some_iff.mp H
     obtain ⟨t432, A660, H⟩ := H
     replace H : (if t432 < 0 then (some false) else (if t432 = t429 then ((laws_toEdgeS.f kj36 l1).bind fun t433 => ((impl_BackupFor.f kj36 a0 t433 a2 a3).bind fun bt436 => ((laws_eqIntS.f kj36 bt436.1 t400).bind fun t443 => (if t443 = true then ((laws_eqIntS.f kj36 bt436.2.1 t401).bind fun t444 => (if t444 = true then (laws_FnExactBackupFor.j2 kj36 t428 t430 t429 (bt436.2.2 != t402)) else (laws_FnExactBackupFor.j2 kj36 t428 t430 t429 true))) else (laws_FnExactBackupFor.j2 kj36 t428 t430 t429 true))))) else (some false))) = some r := H
     have A66 := Aside0.mk A660
     clear A660
     by_cases c67 : t432 < 0
     ·rw [if_pos c67] at H
      have c67b0 : decide (t432 < 0) = true := decide_eq_true c67
      clear c67
      obtain rfl := Option.some.inj H
      obtain ⟨Ao68, co68, eo68⟩ := Kd.R_slice HO_14.out
      subst eo68
      go_wp2_with (first | ((with_reducible refine gate_dst (N := 93) rfl ?_); refine goesL_ (some 93) rfl rfl Try.func16 (by kernel_rfl) rfl #[.slice Ao68 t410.length co68, .int .i64 1] rfl tm_ ?_; (with_reducible refine (laws_markIntS.calls kj36 (fun k_ => some k_ = (.slice Ao68 t410.length co68 : Value).ownBlock) (.slice Ao68 t410.length co68) t410 1 t427 t428 w _ ?side1 ?side2 A58.out).mono ?_); (case side1 => exact hB HB); (case side2 => exact Kd.R_tight rfl HO_14.out); rintro e w69 ⟨rfl, hy0, hb, hkp⟩; refine ⟨_, rfl, ?_⟩; replace HO_10 := Aside0.mk (Kd.R_mono (ok' := fun k_ => no_ v405 k_ ∧ no_ (.slice Ao68 t410.length co68) k_ ∧ no_ v415 k_) (Kd.R_keptB (HO_10.out) hkp (fun k_ hk_ hs_ => (hk_.2.1) hs_)) (fun k_ hk_ => ⟨hk_.1.1, hk_.1.2.1, hk_.1.2.2⟩)); replace HO_11 := Aside0.mk (Kd.R_mono (ok' := fun k_ => no_ v403 k_ ∧ no_ (.slice Ao68 t410.length co68) k_ ∧ no_ v415 k_) (Kd.R_keptB (HO_11.out) hkp (fun k_ hk_ hs_ => (hk_.2.1) hs_)) (fun k_ hk_ => ⟨hk_.1.1, hk_.1.2.1, hk_.1.2.2⟩)); replace HO_14 := Aside0.mk (Kd.R_reok rfl hy0 (fun k_ e_ => HO_14.out.1 k_ e_)); replace HO_15 := Aside0.mk (Kd.R_mono (ok' := fun k_ => no_ v403 k_ ∧ no_ v405 k_ ∧ no_ (.slice Ao68 t410.length co68) k_) (Kd.R_keptB (HO_15.out) hkp (fun k_ hk_ hs_ => (hk_.2.2) hs_)) (fun k_ hk_ => ⟨hk_.1.1, hk_.1.2.1, hk_.1.2.2⟩)); replace HB := Aside0.mk (hb); clear hb; obtain ⟨Ao70, co70, eo70⟩ := Kd.R_slice HO_15.out; subst eo70) | ((with_reducible refine gate_dst (N := 96) rfl ?_); refine goesL_ (some 96) rfl rfl Try.func16 (by kernel_rfl) rfl #[.slice Ao70 t411.length co70, .int .i64 t427] rfl tm_ ?_; (with_reducible refine (laws_markIntS.calls kj36 (fun k_ => some k_ = (.slice Ao70 t411.length co70 : Value).ownBlock) (.slice Ao70 t411.length co70) t411 t427 t429 t430 w _ ?side1 ?side2 A59.out).mono ?_); (case side1 => exact hB HB); (case side2 => exact Kd.R_tight rfl HO_15.out); rintro e w71 ⟨rfl, hy0, hb, hkp⟩; refine ⟨_, rfl, ?_⟩; replace HO_10 := Aside0.mk (Kd.R_mono (ok' := fun k_ => no_ v405 k_ ∧ no_ (.slice Ao68 t410.length co68) k_ ∧ no_ (.slice Ao70 t411.length co70) k_) (Kd.R_keptB (HO_10.out) hkp (fun k_ hk_ hs_ => (hk_.2.2) hs_)) (fun k_ hk_ => ⟨hk_.1.1, hk_.1.2.1, hk_.1.2.2⟩)); replace HO_11 := Aside0.mk (Kd.R_mono (ok' := fun k_ => no_ v403 k_ ∧ no_ (.slice Ao68 t410.length co68) k_ ∧ no_ (.slice Ao70 t411.length co70) k_) (Kd.R_keptB (HO_11.out) hkp (fun k_ hk_ hs_ => (hk_.2.2) hs_)) (fun k_ hk_ => ⟨hk_.1.1, hk_.1.2.1, hk_.1.2.2⟩)); replace HO_14 := Aside0.mk (Kd.R_mono (ok' := fun k_ => no_ v403 k_ ∧ no_ v405 k_ ∧ no_ (.slice Ao70 t411.length co70) k_) (Kd.R_keptB (HO_14.out) hkp (fun k_ hk_ hs_ => (hk_.2.2) hs_)) (fun k_ hk_ => ⟨hk_.1.1, hk_.1.2.1, hk_.1.2.2⟩)); replace HO_15 := Aside0.mk (Kd.R_reok rfl hy0 (fun k_ e_ => HO_15.out.1 k_ e_)); replace HB := Aside0.mk (hb); clear hb) | ((with_reducible refine gate_dst (N := 99) rfl ?_); refine goesL_ (some 99) rfl rfl Try.func17 (by kernel_rfl) rfl #[.slice Ao68 t428.length co68, .int .i64 1] rfl (by (try simp only [List.map_toArray, List.map_cons, List.map_nil]); first | done | (rw [show t428.length = t410.length from (Kd.R_reads' HO_14.out).1.symm] <;> rfl) | rfl | (simp only [List.length_drop, List.length_take]; rfl)) ?_; (with_reducible refine (laws_heldIntS.calls kj36 _ _ t428 1 t431 _ ?side1 ?side2 A60.out).mono ?_); (case side1 => exact ca (Kd.R_reads' HO_14.out).2.2); (case side2 => rw [show t428.length = t410.length from (Kd.R_reads' HO_14.out).1.symm]; exact (Kd.R_reads' HO_14.out).2.1); rintro e w' ⟨rfl, ⟨nd, rfl⟩⟩; refine ⟨_, rfl, ?_⟩) | ((with_reducible refine gate_dst (N := 104) rfl ?_); refine goesL_ (some 104) rfl rfl Try.func17 (by kernel_rfl) rfl #[.slice Ao70 t430.length co70, .int .i64 t431] rfl (by (try simp only [List.map_toArray, List.map_cons, List.map_nil]); first | done | (rw [show t430.length = t411.length from (Kd.R_reads' HO_15.out).1.symm] <;> rfl) | rfl | (simp only [List.length_drop, List.length_take]; rfl)) ?_; (with_reducible refine (laws_heldIntS.calls kj36 _ _ t430 t431 t432 _ ?side1 ?side2 A66.out).mono ?_); (case side1 => exact ca (Kd.R_reads' HO_15.out).2.2); (case side2 => rw [show t430.length = t411.length from (Kd.R_reads' HO_15.out).1.symm]; exact (Kd.R_reads' HO_15.out).2.1); rintro e w' ⟨rfl, ⟨nd, rfl⟩⟩; refine ⟨_, rfl, ?_⟩))
      go_ret
      exact ⟨rt_, hB HB⟩
     rw [if_neg c67] at H
     have c67b0 : decide (t432 < 0) = false := decide_eq_false c67
     clear c67
     by_cases c72 : t432 = t429
     rotate_left
     ·rw [if_neg c72] at H
      have c72b0 : (t432 == t429) = false := beq_eq_false_iff_ne.mpr c72
      have c72b1 : (t432 != t429) = true := bne_iff_ne.mpr c72
      obtain rfl := Option.some.inj H
      obtain ⟨Ao103, co103, eo103⟩ := Kd.R_slice HO_14.out
      subst eo103
      go_wp2_with (first | ((with_reducible refine gate_dst (N := 93) rfl ?_); refine goesL_ (some 93) rfl rfl Try.func16 (by kernel_rfl) rfl #[.slice Ao103 t410.length co103, .int .i64 1] rfl tm_ ?_; (with_reducible refine (laws_markIntS.calls kj36 (fun k_ => some k_ = (.slice Ao103 t410.length co103 : Value).ownBlock) (.slice Ao103 t410.length co103) t410 1 t427 t428 w _ ?side1 ?side2 A58.out).mono ?_); (case side1 => exact hB HB); (case side2 => exact Kd.R_tight rfl HO_14.out); rintro e w104 ⟨rfl, hy0, hb, hkp⟩; refine ⟨_, rfl, ?_⟩; replace HO_10 := Aside0.mk (Kd.R_mono (ok' := fun k_ => no_ v405 k_ ∧ no_ (.slice Ao103 t410.length co103) k_ ∧ no_ v415 k_) (Kd.R_keptB (HO_10.out) hkp (fun k_ hk_ hs_ => (hk_.2.1) hs_)) (fun k_ hk_ => ⟨hk_.1.1, hk_.1.2.1, hk_.1.2.2⟩)); replace HO_11 := Aside0.mk (Kd.R_mono (ok' := fun k_ => no_ v403 k_ ∧ no_ (.slice Ao103 t410.length co103) k_ ∧ no_ v415 k_) (Kd.R_keptB (HO_11.out) hkp (fun k_ hk_ hs_ => (hk_.2.1) hs_)) (fun k_ hk_ => ⟨hk_.1.1, hk_.1.2.1, hk_.1.2.2⟩)); replace HO_14 := Aside0.mk (Kd.R_reok rfl hy0 (fun k_ e_ => HO_14.out.1 k_ e_)); replace HO_15 := Aside0.mk (Kd.R_mono (ok' := fun k_ => no_ v403 k_ ∧ no_ v405 k_ ∧ no_ (.slice Ao103 t410.length co103) k_) (Kd.R_keptB (HO_15.out) hkp (fun k_ hk_ hs_ => (hk_.2.2) hs_)) (fun k_ hk_ => ⟨hk_.1.1, hk_.1.2.1, hk_.1.2.2⟩)); replace HB := Aside0.mk (hb); clear hb; obtain ⟨Ao105, co105, eo105⟩ := Kd.R_slice HO_15.out; subst eo105) | ((with_reducible refine gate_dst (N := 96) rfl ?_); refine goesL_ (some 96) rfl rfl Try.func16 (by kernel_rfl) rfl #[.slice Ao105 t411.length co105, .int .i64 t427] rfl tm_ ?_; (with_reducible refine (laws_markIntS.calls kj36 (fun k_ => some k_ = (.slice Ao105 t411.length co105 : Value).ownBlock) (.slice Ao105 t411.length co105) t411 t427 t429 t430 w _ ?side1 ?side2 A59.out).mono ?_); (case side1 => exact hB HB); (case side2 => exact Kd.R_tight rfl HO_15.out); rintro e w106 ⟨rfl, hy0, hb, hkp⟩; refine ⟨_, rfl, ?_⟩; replace HO_10 := Aside0.mk (Kd.R_mono (ok' := fun k_ => no_ v405 k_ ∧ no_ (.slice Ao103 t410.length co103) k_ ∧ no_ (.slice Ao105 t411.length co105) k_) (Kd.R_keptB (HO_10.out) hkp (fun k_ hk_ hs_ => (hk_.2.2) hs_)) (fun k_ hk_ => ⟨hk_.1.1, hk_.1.2.1, hk_.1.2.2⟩)); replace HO_11 := Aside0.mk (Kd.R_mono (ok' := fun k_ => no_ v403 k_ ∧ no_ (.slice Ao103 t410.length co103) k_ ∧ no_ (.slice Ao105 t411.length co105) k_) (Kd.R_keptB (HO_11.out) hkp (fun k_ hk_ hs_ => (hk_.2.2) hs_)) (fun k_ hk_ => ⟨hk_.1.1, hk_.1.2.1, hk_.1.2.2⟩)); replace HO_14 := Aside0.mk (Kd.R_mono (ok' := fun k_ => no_ v403 k_ ∧ no_ v405 k_ ∧ no_ (.slice Ao105 t411.length co105) k_) (Kd.R_keptB (HO_14.out) hkp (fun k_ hk_ hs_ => (hk_.2.2) hs_)) (fun k_ hk_ => ⟨hk_.1.1, hk_.1.2.1, hk_.1.2.2⟩)); replace HO_15 := Aside0.mk (Kd.R_reok rfl hy0 (fun k_ e_ => HO_15.out.1 k_ e_)); replace HB := Aside0.mk (hb); clear hb) | ((with_reducible refine gate_dst (N := 99) rfl ?_); refine goesL_ (some 99) rfl rfl Try.func17 (by kernel_rfl) rfl #[.slice Ao103 t428.length co103, .int .i64 1] rfl (by (try simp only [List.map_toArray, List.map_cons, List.map_nil]); first | done | (rw [show t428.length = t410.length from (Kd.R_reads' HO_14.out).1.symm] <;> rfl) | rfl | (simp only [List.length_drop, List.length_take]; rfl)) ?_; (with_reducible refine (laws_heldIntS.calls kj36 _ _ t428 1 t431 _ ?side1 ?side2 A60.out).mono ?_); (case side1 => exact ca (Kd.R_reads' HO_14.out).2.2); (case side2 => rw [show t428.length = t410.length from (Kd.R_reads' HO_14.out).1.symm]; exact (Kd.R_reads' HO_14.out).2.1); rintro e w' ⟨rfl, ⟨nd, rfl⟩⟩; refine ⟨_, rfl, ?_⟩) | ((with_reducible refine gate_dst (N := 104) rfl ?_); refine goesL_ (some 104) rfl rfl Try.func17 (by kernel_rfl) rfl #[.slice Ao105 t430.length co105, .int .i64 t431] rfl (by (try simp only [List.map_toArray, List.map_cons, List.map_nil]); first | done | (rw [show t430.length = t411.length from (Kd.R_reads' HO_15.out).1.symm] <;> rfl) | rfl | (simp only [List.length_drop, List.length_take]; rfl)) ?_; (with_reducible refine (laws_heldIntS.calls kj36 _ _ t430 t431 t432 _ ?side1 ?side2 A66.out).mono ?_); (case side1 => exact ca (Kd.R_reads' HO_15.out).2.2); (case side2 => rw [show t430.length = t411.length from (Kd.R_reads' HO_15.out).1.symm]; exact (Kd.R_reads' HO_15.out).2.1); rintro e w' ⟨rfl, ⟨nd, rfl⟩⟩; refine ⟨_, rfl, ?_⟩))
      go_ret
      exact ⟨rt_, hB HB⟩
     rw [if_pos c72] at H
     have c72b0 : (t432 == t429) = true := beq_iff_eq.mpr c72
     have c72b1 : (t432 != t429) = false := bne_eq_false_iff_eq.mpr c72
     clear c72
     replace H := Option.bind_eq_some_iff.mp H
     obtain ⟨t433, A730, H⟩ := H
     replace H : ((impl_BackupFor.f kj36 a0 t433 a2 a3).bind fun bt436 => ((laws_eqIntS.f kj36 bt436.1 t400).bind fun t443 => (if t443 = true then ((laws_eqIntS.f kj36 bt436.2.1 t401).bind fun t444 => (if t444 = true then (laws_FnExactBackupFor.j2 kj36 t428 t430 t429 (bt436.2.2 != t402)) else (laws_FnExactBackupFor.j2 kj36 t428 t430 t429 true))) else (laws_FnExactBackupFor.j2 kj36 t428 t430 t429 true)))) = some r := H
     have A73 := Aside0.mk A730
     clear A730
     replace H := Option.bind_eq_some_iff.mp H
     obtain ⟨⟨t436, t437, t438⟩, A740, H⟩ := H
     replace H : ((laws_eqIntS.f kj36 t436 t400).bind fun t443 => (if t443 = true then ((laws_eqIntS.f kj36 t437 t401).bind fun t444 => (if t444 = true then (laws_FnExactBackupFor.j2 kj36 t428 t430 t429 (t438 != t402)) else (laws_FnExactBackupFor.j2 kj36 t428 t430 t429 true))) else (laws_FnExactBackupFor.j2 kj36 t428 t430 t429 true))) = some r := H
     have A74 := Aside0.mk A740
     clear A740
     have HC75 := Aside0.mk H
     clear H
     obtain ⟨Ao76, co76, eo76⟩ := Kd.R_slice HO_14.out
     subst eo76
     go_upto_region 29 with (first | ((with_reducible refine gate_dst (N := 93) rfl ?_); refine goesL_ (some 93) rfl rfl Try.func16 (by kernel_rfl) rfl #[.slice Ao76 t410.length co76, .int .i64 1] rfl tm_ ?_; (with_reducible refine (laws_markIntS.calls kj36 (fun k_ => some k_ = (.slice Ao76 t410.length co76 : Value).ownBlock) (.slice Ao76 t410.length co76) t410 1 t427 t428 w _ ?side1 ?side2 A58.out).mono ?_); (case side1 => exact hB HB); (case side2 => exact Kd.R_tight rfl HO_14.out); rintro e w77 ⟨rfl, hy0, hb, hkp⟩; refine ⟨_, rfl, ?_⟩; replace HO_10 := Aside0.mk (Kd.R_mono (ok' := fun k_ => no_ v405 k_ ∧ no_ (.slice Ao76 t410.length co76) k_ ∧ no_ v415 k_) (Kd.R_keptB (HO_10.out) hkp (fun k_ hk_ hs_ => (hk_.2.1) hs_)) (fun k_ hk_ => ⟨hk_.1.1, hk_.1.2.1, hk_.1.2.2⟩)); replace HO_11 := Aside0.mk (Kd.R_mono (ok' := fun k_ => no_ v403 k_ ∧ no_ (.slice Ao76 t410.length co76) k_ ∧ no_ v415 k_) (Kd.R_keptB (HO_11.out) hkp (fun k_ hk_ hs_ => (hk_.2.1) hs_)) (fun k_ hk_ => ⟨hk_.1.1, hk_.1.2.1, hk_.1.2.2⟩)); replace HO_14 := Aside0.mk (Kd.R_reok rfl hy0 (fun k_ e_ => HO_14.out.1 k_ e_)); replace HO_15 := Aside0.mk (Kd.R_mono (ok' := fun k_ => no_ v403 k_ ∧ no_ v405 k_ ∧ no_ (.slice Ao76 t410.length co76) k_) (Kd.R_keptB (HO_15.out) hkp (fun k_ hk_ hs_ => (hk_.2.2) hs_)) (fun k_ hk_ => ⟨hk_.1.1, hk_.1.2.1, hk_.1.2.2⟩)); replace HB := Aside0.mk (hb); clear hb; obtain ⟨Ao78, co78, eo78⟩ := Kd.R_slice HO_15.out; subst eo78) | ((with_reducible refine gate_dst (N := 96) rfl ?_); refine goesL_ (some 96) rfl rfl Try.func16 (by kernel_rfl) rfl #[.slice Ao78 t411.length co78, .int .i64 t427] rfl tm_ ?_; (with_reducible refine (laws_markIntS.calls kj36 (fun k_ => some k_ = (.slice Ao78 t411.length co78 : Value).ownBlock) (.slice Ao78 t411.length co78) t411 t427 t429 t430 w _ ?side1 ?side2 A59.out).mono ?_); (case side1 => exact hB HB); (case side2 => exact Kd.R_tight rfl HO_15.out); rintro e w79 ⟨rfl, hy0, hb, hkp⟩; refine ⟨_, rfl, ?_⟩; replace HO_10 := Aside0.mk (Kd.R_mono (ok' := fun k_ => no_ v405 k_ ∧ no_ (.slice Ao76 t410.length co76) k_ ∧ no_ (.slice Ao78 t411.length co78) k_) (Kd.R_keptB (HO_10.out) hkp (fun k_ hk_ hs_ => (hk_.2.2) hs_)) (fun k_ hk_ => ⟨hk_.1.1, hk_.1.2.1, hk_.1.2.2⟩)); replace HO_11 := Aside0.mk (Kd.R_mono (ok' := fun k_ => no_ v403 k_ ∧ no_ (.slice Ao76 t410.length co76) k_ ∧ no_ (.slice Ao78 t411.length co78) k_) (Kd.R_keptB (HO_11.out) hkp (fun k_ hk_ hs_ => (hk_.2.2) hs_)) (fun k_ hk_ => ⟨hk_.1.1, hk_.1.2.1, hk_.1.2.2⟩)); replace HO_14 := Aside0.mk (Kd.R_mono (ok' := fun k_ => no_ v403 k_ ∧ no_ v405 k_ ∧ no_ (.slice Ao78 t411.length co78) k_) (Kd.R_keptB (HO_14.out) hkp (fun k_ hk_ hs_ => (hk_.2.2) hs_)) (fun k_ hk_ => ⟨hk_.1.1, hk_.1.2.1, hk_.1.2.2⟩)); replace HO_15 := Aside0.mk (Kd.R_reok rfl hy0 (fun k_ e_ => HO_15.out.1 k_ e_)); replace HB := Aside0.mk (hb); clear hb) | ((with_reducible refine gate_dst (N := 99) rfl ?_); refine goesL_ (some 99) rfl rfl Try.func17 (by kernel_rfl) rfl #[.slice Ao76 t428.length co76, .int .i64 1] rfl (by (try simp only [List.map_toArray, List.map_cons, List.map_nil]); first | done | (rw [show t428.length = t410.length from (Kd.R_reads' HO_14.out).1.symm] <;> rfl) | rfl | (simp only [List.length_drop, List.length_take]; rfl)) ?_; (with_reducible refine (laws_heldIntS.calls kj36 _ _ t428 1 t431 _ ?side1 ?side2 A60.out).mono ?_); (case side1 => exact ca (Kd.R_reads' HO_14.out).2.2); (case side2 => rw [show t428.length = t410.length from (Kd.R_reads' HO_14.out).1.symm]; exact (Kd.R_reads' HO_14.out).2.1); rintro e w' ⟨rfl, ⟨nd, rfl⟩⟩; refine ⟨_, rfl, ?_⟩) | ((with_reducible refine gate_dst (N := 104) rfl ?_); refine goesL_ (some 104) rfl rfl Try.func17 (by kernel_rfl) rfl #[.slice Ao78 t430.length co78, .int .i64 t431] rfl (by (try simp only [List.map_toArray, List.map_cons, List.map_nil]); first | done | (rw [show t430.length = t411.length from (Kd.R_reads' HO_15.out).1.symm] <;> rfl) | rfl | (simp only [List.length_drop, List.length_take]; rfl)) ?_; (with_reducible refine (laws_heldIntS.calls kj36 _ _ t430 t431 t432 _ ?side1 ?side2 A66.out).mono ?_); (case side1 => exact ca (Kd.R_reads' HO_15.out).2.2); (case side2 => rw [show t430.length = t411.length from (Kd.R_reads' HO_15.out).1.symm]; exact (Kd.R_reads' HO_15.out).2.1); rintro e w' ⟨rfl, ⟨nd, rfl⟩⟩; refine ⟨_, rfl, ?_⟩) | ((with_reducible refine gate_dst (N := 113) rfl ?_); refine goesL_ (some 113) rfl rfl Try.func11 (by kernel_rfl) rfl #[.slice A1 l1.length c1] rfl tm_ ?_; (with_reducible refine (laws_toEdgeS.calls kj36 _ _ l1 t433 _ ?side1 ?side2 A73.out).mono ?_); (case side1 => exact ca (Kd.C_below HR1.out (hB HB))); (case side2 => exact HC1.out); rintro e w80 ⟨v434, rfl, ho0, hb⟩; refine ⟨_, rfl, ?_⟩; have HO435 := Aside0.mk (Kd.R_lower ho0 (below_size (hB HB))); replace HO_10 := rb_ HO_10 hb; replace HO_11 := rb_ HO_11 hb; replace HO_14 := rb_ HO_14 hb; replace HO_15 := rb_ HO_15 hb; replace HB := bst_ HB hb; clear hb ho0; obtain ⟨Ao81, co81, eo81⟩ := Kd.R_slice HO435.out; subst eo81) | ((with_reducible refine gate_dst (N := 116) rfl ?_); refine goesL_ (some 116) rfl rfl Try.func19 (by kernel_rfl) rfl #[.int .i64 a0, .slice Ao81 t433.length co81, .int .i64 a2, .int .i64 a3] rfl tm_ ?_; (with_reducible refine (impl_BackupFor.calls kj36 a0 _ _ t433 a2 a3 t436 t437 t438 _ ?side1 ?side2 A74.out).mono ?_); (case side1 => exact ca (Kd.R_reads' HO435.out).2.2); (case side2 => exact (Kd.R_reads' HO435.out).2.1); rintro e w82 ⟨v439, v441, rfl, ho0, ho1, hb⟩; refine ⟨_, rfl, ?_⟩; have HO440 := Aside0.mk (Kd.R_lower (Kd.R_new' (Kd.R_new' (Kd.R_new' (Kd.R_new' ho0 (rl_ HO_10)) (rl_ HO_11)) (rl_ HO_14)) (rl_ HO_15)) (below_size (hB HB))); have HO442 := Aside0.mk (Kd.R_lower (Kd.R_new' (Kd.R_new' (Kd.R_new' (Kd.R_new' ho1 (rl_ HO_10)) (rl_ HO_11)) (rl_ HO_14)) (rl_ HO_15)) (below_size (hB HB))); replace HO_10 := rt2_ HO_10 hb ho0 ho1; replace HO_11 := rt2_ HO_11 hb ho0 ho1; replace HO_14 := rt2_ HO_14 hb ho0 ho1; replace HO_15 := rt2_ HO_15 hb ho0 ho1; replace HO435 := rb_ HO435 hb; replace HB := bst_ HB hb; clear hb ho0 ho1))
     (try simp only [Act.put, List.setIfInBounds_toArray, List.set_cons_zero, List.set_cons_succ])
     go_cut [134] (fun v134 wc => ∃ (kq : Nat) (x134_74 : Bool), v134 = .bool x134_74 ∧ Aside0 (laws_FnExactBackupFor.j2 kq t428 t430 t429 x134_74 = some r) ∧ Aside0 (kq ≤ kj36) ∧ Aside0 (Kd.R (Kd.int .i64) 3 wc w.heap.size (fun k_ => no_ (.slice Ao78 t411.length co78) k_) (.slice Ao76 t410.length co76) t428) ∧ Aside0 (Kd.R (Kd.int .i64) 3 wc w.heap.size (fun k_ => no_ (.slice Ao76 t410.length co76) k_) (.slice Ao78 t411.length co78) t430) ∧ Aside0 (Below w.heap.size w wc))
     case first =>
      have H := HC75.out
      clear HC75
      replace H := Option.bind_eq_some_iff.mp H
      obtain ⟨t443, A830, H⟩ := H
      replace H : (if t443 = true then ((laws_eqIntS.f kj36 t437 t401).bind fun t444 => (if t444 = true then (laws_FnExactBackupFor.j2 kj36 t428 t430 t429 (t438 != t402)) else (laws_FnExactBackupFor.j2 kj36 t428 t430 t429 true))) else (laws_FnExactBackupFor.j2 kj36 t428 t430 t429 true)) = some r := H
      have A83 := Aside0.mk A830
      clear A830
      by_cases c84 : t443 = true
      rotate_left
      ·replace c84 := Bool.eq_false_iff.mpr c84
       subst c84
       rw [if_neg (show ¬ (false = true) by decide)] at H
       have H' := Aside0.mk H
       clear H
       obtain ⟨Ao95, co95, eo95⟩ := Kd.R_slice HO440.out
       subst eo95
       obtain ⟨Ao96, co96, eo96⟩ := Kd.R_slice HO_10.out
       subst eo96
       go_wp2_with (first | ((with_reducible refine gate_dst (N := 122) rfl ?_); refine goesL_ (some 122) rfl rfl Try.func13 (by kernel_rfl) rfl #[.slice Ao95 t436.length co95, .slice Ao96 t400.length co96] rfl tm_ ?_; (with_reducible refine (laws_eqIntS.calls kj36 _ _ t436 _ _ t400 false _ ?side1 ?side2 ?side3 ?side4 A83.out).mono ?_); (case side1 => exact ca (Kd.R_reads' HO440.out).2.2); (case side2 => exact (Kd.R_reads' HO440.out).2.1); (case side3 => exact ca (Kd.R_reads' HO_10.out).2.2); (case side4 => exact (Kd.R_reads' HO_10.out).2.1); rintro e w' ⟨rfl, ⟨nd, rfl⟩⟩; refine ⟨_, rfl, ?_⟩))
       go_meet
       case rel => exact ⟨_, (true), (by first | rfl | (simp; done) | (simp [*]; done)), H', ⟨by have := HJ10.out; have := HJ36.out; first | omega | exact Nat.le_refl _⟩, rm_ HO_14 (fun _ hk => hk.1.1.2.2), rm_ HO_15 (fun _ hk => hk.1.1.2.2), ⟨hB HB⟩⟩
      subst c84
      rw [if_pos rfl] at H
      replace H := Option.bind_eq_some_iff.mp H
      obtain ⟨t444, A850, H⟩ := H
      replace H : (if t444 = true then (laws_FnExactBackupFor.j2 kj36 t428 t430 t429 (t438 != t402)) else (laws_FnExactBackupFor.j2 kj36 t428 t430 t429 true)) = some r := H
      have A85 := Aside0.mk A850
      clear A850
      by_cases c86 : t444 = true
      ·subst c86
       rw [if_pos rfl] at H
       have H' := Aside0.mk H
       clear H
       obtain ⟨Ao87, co87, eo87⟩ := Kd.R_slice HO440.out
       subst eo87
       obtain ⟨Ao88, co88, eo88⟩ := Kd.R_slice HO_10.out
       subst eo88
       go_wp2_with (first | ((with_reducible refine gate_dst (N := 122) rfl ?_); refine goesL_ (some 122) rfl rfl Try.func13 (by kernel_rfl) rfl #[.slice Ao87 t436.length co87, .slice Ao88 t400.length co88] rfl tm_ ?_; (with_reducible refine (laws_eqIntS.calls kj36 _ _ t436 _ _ t400 true _ ?side1 ?side2 ?side3 ?side4 A83.out).mono ?_); (case side1 => exact ca (Kd.R_reads' HO440.out).2.2); (case side2 => exact (Kd.R_reads' HO440.out).2.1); (case side3 => exact ca (Kd.R_reads' HO_10.out).2.2); (case side4 => exact (Kd.R_reads' HO_10.out).2.1); rintro e w' ⟨rfl, ⟨nd, rfl⟩⟩; refine ⟨_, rfl, ?_⟩; obtain ⟨Ao89, co89, eo89⟩ := Kd.R_slice HO442.out; subst eo89; obtain ⟨Ao90, co90, eo90⟩ := Kd.R_slice HO_11.out; subst eo90) | (go_at_call 13; (with_reducible refine (laws_eqIntS.calls kj36 _ _ t437 _ _ t401 true _ ?side1 ?side2 ?side3 ?side4 A85.out).mono ?_); (case side1 => exact ca (Kd.R_reads' HO442.out).2.2); (case side2 => exact (Kd.R_reads' HO442.out).2.1); (case side3 => exact ca (Kd.R_reads' HO_11.out).2.2); (case side4 => exact (Kd.R_reads' HO_11.out).2.1); rintro e w' ⟨rfl, ⟨nd, rfl⟩⟩))
       go_meet
       case rel => exact ⟨_, ((t438 != t402)), (by first | rfl | (simp; done) | (simp [*]; done)), H', ⟨by have := HJ10.out; have := HJ36.out; first | omega | exact Nat.le_refl _⟩, rm_ HO_14 (fun _ hk => hk.1.1.2.2), rm_ HO_15 (fun _ hk => hk.1.1.2.2), ⟨hB HB⟩⟩
      replace c86 := Bool.eq_false_iff.mpr c86
      subst c86
      rw [if_neg (show ¬ (false = true) by decide)] at H
      have H' := Aside0.mk H
      clear H
      obtain ⟨Ao91, co91, eo91⟩ := Kd.R_slice HO440.out
      subst eo91
      obtain ⟨Ao92, co92, eo92⟩ := Kd.R_slice HO_10.out
      subst eo92
      go_wp2_with (first | ((with_reducible refine gate_dst (N := 122) rfl ?_); refine goesL_ (some 122) rfl rfl Try.func13 (by kernel_rfl) rfl #[.slice Ao91 t436.length co91, .slice Ao92 t400.length co92] rfl tm_ ?_; (with_reducible refine (laws_eqIntS.calls kj36 _ _ t436 _ _ t400 true _ ?side1 ?side2 ?side3 ?side4 A83.out).mono ?_); (case side1 => exact ca (Kd.R_reads' HO440.out).2.2); (case side2 => exact (Kd.R_reads' HO440.out).2.1); (case side3 => exact ca (Kd.R_reads' HO_10.out).2.2); (case side4 => exact (Kd.R_reads' HO_10.out).2.1); rintro e w' ⟨rfl, ⟨nd, rfl⟩⟩; refine ⟨_, rfl, ?_⟩; obtain ⟨Ao93, co93, eo93⟩ := Kd.R_slice HO442.out; subst eo93; obtain ⟨Ao94, co94, eo94⟩ := Kd.R_slice HO_11.out; subst eo94) | (go_at_call 13; (with_reducible refine (laws_eqIntS.calls kj36 _ _ t437 _ _ t401 false _ ?side1 ?side2 ?side3 ?side4 A85.out).mono ?_); (case side1 => exact ca (Kd.R_reads' HO442.out).2.2); (case side2 => exact (Kd.R_reads' HO442.out).2.1); (case side3 => exact ca (Kd.R_reads' HO_11.out).2.2); (case side4 => exact (Kd.R_reads' HO_11.out).2.1); rintro e w' ⟨rfl, ⟨nd, rfl⟩⟩))
      go_meet
      case rel => exact ⟨_, (true), (by first | rfl | (simp; done) | (simp [*]; done)), H', ⟨by have := HJ10.out; have := HJ36.out; first | omega | exact Nat.le_refl _⟩, rm_ HO_14 (fun _ hk => hk.1.1.2.2), rm_ HO_15 (fun _ hk => hk.1.1.2.2), ⟨hB HB⟩⟩
     case rest =>
      clear HC75
      try clear c1
      try clear c6
      try clear c6b0
      try clear c32
      try clear c35
      try clear c57
      try clear c61
      try clear c61b0
      try clear c67
      try clear c67b0
      try clear c72
      try clear c72b0
      try clear c72b1
      obtain ⟨kq, x134_74, rfl, HA, HJ74, HO_14, HO_15, HB⟩ := hcut
      have hl14_74 := (Kd.R_reads' HO_14.out).1
      rw [hl14_74] at HO_14
      (try simp only [hl14_74])
      (try simp only [hl14_74] at HO_15)
      have hl15_74 := (Kd.R_reads' HO_15.out).1
      rw [hl15_74] at HO_15
      (try simp only [hl15_74])
      (try simp only [hl15_74] at HO_14)
      cases kq with
      | zero => exact absurd HA.out (by simp [laws_FnExactBackupFor.j2])
      | succ kj74 =>
       have H := HA.out
       clear HA
       simp only [laws_FnExactBackupFor.j2] at H
       by_cases c97 : x134_74 = true
       ·subst c97
        rw [if_pos rfl] at H
        obtain rfl := Option.some.inj H
        go_wp2
        go_ret
        exact ⟨rt_, hB HB⟩
       replace c97 := Bool.eq_false_iff.mpr c97
       subst c97
       rw [if_neg (show ¬ (false = true) by decide)] at H
       replace H := Option.bind_eq_some_iff.mp H
       obtain ⟨t445, A980, H⟩ := H
       replace H : (if t445 < 0 then (some false) else ((laws_heldIntS.f kj74 t430 t445).bind fun t446 => (if t446 < 0 then (some false) else (if t446 = t429 then (some true) else (some false))))) = some r := H
       have A98 := Aside0.mk A980
       clear A980
       by_cases c99 : t445 < 0
       ·rw [if_pos c99] at H
        have c99b0 : decide (t445 < 0) = true := decide_eq_true c99
        clear c99
        obtain rfl := Option.some.inj H
        go_wp2_with (first | ((with_reducible refine gate_dst (N := 137) rfl ?_); refine goesL_ (some 137) rfl rfl Try.func17 (by kernel_rfl) rfl #[.slice Ao76 t428.length co76, .int .i64 1] rfl tm_ ?_; (with_reducible refine (laws_heldIntS.calls kj74 _ _ t428 1 t445 _ ?side1 ?side2 A98.out).mono ?_); (case side1 => exact ca (Kd.R_reads' HO_14.out).2.2); (case side2 => exact (Kd.R_reads' HO_14.out).2.1); rintro e w' ⟨rfl, ⟨nd, rfl⟩⟩; refine ⟨_, rfl, ?_⟩))
        go_ret
        exact ⟨rt_, hB HB⟩
       rw [if_neg c99] at H
       have c99b0 : decide (t445 < 0) = false := decide_eq_false c99
       clear c99
       replace H := Option.bind_eq_some_iff.mp H
       obtain ⟨t446, A1000, H⟩ := H
       replace H : (if t446 < 0 then (some false) else (if t446 = t429 then (some true) else (some false))) = some r := H
       have A100 := Aside0.mk A1000
       clear A1000
       by_cases c101 : t446 < 0
       ·rw [if_pos c101] at H
        have c101b0 : decide (t446 < 0) = true := decide_eq_true c101
        clear c101
        obtain rfl := Option.some.inj H
        go_wp2_with (first | ((with_reducible refine gate_dst (N := 137) rfl ?_); refine goesL_ (some 137) rfl rfl Try.func17 (by kernel_rfl) rfl #[.slice Ao76 t428.length co76, .int .i64 1] rfl tm_ ?_; (with_reducible refine (laws_heldIntS.calls kj74 _ _ t428 1 t445 _ ?side1 ?side2 A98.out).mono ?_); (case side1 => exact ca (Kd.R_reads' HO_14.out).2.2); (case side2 => exact (Kd.R_reads' HO_14.out).2.1); rintro e w' ⟨rfl, ⟨nd, rfl⟩⟩; refine ⟨_, rfl, ?_⟩) | ((with_reducible refine gate_dst (N := 142) rfl ?_); refine goesL_ (some 142) rfl rfl Try.func17 (by kernel_rfl) rfl #[.slice Ao78 t430.length co78, .int .i64 t445] rfl tm_ ?_; (with_reducible refine (laws_heldIntS.calls kj74 _ _ t430 t445 t446 _ ?side1 ?side2 A100.out).mono ?_); (case side1 => exact ca (Kd.R_reads' HO_15.out).2.2); (case side2 => exact (Kd.R_reads' HO_15.out).2.1); rintro e w' ⟨rfl, ⟨nd, rfl⟩⟩; refine ⟨_, rfl, ?_⟩))
        go_ret
        exact ⟨rt_, hB HB⟩
       rw [if_neg c101] at H
       have c101b0 : decide (t446 < 0) = false := decide_eq_false c101
       clear c101
       by_cases c102 : t446 = t429
       rotate_left
       ·rw [if_neg c102] at H
        have c102b0 : (t446 == t429) = false := beq_eq_false_iff_ne.mpr c102
        have c102b1 : (t446 != t429) = true := bne_iff_ne.mpr c102
        obtain rfl := Option.some.inj H
        go_wp2_with (first | ((with_reducible refine gate_dst (N := 137) rfl ?_); refine goesL_ (some 137) rfl rfl Try.func17 (by kernel_rfl) rfl #[.slice Ao76 t428.length co76, .int .i64 1] rfl tm_ ?_; (with_reducible refine (laws_heldIntS.calls kj74 _ _ t428 1 t445 _ ?side1 ?side2 A98.out).mono ?_); (case side1 => exact ca (Kd.R_reads' HO_14.out).2.2); (case side2 => exact (Kd.R_reads' HO_14.out).2.1); rintro e w' ⟨rfl, ⟨nd, rfl⟩⟩; refine ⟨_, rfl, ?_⟩) | ((with_reducible refine gate_dst (N := 142) rfl ?_); refine goesL_ (some 142) rfl rfl Try.func17 (by kernel_rfl) rfl #[.slice Ao78 t430.length co78, .int .i64 t445] rfl tm_ ?_; (with_reducible refine (laws_heldIntS.calls kj74 _ _ t430 t445 t446 _ ?side1 ?side2 A100.out).mono ?_); (case side1 => exact ca (Kd.R_reads' HO_15.out).2.2); (case side2 => exact (Kd.R_reads' HO_15.out).2.1); rintro e w' ⟨rfl, ⟨nd, rfl⟩⟩; refine ⟨_, rfl, ?_⟩))
        go_ret
        exact ⟨rt_, hB HB⟩
       rw [if_pos c102] at H
       have c102b0 : (t446 == t429) = true := beq_iff_eq.mpr c102
       have c102b1 : (t446 != t429) = false := bne_eq_false_iff_eq.mpr c102
       clear c102
       obtain rfl := Option.some.inj H
       go_wp2_with (first | ((with_reducible refine gate_dst (N := 137) rfl ?_); refine goesL_ (some 137) rfl rfl Try.func17 (by kernel_rfl) rfl #[.slice Ao76 t428.length co76, .int .i64 1] rfl tm_ ?_; (with_reducible refine (laws_heldIntS.calls kj74 _ _ t428 1 t445 _ ?side1 ?side2 A98.out).mono ?_); (case side1 => exact ca (Kd.R_reads' HO_14.out).2.2); (case side2 => exact (Kd.R_reads' HO_14.out).2.1); rintro e w' ⟨rfl, ⟨nd, rfl⟩⟩; refine ⟨_, rfl, ?_⟩) | ((with_reducible refine gate_dst (N := 142) rfl ?_); refine goesL_ (some 142) rfl rfl Try.func17 (by kernel_rfl) rfl #[.slice Ao78 t430.length co78, .int .i64 t445] rfl tm_ ?_; (with_reducible refine (laws_heldIntS.calls kj74 _ _ t430 t445 t446 _ ?side1 ?side2 A100.out).mono ?_); (case side1 => exact ca (Kd.R_reads' HO_15.out).2.2); (case side2 => exact (Kd.R_reads' HO_15.out).2.1); rintro e w' ⟨rfl, ⟨nd, rfl⟩⟩; refine ⟨_, rfl, ?_⟩))
       go_ret
       exact ⟨rt_, hB HB⟩

-- NOT PRINTED: function 20 (spec_WaysApart)

-- NOT PRINTED: function 22 (laws_eqIntSS)

-- NOT PRINTED: function 23 (laws_markIntSS)

-- NOT PRINTED: function 24 (laws_heldIntSS)

-- NOT PRINTED: function 5 (laws_FnExactWaysApart)

end Go.Proofs.Ythambdfgkfkcmaa.P
